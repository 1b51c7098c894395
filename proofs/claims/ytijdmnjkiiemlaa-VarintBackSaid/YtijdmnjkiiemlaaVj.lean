/- Layer 1: a number's size; the fixed fact. -/
import Derived.Test.YtijdmnjkiiemlaaVi
namespace Go.Proofs.Ytijdmnjkiiemlaa.H
open Go.RowKit Go.Proofs.YtijdmnjkiiemlaaW.PrintWords
set_option linter.unusedVariables false
set_option linter.unusedSimpArgs false

theorem len_56 (x : Int) (h0 : 0 ≤ x) (h1 : x < 2 ^ 64) (h2 : 2 ^ 56 ≤ x) : wrap64 (56 + wrap64 (Lib.len8 (x / 4294967296 / 65536 / 256))) = ((Lib.bitLen x.toNat : Nat) : Int) := by
  have e0 : x / 4294967296 / 65536 / 256 = ((x.toNat / 72057594037927936 : Nat) : Int) := by omega
  have l := Lib.bitLen_le8' (x / 4294967296 / 65536 / 256) (by omega) (by omega)
  have s := Lib.bitLen_shift56 x.toNat (by omega) (by omega)
  rw [Lib.len8_of (x / 4294967296 / 65536 / 256) (by omega) (by omega)]
  rw [e0, Int.toNat_natCast] at l ⊢
  rw [s]
  unfold wrap64
  omega
theorem len_48 (x : Int) (h0 : 0 ≤ x) (h1 : x < 2 ^ 56) (h2 : 2 ^ 48 ≤ x) : wrap64 (48 + wrap64 (Lib.len8 (x / 4294967296 / 65536))) = ((Lib.bitLen x.toNat : Nat) : Int) := by
  have e0 : x / 4294967296 / 65536 = ((x.toNat / 281474976710656 : Nat) : Int) := by omega
  have l := Lib.bitLen_le8' (x / 4294967296 / 65536) (by omega) (by omega)
  have s := Lib.bitLen_shift48 x.toNat (by omega) (by omega)
  rw [Lib.len8_of (x / 4294967296 / 65536) (by omega) (by omega)]
  rw [e0, Int.toNat_natCast] at l ⊢
  rw [s]
  unfold wrap64
  omega
theorem len_40 (x : Int) (h0 : 0 ≤ x) (h1 : x < 2 ^ 48) (h2 : 2 ^ 40 ≤ x) : wrap64 (40 + wrap64 (Lib.len8 (x / 4294967296 / 256))) = ((Lib.bitLen x.toNat : Nat) : Int) := by
  have e0 : x / 4294967296 / 256 = ((x.toNat / 1099511627776 : Nat) : Int) := by omega
  have l := Lib.bitLen_le8' (x / 4294967296 / 256) (by omega) (by omega)
  have s := Lib.bitLen_shift40 x.toNat (by omega) (by omega)
  rw [Lib.len8_of (x / 4294967296 / 256) (by omega) (by omega)]
  rw [e0, Int.toNat_natCast] at l ⊢
  rw [s]
  unfold wrap64
  omega
theorem len_32 (x : Int) (h0 : 0 ≤ x) (h1 : x < 2 ^ 40) (h2 : 2 ^ 32 ≤ x) : wrap64 (32 + wrap64 (Lib.len8 (x / 4294967296))) = ((Lib.bitLen x.toNat : Nat) : Int) := by
  have e0 : x / 4294967296 = ((x.toNat / 4294967296 : Nat) : Int) := by omega
  have l := Lib.bitLen_le8' (x / 4294967296) (by omega) (by omega)
  have s := Lib.bitLen_shift32 x.toNat (by omega) (by omega)
  rw [Lib.len8_of (x / 4294967296) (by omega) (by omega)]
  rw [e0, Int.toNat_natCast] at l ⊢
  rw [s]
  unfold wrap64
  omega
theorem len_24 (x : Int) (h0 : 0 ≤ x) (h1 : x < 2 ^ 32) (h2 : 2 ^ 24 ≤ x) : wrap64 (24 + wrap64 (Lib.len8 (x / 65536 / 256))) = ((Lib.bitLen x.toNat : Nat) : Int) := by
  have e0 : x / 65536 / 256 = ((x.toNat / 16777216 : Nat) : Int) := by omega
  have l := Lib.bitLen_le8' (x / 65536 / 256) (by omega) (by omega)
  have s := Lib.bitLen_shift24 x.toNat (by omega) (by omega)
  rw [Lib.len8_of (x / 65536 / 256) (by omega) (by omega)]
  rw [e0, Int.toNat_natCast] at l ⊢
  rw [s]
  unfold wrap64
  omega
theorem len_16 (x : Int) (h0 : 0 ≤ x) (h1 : x < 2 ^ 24) (h2 : 2 ^ 16 ≤ x) : wrap64 (16 + wrap64 (Lib.len8 (x / 65536))) = ((Lib.bitLen x.toNat : Nat) : Int) := by
  have e0 : x / 65536 = ((x.toNat / 65536 : Nat) : Int) := by omega
  have l := Lib.bitLen_le8' (x / 65536) (by omega) (by omega)
  have s := Lib.bitLen_shift16 x.toNat (by omega) (by omega)
  rw [Lib.len8_of (x / 65536) (by omega) (by omega)]
  rw [e0, Int.toNat_natCast] at l ⊢
  rw [s]
  unfold wrap64
  omega
theorem len_8 (x : Int) (h0 : 0 ≤ x) (h1 : x < 2 ^ 16) (h2 : 2 ^ 8 ≤ x) : wrap64 (8 + wrap64 (Lib.len8 (x / 256))) = ((Lib.bitLen x.toNat : Nat) : Int) := by
  have e0 : x / 256 = ((x.toNat / 256 : Nat) : Int) := by omega
  have l := Lib.bitLen_le8' (x / 256) (by omega) (by omega)
  have s := Lib.bitLen_shift8 x.toNat (by omega) (by omega)
  rw [Lib.len8_of (x / 256) (by omega) (by omega)]
  rw [e0, Int.toNat_natCast] at l ⊢
  rw [s]
  unfold wrap64
  omega
theorem len_0 (x : Int) (h0 : 0 ≤ x) (h1 : x < 256) : wrap64 (wrap64 (Lib.len8 x)) = ((Lib.bitLen x.toNat : Nat) : Int) := by
  have l := Lib.bitLen_le8' x (by omega) (by omega)
  rw [Lib.len8_of x (by omega) (by omega)]
  unfold wrap64
  omega
set_option maxHeartbeats 4000000 in
set_option maxRecDepth 100000 in
theorem Len64_any (x : Int) (w : World) (h0 : 0 ≤ x) (h1 : x ≤ 18446744073709551615) :
    Calls Try.prog 24 #[.int .u64 x] w fun e w' => e = .returned (.int .i64 (Lib.bitLen x.toNat)) ∧ w = w' := by
  have hsz := Lib.len8tab_size
  have hid : ∀ (i : Int) (h : i.toNat < Lib.len8tab.size), (((Lib.len8tab[i.toNat]'h).toNat : Nat) : Int) = Lib.len8 i := fun i h => by simp [Lib.len8, h]
  go_enter Try.func24, Try.ntmps24
  go_wp2
  all_goals (go_ret; refine ⟨congrArg Ending.returned (congrArg (Value.int IntKind.i64) ?_), rfl⟩)
  all_goals clear hsz hid
  all_goals first | exact len_56 x h0 (by omega) (by omega) | exact len_48 x h0 (by omega) (by omega) | exact len_40 x h0 (by omega) (by omega) | exact len_32 x h0 (by omega) (by omega) | exact len_24 x h0 (by omega) (by omega) | exact len_16 x h0 (by omega) (by omega) | exact len_8 x h0 (by omega) (by omega) | exact len_0 x h0 (by omega)

theorem aux_zero (f : Nat) : Lib.bitLenAux f 0 = 0 := by cases f <;> simp [Lib.bitLenAux]
theorem aux_more (f : Nat) : ∀ x, x < 2 ^ f → ∀ g, f ≤ g → Lib.bitLenAux g x = Lib.bitLenAux f x := by
  induction f with
  | zero => intro x hx g _; have : x = 0 := by omega
            subst this; rw [aux_zero, aux_zero]
  | succ f ih =>
    intro x hx g hg
    obtain ⟨g, rfl⟩ : ∃ k, g = k + 1 := ⟨g - 1, by omega⟩
    unfold Lib.bitLenAux
    split
    · rfl
    · rw [ih (x / 2) (by rw [Nat.pow_succ] at hx; omega) g (by omega)]
theorem bitLen_half (x : Nat) (h0 : 0 < x) (h : x < 2 ^ 64) : Lib.bitLen x = 1 + Lib.bitLen (x / 2) := by
  unfold Lib.bitLen
  rw [show (64 : Nat) = 63 + 1 from rfl, Lib.bitLenAux, if_neg (by omega), aux_more 63 (x / 2) (by omega) (63 + 1) (by omega)]
theorem bitLen_128 (x : Nat) (h0 : 128 ≤ x) (h : x < 2 ^ 64) : Lib.bitLen x = 7 + Lib.bitLen (x / 128) := by
  rw [bitLen_half x (by omega) h, bitLen_half (x / 2) (by omega) (by omega), bitLen_half (x / 2 / 2) (by omega) (by omega), bitLen_half (x / 2 / 2 / 2) (by omega) (by omega),
    bitLen_half (x / 2 / 2 / 2 / 2) (by omega) (by omega), bitLen_half (x / 2 / 2 / 2 / 2 / 2) (by omega) (by omega), bitLen_half (x / 2 / 2 / 2 / 2 / 2 / 2) (by omega) (by omega),
    show x / 2 / 2 / 2 / 2 / 2 / 2 / 2 = x / 128 by omega]
  omega
theorem bitLen_small (x : Nat) (h : x < 128) : Lib.bitLen x ≤ 7 := by
  have k : ∀ n : Fin 128, Lib.bitLen n.val ≤ 7 := by decide +kernel
  exact k ⟨x, h⟩
theorem aux_le (f : Nat) : ∀ x, Lib.bitLenAux f x ≤ f := by
  induction f with
  | zero => intro x; simp [Lib.bitLenAux]
  | succ f ih => intro x; unfold Lib.bitLenAux; have := ih (x / 2); split <;> omega
/-- how many bytes a number has -/
theorem digs_bitLen (n : Nat) : ∀ x : Nat, x < 2 ^ 64 → x < 128 ^ (n + 1) → (digs n (x : Int)).length = max 1 ((Lib.bitLen x + 6) / 7) := by
  induction n with
  | zero => intro x _ h; have := bitLen_small x (by omega); simp [digs]; omega
  | succ n ih =>
    intro x h1 h2
    by_cases h : 128 ≤ x
    · rw [digs_great n _ (by omega), List.length_cons, show (x : Int) / 128 = ((x / 128 : Nat) : Int) by omega, ih (x / 128) (by omega) (by rw [Nat.pow_succ] at h2; omega), bitLen_128 x h h1]
      have : 0 < Lib.bitLen (x / 128) := by rw [bitLen_half (x / 128) (by omega) (by omega)]; omega
      omega
    · have := bitLen_small x (by omega)
      rw [digs_small _ _ (by omega)]
      simp only [List.length_cons, List.length_nil]
      omega

set_option maxHeartbeats 400000 in
theorem Size_any (n : Int) (w : World) (h1 : n ≤ 9223372036854775807) :
    Calls Try.prog 16 #[.int .i64 n] w fun e w' => e = .returned (.int .i64 (putL n).length) ∧ w = w' := by
  by_cases h : n < 0
  · go_enter Try.func16, Try.ntmps16
    go_wp2
    go_ret
    exact ⟨by rw [putL, if_pos h]; rfl, rfl⟩
  · obtain ⟨m, rfl⟩ := Int.eq_ofNat_of_zero_le (show 0 ≤ n by omega)
    have hb : Lib.bitLen m ≤ 64 := by
      exact Nat.le_trans (aux_le 64 m) (Nat.le_refl _)
    have hd : (putL (m : Int)).length = max 1 ((Lib.bitLen m + 6) / 7) := by rw [putL, if_neg h, digs_bitLen 9 m (by omega) (by omega)]
    obtain ⟨b, hb'⟩ : ∃ b, Lib.bitLen m = b := ⟨_, rfl⟩
    rw [hb'] at hb hd
    have hcall := Len64_any (m : Int) w (by omega) (by omega)
    rw [Int.toNat_natCast, hb'] at hcall
    replace hcall := Aside0.mk hcall
    replace hd := Aside0.mk hd
    clear hb'
    go_enter Try.func16, Try.ntmps16
    go_wp2_with (go_at_call 24; refine hcall.out.mono ?_; rintro e w' ⟨rfl, rfl⟩)
    all_goals (go_ret; exact ⟨congrArg Ending.returned (congrArg (Value.int IntKind.i64) (by rw [hd.out]; omega)), rfl⟩)

end Go.Proofs.Ytijdmnjkiiemlaa.H
