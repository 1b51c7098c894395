/- The law VarintSize, walked. -/
import Derived.Test.YtijdmnjkiiemlaaVk
import Derived.Test.YtijdmnjkiiemlaaVq2
namespace Go.Proofs.Ytijdmnjkiiemlaa.H
open Go.RowKit Go.Proofs.YtijdmnjkiiemlaaW.PrintWords
set_option linter.unusedVariables false
set_option linter.unusedSimpArgs false

theorem digs_ge (n : Nat) : ∀ (u : Int), 0 ≤ u → u < 128 ^ (n + 1) → u < 128 ^ (digs n u).length ∧ (1 < (digs n u).length → 128 ^ ((digs n u).length - 1) ≤ u) := by
  induction n with
  | zero => intro u h0 h1; simp [digs]; omega
  | succ n ih =>
    intro u h0 h1
    by_cases h : 128 ≤ u
    · rw [digs_great n u h, List.length_cons]
      obtain ⟨a, b⟩ := ih (u / 128) (by omega) (by rw [Int.pow_succ] at h1; omega)
      have hl := (digs_len n (u / 128)).1
      obtain ⟨m, hm⟩ : ∃ m, (digs n (u / 128)).length = m + 1 := ⟨_, (Nat.sub_add_cancel hl).symm⟩
      rw [hm] at a b ⊢
      refine ⟨by rw [Int.pow_succ]; omega, fun _ => ?_⟩
      rw [Nat.add_sub_cancel]
      rcases Nat.eq_zero_or_pos m with rfl | hp
      · omega
      · have := b (by omega)
        rw [Nat.add_sub_cancel] at this
        rw [Int.pow_succ]
        omega
    · rw [digs_small _ u (by omega)]
      simp
      omega
/-- how many bytes so many numbers have -/
def sumL (l : List Int) : Nat := (listL l).length
theorem sumL_snoc (l : List Int) (n : Int) : sumL (l ++ [n]) = sumL l + (putL n).length := by simp [sumL, listL_snoc]
/-- what the law asks of a number and its size -/
structure Fits (x : Int) (s : Nat) : Prop where
  neg : x < 0 → s = 0
  pos : 0 ≤ x → 1 ≤ s ∧ s ≤ 9 ∧ x < 128 ^ s ∧ (1 < s → 128 ^ (s - 1) ≤ x)
theorem fits (x : Int) (h : x ≤ 9223372036854775807) : Fits x (putL x).length := by
  refine ⟨fun h0 => by rw [putL, if_pos h0]; rfl, fun h0 => ?_⟩
  rw [putL, if_neg (by omega)]
  obtain ⟨a, b⟩ := digs_ge 9 x h0 (by omega)
  exact ⟨(digs_len 9 x).1, digs_len_lt 8 9 x (by omega), a, b⟩

set_option maxHeartbeats 4000000 in
theorem VarintSize_walk (A : Option Addr) (c : Nat) (l : List Int) (w : World) (hc : l.length ≤ c) (HR : RdI w A l) (hok : IntsOk l) (hm : l.length ≤ 9223372036854775807) (_hy : l.length * 8 ≤ 140737488351232) :
    Calls Try.prog 6 #[.slice A l.length c] w fun e w' => e = .returned (.bool true) ∧ Bel w w' := by
  by_cases hl : 200 < l.length
  · go_enter Try.func6, Try.ntmps6
    go_wp2_with (go_at_call 7; ((with_reducible refine (alive_any _).mono ?_); rintro e w' ⟨rfl, hB⟩))
    go_ret
    exact ⟨rfl, hB⟩
  · go_enter Try.func6, Try.ntmps6
    go_wp2_with (go_at_call 7; ((with_reducible refine (alive_any _).mono ?_); rintro e w' ⟨rfl, hB⟩))
    go_loop [3, 4] (fun n i => ∃ k s : Nat, k ≤ l.length ∧ i = .int .i64 k ∧ n = .int .i64 s ∧ s ≤ 10 * k ∧ Aside0 (s = sumL (l.take k))) (fun _ i => l.length - (intOf i).toNat)
    case atStart => exact ⟨0, 0, by omega, rfl, rfl, by omega, ⟨by simp [sumL, listL]⟩⟩
    case round =>
      obtain ⟨k, s, hk, rfl, rfl, hs, hsum⟩ := hrel
      by_cases hlt : k < l.length
      · obtain ⟨ad, rfl, hcell⟩ := rd_atN (HR.step hB) k hlt
        have hts := Aside0.mk (take_snoc l k hlt)
        have hx := (hok.at_ k hlt).2
        obtain ⟨x, hxx⟩ : ∃ x, rd l (k : Int) = x := ⟨_, rfl⟩
        rw [hxx] at hcell hts hx
        clear hxx
        have hf := fits x hx
        have hlen := putL_len x
        have hcall := fun W => Size_any x W hx
        obtain ⟨z, hz⟩ : ∃ z, (putL x).length = z := ⟨_, rfl⟩
        rw [hz] at hf hcall hlen
        replace hcall := Aside0.mk hcall
        have hsum1 := Aside0.mk (show s + z = sumL (l.take (k + 1)) by rw [hts.out, sumL_snoc, hz, hsum.out])
        clear hsum hts hz
        by_cases h0 : x < 0
        · obtain rfl := hf.neg h0
          clear hf
          go_wp2_with (go_at_call 16; ((with_reducible refine (hcall.out _).mono ?_); rintro e w' ⟨rfl, rfl⟩))
          go_round
          case rel => exact ⟨k + 1, s, by omega, by go_num, rfl, by omega, hsum1⟩
          case measure => simp [intOf]; omega
        · obtain ⟨z1, z9, za, zb⟩ := hf.pos (by omega)
          clear hf hlen
          have b0 : decide (x < 0) = false := decide_eq_false h0
          have hx0 : 0 ≤ x := by omega
          have hz : z = 1 ∨ z = 2 ∨ z = 3 ∨ z = 4 ∨ z = 5 ∨ z = 6 ∨ z = 7 ∨ z = 8 ∨ z = 9 := by omega
          clear h0
          rcases hz with rfl | rfl | rfl | rfl | rfl | rfl | rfl | rfl | rfl
          all_goals
            simp only [Int.reducePow, Nat.reduceSub, Nat.lt_irrefl, Nat.reduceLT, false_imp_iff, true_imp_iff, forall_const] at za zb
            clear z1 z9
            go_wp2_with (go_at_call 16; ((with_reducible refine (hcall.out _).mono ?_); rintro e w' ⟨rfl, rfl⟩))
            go_round
            case rel => exact ⟨k + 1, s + _, by omega, by go_num, by go_num, by omega, hsum1⟩
            case measure => simp [intOf]; omega
      · have hsum1 := Aside0.mk (show s = (listL l).length by have := hsum.out; rwa [List.take_of_length_le (by omega)] at this)
        clear hsum
        go_wp2_with (go_at_call 9; ((with_reducible refine (List_any A c l _ (HR.step hB) hok (by omega)).mono ?_); rintro e w' ⟨v2, rfl, hR2, hB2⟩; obtain ⟨A2, c2, rfl, hc2, hD2⟩ := hR2.reads; replace hB := hB.trans hB2; clear hB2 hR2))
        go_ret
        exact ⟨by rw [← hsum1.out]; simp, hB⟩
end Go.Proofs.Ytijdmnjkiiemlaa.H
