/- Layer 1, the walks of what puts: each function comes to its plain answer. -/
import Derived.Test.YtceibabhmomfiaaDoorBa
import Derived.Test.YtceibabhmomfiaaDoorVp
namespace Go.Proofs.YtceibabhmomfiaaDoor.H
open Go.RowKit Go.Proofs.YtceibabhmomfiaaDoorW.PrintWords
set_option linter.unusedVariables false
set_option linter.unusedSimpArgs false

set_option maxHeartbeats 1000000 in
theorem digits_any (u : Int) (w : World) (h0 : 0 ≤ u) (h1 : u ≤ 18446744073709551615) :
    Calls Tryd.prog 94 #[.int .u64 u] w fun e w' => ∃ v : Value, e = .returned v ∧ OwnB w w' v (digs 9 u) ∧ Bel w w' := by
  go_enter Tryd.func94, Tryd.ntmps94
  go_wp2
  go_loopw [0, 3] (fun a v W => ∃ (n : Nat) (x : Int) (xs : List Int), n ≤ 9 ∧ a = .int .u64 x ∧ 0 ≤ x ∧ x ≤ 18446744073709551615 ∧ Aside0 (x < 128 ^ (n + 1)) ∧ Aside0 (xs.length = 9 - n) ∧ Aside0 (xs ++ digs n x = digs 9 u) ∧ OwnB w W v xs ∧ Bel w W) (fun a _ _ => (intOf a).toNat)
  case atStart => exact ⟨9, u, [], by omega, rfl, h0, h1, ⟨by omega⟩, ⟨rfl⟩, ⟨rfl⟩, Own.nil _ _ _ _, Bel.refl _⟩
  case round =>
    obtain ⟨n, x, xs, hn, rfl, hx0, hx1, hx2, hl, hd, hR, hB⟩ := hrel
    by_cases hc : 128 ≤ x
    · go_wp2_with ((with_reducible refine gate_b (b := .append) rfl ?_); (refine app_byte hR hB rfl _ _ (x % 128 + 128) rfl ?hl1 rfl rfl ?_); (case hl1 => have := hl.out; omega); clear hR hB; intro v1 w1 hR hB)
      go_roundw
      case rel =>
        obtain ⟨m, rfl⟩ : ∃ m, n = m + 1 := ⟨n - 1, by have := hx2.out; cases n with | zero => omega | succ n => omega⟩
        exact ⟨m, x / 128, xs ++ [x % 128 + 128], by omega, rfl, by omega, by omega, ⟨by have := hx2.out; rw [Int.pow_succ] at this; omega⟩, ⟨by have := hl.out; simp; omega⟩, ⟨by rw [← hd.out, digs_great m x hc]; simp⟩, hR, hB⟩
      case measure => simp [intOf]; omega
    · have hc' : decide (128 ≤ x) = false := decide_eq_false hc
      have hc2 : x < 128 := by omega
      go_wp2_with ((with_reducible refine gate_b (b := .append) rfl ?_); (refine app_byte hR hB rfl _ _ x rfl ?hl1 rfl rfl ?_); (case hl1 => have := hl.out; omega); clear hR hB; intro v1 w1 hR hB)
      go_ret
      exact ⟨v1, rfl, by rw [← hd.out, digs_small n x hc2]; exact hR, hB⟩

set_option maxHeartbeats 400000 in
theorem clip_any (A : Option Addr) (n c : Nat) (w : World) (h : n ≤ c) (hm : n ≤ 9223372036854775807) :
    Calls Tryd.prog 99 #[.slice A n c] w fun e w' => e = .returned (.slice A n n) ∧ w = w' := by
  go_enter Tryd.func99, Tryd.ntmps99
  go_wp2
  go_ret
  exact ⟨rfl, rfl⟩

set_option maxHeartbeats 1000000 in
theorem put_any (A : Option Addr) (c : Nat) (l : List Int) (u : Int) (w : World) (h0 : 0 ≤ u) (h1 : u ≤ 18446744073709551615) (hc : l.length ≤ c) (hA : A = none → l = []) (HR : RdB w A l) (hl : l.length ≤ 140737488355000) :
    Calls Tryd.prog 90 #[.slice A l.length c, .int .u64 u] w fun e w' => ∃ v : Value, e = .returned v ∧ OwnB w w' v (l ++ digs 9 u) ∧ Bel w w' := by
  have hAs := Aside0.mk hA
  clear hA
  go_enter Tryd.func90, Tryd.ntmps90
  go_wp2_with (go_at_call 99; refine (clip_any _ _ _ _ hc (by omega)).mono ?_; rintro e w' ⟨rfl, rfl⟩)
  go_loopw [0, 1] (fun v a W => ∃ (n : Nat) (x : Int) (xs : List Int), n ≤ 9 ∧ a = .int .u64 x ∧ 0 ≤ x ∧ x ≤ 18446744073709551615 ∧ Aside0 (x < 128 ^ (n + 1)) ∧ Aside0 (xs.length = l.length + (9 - n)) ∧ Aside0 (xs ++ digs n x = l ++ digs 9 u) ∧ FullB w W v xs ∧ Bel w W) (fun _ a _ => (intOf a).toNat)
  case atStart => exact ⟨9, u, l, by omega, rfl, h0, h1, ⟨by omega⟩, ⟨by omega⟩, ⟨rfl⟩, ⟨.inr ⟨A, rfl, hAs.out, HR⟩⟩, Bel.refl _⟩
  case round =>
    obtain ⟨n, x, xs, hn, rfl, hx0, hx1, hx2, hl, hd, hR, hB⟩ := hrel
    by_cases hc : 128 ≤ x
    · go_wp2_with ((with_reducible refine gate_b (b := .append) rfl ?_); (refine app_full hR hB rfl _ _ (bits .or .u8 (x % 256) 128) rfl ?hl1 rfl rfl ?_); (case hl1 => have := hl.out; omega); clear hR hB; intro v1 w1 hR hB)
      go_roundw
      case rel =>
        rw [byte_or] at hR
        obtain ⟨m, rfl⟩ : ∃ m, n = m + 1 := ⟨n - 1, by have := hx2.out; cases n with | zero => omega | succ n => omega⟩
        exact ⟨m, x / 128, xs ++ [x % 128 + 128], by omega, rfl, by omega, by omega, ⟨by have := hx2.out; rw [Int.pow_succ] at this; omega⟩, ⟨by have := hl.out; simp; omega⟩, ⟨by rw [← hd.out, digs_great m x hc]; simp⟩, ⟨.inl hR⟩, hB⟩
      case measure => simp [intOf]; omega
    · have hc' : decide (128 ≤ x) = false := decide_eq_false hc
      have hc2 : x < 128 := by omega
      go_wp2_with ((with_reducible refine gate_b (b := .append) rfl ?_); (refine app_full hR hB rfl _ _ x rfl ?hl1 rfl rfl ?_); (case hl1 => have := hl.out; omega); clear hR hB; intro v1 w1 hR hB)
      go_ret
      exact ⟨v1, rfl, by rw [← hd.out, digs_small n x hc2]; exact hR, hB⟩

set_option maxHeartbeats 400000 in
theorem clone_any (A : Option Addr) (c : Nat) (l : List Int) (w : World) (HR : RdB w A l) (hA : A = none → l = []) (hl : l.length ≤ 140737488355000) :
    Calls Tryd.prog 89 #[.slice A l.length c] w fun e w' => ∃ v : Value, e = .returned v ∧ OwnB w w' v l ∧ Bel w w' := by
  cases A with
  | none =>
    obtain rfl := hA rfl
    clear hA
    have hq := fun w => Lib.run_eql_slice_nil (P := Tryd.prog) w 22 5 none 0 c 0 0 Tryd.underlying22
    go_enter Tryd.func89, Tryd.ntmps89
    go_wp2
    go_ret
    exact ⟨_, rfl, Own.nil _ _ _ _, Bel.refl _⟩
  | some ad =>
    clear hA
    have hq := fun w => Lib.run_eql_slice_nil (P := Tryd.prog) w 22 5 (some ad) l.length c 0 0 Tryd.underlying22
    go_enter Tryd.func89, Tryd.ntmps89
    go_wp2_with ((with_reducible refine gate_b (b := .append) rfl ?_); refine app_bytes (Own.lit .u8 5 (Bel.refl _) [] (by decide)) ((Bel.refl _).alloc _) (HR.alloc _) rfl _ _ rfl (by simp; omega) rfl rfl ?_; intro v1 w1 hR hB)
    go_ret
    exact ⟨_, rfl, hR, hB⟩

set_option maxHeartbeats 400000 in
theorem refPut_any (A : Option Addr) (c : Nat) (l : List Int) (n : Int) (w : World) (HR : RdB w A l) (hl : l.length ≤ 140737488355000) (h0 : n ≤ 9223372036854775807) :
    Calls Tryd.prog 80 #[.slice A l.length c, .int .i64 n] w fun e w' => ∃ v : Value, e = .returned v ∧ OwnB w w' v (l ++ putL n) ∧ Bel w w' := by
  by_cases h : n < 0
  · go_enter Tryd.func80, Tryd.ntmps80
    go_wp2_with ((with_reducible refine gate_b (b := .append) rfl ?_); refine app_bytes (Own.lit .u8 5 (Bel.refl _) [] (by decide)) ((Bel.refl _).alloc _) (HR.alloc _) rfl _ _ rfl (by simp; omega) rfl rfl ?_; intro v1 w1 hR hB)
    go_ret
    exact ⟨_, rfl, by simpa [putL, h] using hR, hB⟩
  · have h1 : 0 ≤ n := by omega
    go_enter Tryd.func80, Tryd.ntmps80
    go_wp2_with (first | ((with_reducible refine gate_b (b := .append) (xs := #[.tmp 6, .tmp 7]) rfl ?_); refine app_bytes (Own.lit .u8 5 (Bel.refl _) [] (by decide)) ((Bel.refl _).alloc _) (HR.alloc _) rfl _ _ rfl (by simp; omega) rfl rfl ?_; intro v1 w1 hR hB) | (go_at_call 94; refine (digits_any n _ h1 (by omega)).mono ?_; rintro e w' ⟨v2, rfl, hR2, hB2⟩; obtain ⟨A2, c2, rfl, hc2, hRd⟩ := hR2.reads; replace hR := hR.step hB2; replace hB := hB.trans hB2; clear hB2) | ((with_reducible refine gate_b (b := .append) (xs := #[.tmp 12, .tmp 15]) rfl ?_); refine app_bytes hR hB hRd rfl _ _ rfl (by have := digs_len 9 n; simp; omega) rfl rfl ?_; clear hR hB hRd hR2; intro v1 w1 hR hB))
    go_ret
    exact ⟨_, rfl, by first | (rw [putL, if_neg (by omega)]; simpa using hR) | simpa [putL, h] using hR, hB⟩

set_option maxHeartbeats 400000 in
theorem Put_any (A : Option Addr) (c : Nat) (l : List Int) (n : Int) (w : World) (hc : l.length ≤ c) (hA : A = none → l = []) (HR : RdB w A l) (hl : l.length ≤ 140737488355000) (h0 : n ≤ 9223372036854775807) :
    Calls Tryd.prog 68 #[.slice A l.length c, .int .i64 n] w fun e w' => ∃ v : Value, e = .returned v ∧ OwnB w w' v (l ++ putL n) ∧ Bel w w' := by
  have hAs := Aside0.mk hA
  clear hA
  by_cases h : n < 0
  · go_enter Tryd.func68, Tryd.ntmps68
    go_wp2_with (go_at_call 89; refine (clone_any _ _ l _ HR hAs.out hl).mono ?_; rintro e w' ⟨v2, rfl, hR, hB⟩)
    go_ret
    exact ⟨_, rfl, by simpa [putL, h] using hR, hB⟩
  · have h1 : 0 ≤ n := by omega
    go_enter Tryd.func68, Tryd.ntmps68
    go_wp2_with (go_at_call 90; refine (put_any _ _ l n _ h1 (by omega) hc hAs.out HR hl).mono ?_; rintro e w' ⟨v2, rfl, hR, hB⟩)
    go_ret
    exact ⟨_, rfl, by first | (rw [putL, if_neg (by omega)]; simpa using hR) | simpa [putL, h] using hR, hB⟩

end Go.Proofs.YtceibabhmomfiaaDoor.H
