/- Layer 3, walks: places are compared. -/
import Derived.Test.YtceibabhmomfiaaDoorPr4
namespace Go.Proofs.YtceibabhmomfiaaDoor.H
open Go.RowKit Go.Proofs.YtceibabhmomfiaaDoorW.PrintWords Go.Proofs.YtceibabhmomfiaaDoorW.PrintLast
set_option linter.unusedVariables false
set_option linter.unusedSimpArgs false
set_option maxRecDepth 100000

def cmpI (a b : Int) : Int := if a < b then -1 else if b < a then 1 else 0
theorem isNaN_any (a : Int) (w : World) : Calls Tryd.prog 69 #[.int .i64 a] w fun e w' => e = .returned (.bool false) ∧ w = w' := by
  go_enter Tryd.func69, Tryd.ntmps69
  have b0 : (a != a) = false := by simp
  go_wp2
  go_ret
  exact ⟨rfl, rfl⟩
theorem Compare_any (a b : Int) (w : World) : Calls Tryd.prog 43 #[.int .i64 a, .int .i64 b] w fun e w' => e = .returned (.int .i64 (cmpI a b)) ∧ w = w' := by
  have h1 := Aside0.mk (isNaN_any a w)
  have h2 := Aside0.mk (isNaN_any b w)
  by_cases h : a < b
  · have e : Aside0 (cmpI a b = -1) := ⟨if_pos h⟩
    go_enter Tryd.func43, Tryd.ntmps43
    go_wp2_with (go_at_call 69; first | ((with_reducible refine h1.out.mono ?_); rintro e w' ⟨rfl, rfl⟩) | ((with_reducible refine h2.out.mono ?_); rintro e w' ⟨rfl, rfl⟩))
    go_ret
    exact ⟨by rw [e.out]; rfl, rfl⟩
  · by_cases h' : b < a
    · have e : Aside0 (cmpI a b = 1) := ⟨by unfold cmpI; rw [if_neg h, if_pos h']⟩
      go_enter Tryd.func43, Tryd.ntmps43
      go_wp2_with (go_at_call 69; first | ((with_reducible refine h1.out.mono ?_); rintro e w' ⟨rfl, rfl⟩) | ((with_reducible refine h2.out.mono ?_); rintro e w' ⟨rfl, rfl⟩))
      go_ret
      exact ⟨by rw [e.out]; rfl, rfl⟩
    · have e : Aside0 (cmpI a b = 0) := ⟨by unfold cmpI; rw [if_neg h, if_neg h']⟩
      go_enter Tryd.func43, Tryd.ntmps43
      go_wp2_with (go_at_call 69; first | ((with_reducible refine h1.out.mono ?_); rintro e w' ⟨rfl, rfl⟩) | ((with_reducible refine h2.out.mono ?_); rintro e w' ⟨rfl, rfl⟩))
      go_ret
      exact ⟨by rw [e.out]; rfl, rfl⟩
def orI (p q : Int) : Int := if p ≠ 0 then p else q
set_option maxHeartbeats 1000000 in
theorem Or_any (A : Option Addr) (c : Nat) (p q : Int) (w : World) (HR : RdI w A [p, q]) : Calls Tryd.prog 91 #[.slice A 2 c] w fun e w' => e = .returned (.int .i64 (orI p q)) ∧ w = w' := by
  go_enter Tryd.func91, Tryd.ntmps91
  go_wp2
  go_loopw [8] (fun i W => ∃ k : Nat, k ≤ 2 ∧ i = .int .i64 k ∧ Aside0 ((1 ≤ k → p = 0) ∧ (2 ≤ k → q = 0)) ∧ w = W) (fun i _ => 2 - (intOf i).toNat)
  case atStart => exact ⟨0, by omega, rfl, ⟨⟨fun h => absurd h (by decide), fun h => absurd h (by decide)⟩⟩, rfl⟩
  case round =>
    obtain ⟨k, hk, rfl, hz, rfl⟩ := hrel
    by_cases hlt : k < 2
    · obtain ⟨ad, rfl, c0⟩ := rd_atN HR k (by simpa using hlt)
      obtain ⟨x, hx⟩ : ∃ x, rd [p, q] (k : Int) = x := ⟨_, rfl⟩
      rw [hx] at c0
      have hx1 : Aside0 ((k = 0 → x = p) ∧ (k = 1 → x = q)) := ⟨⟨fun h => by rw [← hx, h]; rfl, fun h => by rw [← hx, h]; rfl⟩⟩
      clear hx
      by_cases h0 : x = 0
      · have b0 : (x != 0) = false := by simp [h0]
        replace h0 := Aside0.mk h0
        go_wp2
        go_roundw
        case rel =>
          refine ⟨k + 1, by omega, by go_num, ⟨⟨fun _ => ?_, fun _ => ?_⟩⟩, by first | trivial | rfl⟩
          · by_cases e : k = 0
            · rw [← hx1.out.1 e]; exact h0.out
            · exact hz.out.1 (by omega)
          · rw [← hx1.out.2 (by omega)]; exact h0.out
        case measure => simp [intOf]; omega
      · have b0 : (x != 0) = true := by simpa using h0
        have e : Aside0 (orI p q = x) := ⟨by
          by_cases hk0 : k = 0
          · have := hx1.out.1 hk0
            unfold orI; rw [if_pos (by rw [← this]; exact h0), this]
          · have := hx1.out.2 (by omega)
            unfold orI; rw [if_neg (fun h => h (hz.out.1 (by omega))), this]⟩
        replace h0 := Aside0.mk h0
        go_wp2
        go_ret
        exact ⟨by rw [e.out]; rfl, rfl⟩
    · have e : Aside0 (orI p q = 0) := ⟨by unfold orI; rw [if_neg (fun h => h (hz.out.1 (by omega))), hz.out.2 (by omega)]⟩
      go_wp2
      go_ret
      exact ⟨by rw [e.out]; rfl, rfl⟩
end Go.Proofs.YtceibabhmomfiaaDoor.H
