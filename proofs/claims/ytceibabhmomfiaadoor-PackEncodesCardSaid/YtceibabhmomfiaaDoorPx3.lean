/- Layer 3, the reference: one place before another, places that may be, and lists that have one. -/
import Derived.Test.YtceibabhmomfiaaDoorPx2
import Derived.Test.YtceibabhmomfiaaDoorQb
namespace Go.Proofs.YtceibabhmomfiaaDoor.H
open Go.RowKit Go.Proofs.YtceibabhmomfiaaDoorW.PrintWords Go.Proofs.YtceibabhmomfiaaDoorW.PrintLast
set_option linter.unusedVariables false
set_option linter.unusedSimpArgs false
set_option maxRecDepth 100000

set_option maxHeartbeats 1000000 in
theorem rBefore_any (x y : SLoc) (w : World) : Calls Tryd.prog 50 #[.agg #[.int .i64 x.f0, .int .i64 x.f1], .agg #[.int .i64 y.f0, .int .i64 y.f1]] w fun e w' => e = .returned (.bool (befL x y)) ∧ Bel w w' := by
  have hB0 := ((Bel.refl w).alloc (.cells #[.int .i64 x.f0, .int .i64 x.f1] 50)).alloc (.cells #[.int .i64 y.f0, .int .i64 y.f1] 50)
  by_cases h1 : x.f0 < y.f0
  · have hb : Aside0 (befL x y = true) := ⟨(bef_iff x y).2 (.inl h1)⟩
    go_enter Tryd.func50, Tryd.ntmps50
    go_wp2
    go_ret
    exact ⟨by rw [hb.out]; rfl, hB0⟩
  · have b1 : decide (x.f0 < y.f0) = false := decide_eq_false h1
    by_cases h2 : x.f0 = y.f0
    · have b2 : (x.f0 == y.f0) = true := by simpa using h2
      by_cases h3 : x.f1 < y.f1
      · have hb : Aside0 (befL x y = true) := ⟨(bef_iff x y).2 (.inr ⟨h2, h3⟩)⟩
        clear h1
        replace h2 := Aside0.mk h2
        go_enter Tryd.func50, Tryd.ntmps50
        go_wp2
        go_ret
        exact ⟨by rw [hb.out]; rfl, hB0⟩
      · have hb : Aside0 (befL x y = false) := ⟨by rw [← Bool.not_eq_true, bef_iff]; rintro (q | q); exact h1 q; exact h3 q.2⟩
        clear h1
        replace h2 := Aside0.mk h2
        go_enter Tryd.func50, Tryd.ntmps50
        go_wp2
        go_ret
        exact ⟨by rw [hb.out]; rfl, hB0⟩
    · have b2 : (x.f0 == y.f0) = false := by simpa using h2
      have hb : Aside0 (befL x y = false) := ⟨by rw [← Bool.not_eq_true, bef_iff]; rintro (q | q); exact h1 q; exact h2 q.1⟩
      clear h1
      replace h2 := Aside0.mk h2
      go_enter Tryd.func50, Tryd.ntmps50
      go_wp2
      go_ret
      exact ⟨by rw [hb.out]; rfl, hB0⟩
end Go.Proofs.YtceibabhmomfiaaDoor.H
