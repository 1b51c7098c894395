/- Layer 3, walks: one place before another. -/
import Derived.Test.YtceibabhmomfiaaDoorPr5
namespace Go.Proofs.YtceibabhmomfiaaDoor.H
open Go.RowKit Go.Proofs.YtceibabhmomfiaaDoorW.PrintWords Go.Proofs.YtceibabhmomfiaaDoorW.PrintLast
set_option linter.unusedVariables false
set_option linter.unusedSimpArgs false
set_option maxRecDepth 100000

def cmpL (x y : SLoc) : Int := orI (cmpI x.f0 y.f0) (cmpI x.f1 y.f1)
theorem cmpL_lt (x y : SLoc) : decide (cmpL x y < 0) = befL x y := by
  unfold cmpL befL orI cmpI
  refine decide_eq_decide.2 ?_
  by_cases h1 : x.f0 < y.f0
  · simp [h1]
  · by_cases h2 : y.f0 < x.f0
    · have : ¬ x.f0 = y.f0 := by omega
      simp [h1, h2, this]
    · have e : x.f0 = y.f0 := by omega
      by_cases h3 : x.f1 < y.f1
      · simp [h1, h2, e, h3]
      · by_cases h4 : y.f1 < x.f1 <;> simp [h1, h2, e, h3, h4]
set_option maxHeartbeats 1000000 in
theorem compare_any (x y : SLoc) (w : World) : Calls Tryd.prog 72 #[.agg #[.int .i64 x.f0, .int .i64 x.f1], .agg #[.int .i64 y.f0, .int .i64 y.f1]] w fun e w' => e = .returned (.int .i64 (cmpL x y)) ∧ Bel w w' := by
  have hB0 := ((Bel.refl w).alloc (.cells #[.int .i64 x.f0, .int .i64 x.f1] 50)).alloc (.cells #[.int .i64 y.f0, .int .i64 y.f1] 50)
  have hb0 : ((w.alloc (.cells #[.int .i64 x.f0, .int .i64 x.f1] 50)).alloc (.cells #[.int .i64 y.f0, .int .i64 y.f1] 50)).heap[w.heap.size]? = some (.cells #[.int .i64 x.f0, .int .i64 x.f1] 50 (0, 0)) := heap_old (heap_new' rfl)
  have hb1 : ((w.alloc (.cells #[.int .i64 x.f0, .int .i64 x.f1] 50)).alloc (.cells #[.int .i64 y.f0, .int .i64 y.f1] 50)).heap[w.heap.size + 1]? = some (.cells #[.int .i64 y.f0, .int .i64 y.f1] 50 (0, 0)) := heap_new' (by simp)
  go_enter Tryd.func72, Tryd.ntmps72
  go_upto_region 1 with (fail)
  generalize (w.alloc (.cells #[.int .i64 x.f0, .int .i64 x.f1] 50)).alloc (.cells #[.int .i64 y.f0, .int .i64 y.f1] 50) = wa at hB0 hb0 hb1 ⊢
  have x0 := blk_cell hb0 0
  have x1 := blk_cell hb0 1
  have y0 := blk_cell hb1 0
  have y1 := blk_cell hb1 1
  replace hb0 := Aside0.mk hb0
  replace hb1 := Aside0.mk hb1
  go_region_law (first | (refine goes_ (f := 43) Tryd.func43 (by kernel_rfl) rfl #[.int .i64 x.f0, .int .i64 y.f0] rfl rfl rfl (by simp only [List.map_toArray, List.map_cons, List.map_nil]; rfl) ?_; refine (Compare_any x.f0 y.f0 _).mono ?_; rintro ex w' ⟨rfl, rfl⟩; refine ⟨_, rfl, ?_⟩) | (refine goes_ (f := 43) Tryd.func43 (by kernel_rfl) rfl #[.int .i64 x.f1, .int .i64 y.f1] rfl rfl rfl (by simp only [List.map_toArray, List.map_cons, List.map_nil]; rfl) ?_; refine (Compare_any x.f1 y.f1 _).mono ?_; rintro ex w' ⟨rfl, rfl⟩; refine ⟨_, rfl, ?_⟩) | (refine goes_ (f := 91) Tryd.func91 (by kernel_rfl) rfl #[.slice (some ⟨wa.heap.size, 0, none⟩) 2 2] rfl rfl rfl (by simp only [List.map_toArray, List.map_cons, List.map_nil]; rfl) ?_; refine (Or_any _ 2 (cmpI x.f0 y.f0) (cmpI x.f1 y.f1) _ (Rd.lit .i64 3 (wa.drewN 1) [cmpI x.f0 y.f0, cmpI x.f1 y.f1] (by simp))).mono ?_; rintro ex w' ⟨rfl, rfl⟩; refine ⟨_, rfl, ?_⟩))
  all_goals
    go_wp2
    go_ret
    exact ⟨rfl, hB0.trans (((Bel.refl wa).drewN 1).alloc _)⟩
end Go.Proofs.YtceibabhmomfiaaDoor.H
