/- Layer 3, walks: Before. -/
import Derived.Test.YtceibabhmomfiaaDoorPr6
namespace Go.Proofs.YtceibabhmomfiaaDoor.H
open Go.RowKit Go.Proofs.YtceibabhmomfiaaDoorW.PrintWords Go.Proofs.YtceibabhmomfiaaDoorW.PrintLast
set_option linter.unusedVariables false
set_option linter.unusedSimpArgs false
set_option maxRecDepth 100000

set_option maxHeartbeats 1000000 in
theorem Before_any (x y : SLoc) (w : World) : Calls Tryd.prog 63 #[.agg #[.int .i64 x.f0, .int .i64 x.f1], .agg #[.int .i64 y.f0, .int .i64 y.f1]] w fun e w' => e = .returned (.bool (befL x y)) ∧ Bel w w' := by
  have hB0 := ((Bel.refl w).alloc (.cells #[.int .i64 x.f0, .int .i64 x.f1] 50)).alloc (.cells #[.int .i64 y.f0, .int .i64 y.f1] 50)
  have hb0 : ((w.alloc (.cells #[.int .i64 x.f0, .int .i64 x.f1] 50)).alloc (.cells #[.int .i64 y.f0, .int .i64 y.f1] 50)).heap[w.heap.size]? = some (.cells #[.int .i64 x.f0, .int .i64 x.f1] 50 (0, 0)) := heap_old (heap_new' rfl)
  have hb1 : ((w.alloc (.cells #[.int .i64 x.f0, .int .i64 x.f1] 50)).alloc (.cells #[.int .i64 y.f0, .int .i64 y.f1] 50)).heap[w.heap.size + 1]? = some (.cells #[.int .i64 y.f0, .int .i64 y.f1] 50 (0, 0)) := heap_new' (by simp)
  have hlt := Aside0.mk (cmpL_lt x y)
  go_enter Tryd.func63, Tryd.ntmps63
  go_upto_region 1 with (fail)
  generalize (w.alloc (.cells #[.int .i64 x.f0, .int .i64 x.f1] 50)).alloc (.cells #[.int .i64 y.f0, .int .i64 y.f1] 50) = wa at hB0 hb0 hb1 ⊢
  have x0 := blk_cell hb0 0
  have x1 := blk_cell hb0 1
  have y0 := blk_cell hb1 0
  have y1 := blk_cell hb1 1
  replace hb0 := Aside0.mk hb0
  replace hb1 := Aside0.mk hb1
  have hcall := Aside0.mk (compare_any x y wa)
  go_wp2_with (go_at_call 72; ((with_reducible refine hcall.out.mono ?_); rintro e w1 ⟨rfl, hB1⟩))
  go_ret
  refine ⟨?_, hB0.trans hB1⟩
  rw [← hlt.out]
  rfl
end Go.Proofs.YtceibabhmomfiaaDoor.H
