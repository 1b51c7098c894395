/- Texts joined. Conditions: each stands with its theorem. -/
import Derived.Test.YtodjpbidjldblaaX02
namespace Go.Proofs.Ytodjpbidjldblaa.H
open Go.RowKit Go.Proofs.YtodjpbidjldblaaW.PrintWords Go.Proofs.YtodjpbidjldblaaW.PrintLast
set_option linter.unusedVariables false
set_option linter.unusedSimpArgs false
set_option maxRecDepth 100000
abbrev valV (v : SVal) : Value := .agg #[.int .i64 v.f0, .int .i64 v.f1, .int .i64 v.f2]
abbrev insV (x : SIns) (A : Option Addr) (c : Nat) : Value := .agg #[.int .i64 x.f0, .int .i64 x.f1, .int .i64 x.f2, .int .i64 x.f3, .int .i64 x.f4, .int .i64 x.f5, .slice A x.f6.length c]
theorem put3 {W : World} {b t : Nat} {c0 c1 c2 : Value} (hb : W.heap[b]? = some (.cells #[c0, c1, c2] t (0, 0))) (u0 u1 u2 : Value) :
  (((W.setCell ⟨b, 0, none⟩ u0).setCell ⟨b, 1, none⟩ u1).setCell ⟨b, 2, none⟩ u2).heap[b]? = some (.cells #[u0, u1, u2] t (0, 0)) ∧ ∀ w : World, Bel w W → w.heap.size ≤ b → Bel w (((W.setCell ⟨b, 0, none⟩ u0).setCell ⟨b, 1, none⟩ u1).setCell ⟨b, 2, none⟩ u2) :=
 ⟨(blk_set ((blk_set ((blk_set hb 0 u0).trans rfl) 1 u1).trans rfl) 2 u2).trans rfl, fun w h hw => ⟨((h.out.setCell (p := ⟨b, 0, none⟩) hw u0).setCell (p := ⟨b, 1, none⟩) hw u1).setCell (p := ⟨b, 2, none⟩) hw u2⟩⟩
set_option maxHeartbeats 1000000 in
theorem bit_any (t : Bool) (w : World) : Calls Try.prog 73 #[.bool t] w fun e w' => e = .returned (valV (bitV t)) ∧ Bel w w' := by
 have hB := (Bel.refl w).alloc (.cells #[.int .i64 0, .int .i64 0, .int .i64 0] 89)
 have hb := heap_alloc_new w (.cells #[.int .i64 0, .int .i64 0, .int .i64 0] 89)
 have hs := hB.size
 cases t with
 | true =>
  go_enter Try.func73, Try.ntmps73
  go_upto_region 1 with (fail)
  generalize w.alloc (.cells #[.int .i64 0, .int .i64 0, .int .i64 0] 89) = wa at hB hb hs ⊢
  obtain ⟨b, hbe⟩ : ∃ b, w.heap.size = b := ⟨_, rfl⟩
  rw [hbe] at hb ⊢
  have hp := put3 hb (.int .i64 1) (.int .i64 0) (.int .i64 0)
  have q0 := blk_frozen hb 0
  have q1 := blk_frozen hb 1
  have q2 := blk_frozen hb 2
  have q3 : wa.cell? ⟨b, 0, none⟩ = some (.int .i64 0) := blk_cell hb 0
  have q4 : wa.cell? ⟨b, 1, none⟩ = some (.int .i64 0) := blk_cell hb 1
  have q5 : wa.cell? ⟨b, 2, none⟩ = some (.int .i64 0) := blk_cell hb 2
  go_wp2
  refine bodyPost_ret (results_cell_row rfl _ _ b 89 #[.int .i64 1, .int .i64 0, .int .i64 0] (0, 0) _ rfl hp.1 Try.underlying89 rfl (by kernel_rfl)) rfl ?_
  exact ⟨rfl, hp.2 _ hB (by omega)⟩
 | false =>
  go_enter Try.func73, Try.ntmps73
  go_upto_region 1 with (fail)
  generalize w.alloc (.cells #[.int .i64 0, .int .i64 0, .int .i64 0] 89) = wa at hB hb hs ⊢
  obtain ⟨b, hbe⟩ : ∃ b, w.heap.size = b := ⟨_, rfl⟩
  rw [hbe] at hb ⊢
  have hp := put3 hb (.int .i64 0) (.int .i64 0) (.int .i64 0)
  have q0 := blk_frozen hb 0
  have q1 := blk_frozen hb 1
  have q2 := blk_frozen hb 2
  have q3 : wa.cell? ⟨b, 0, none⟩ = some (.int .i64 0) := blk_cell hb 0
  have q4 : wa.cell? ⟨b, 1, none⟩ = some (.int .i64 0) := blk_cell hb 1
  have q5 : wa.cell? ⟨b, 2, none⟩ = some (.int .i64 0) := blk_cell hb 2
  go_wp2
  refine bodyPost_ret (results_cell_row rfl _ _ b 89 #[.int .i64 0, .int .i64 0, .int .i64 0] (0, 0) _ rfl hp.1 Try.underlying89 rfl (by kernel_rfl)) rfl ?_
  exact ⟨rfl, hp.2 _ hB (by omega)⟩
set_option maxHeartbeats 1000000 in
theorem sets_any (op : Int) (w : World) : Calls Try.prog 64 #[.int .i64 op] w fun e w' => e = .returned (.bool (setsL op)) ∧ w' = w := by
 by_cases h1 : op = 12
 ·subst h1
  go_enter Try.func64, Try.ntmps64
  go_wp2
  go_ret
  exact ⟨rfl, rfl⟩
 by_cases h2 : op = 14
 ·subst h2
  go_enter Try.func64, Try.ntmps64
  go_wp2
  go_ret
  exact ⟨rfl, rfl⟩
 have b1 : (op == 12) = false := by simpa using h1
 have b2 : (op == 14) = false := by simpa using h2
 have b3 : (op != 12) = true := by simpa using h1
 have b4 : (op != 14) = true := by simpa using h2
 have e : setsL op = (op != 18) := by simp [setsL, b1, b2, bne]
 rw [e]
 clear h1 h2
 go_enter Try.func64, Try.ntmps64
 go_wp2
 go_ret
 exact ⟨rfl, rfl⟩
def ReckonIs (o : Option SVal) (w : World) (e : Ending) (w' : World) : Prop := e = .returned (.tuple #[valV (o.getD zVal), .bool o.isSome]) ∧ Bel w w'
set_option maxHeartbeats 2000000 in
theorem reckon1 (d xa xb n m : Int) (args : List Int) (A : Option Addr) (c : Nat) (a b : SVal) (w : World) :
  Calls Try.prog 60 #[insV ⟨1, d, xa, xb, n, m, args⟩ A c, valV a, valV b] w (ReckonIs (some (⟨n, 0, 0⟩)) w) := by
 obtain ⟨vv, hvv⟩ : ∃ v : SVal, v = ⟨n, 0, 0⟩ := ⟨_, rfl⟩
 rw [← hvv]
 replace hvv := Aside0.mk hvv
 have hB := (((((Bel.refl w).alloc (.cells #[.int .i64 1, .int .i64 d, .int .i64 xa, .int .i64 xb, .int .i64 n, .int .i64 m, .slice A args.length c] 57)).alloc (.cells #[.int .i64 a.f0, .int .i64 a.f1, .int .i64 a.f2] 89)).alloc (.cells #[.int .i64 b.f0, .int .i64 b.f1, .int .i64 b.f2] 89)).alloc (.cells #[.int .i64 0, .int .i64 0, .int .i64 0] 89))
 obtain ⟨g, hg⟩ : ∃ g, w.heap.size = g := ⟨_, rfl⟩
 have hb0 : ((((w.alloc (.cells #[.int .i64 1, .int .i64 d, .int .i64 xa, .int .i64 xb, .int .i64 n, .int .i64 m, .slice A args.length c] 57)).alloc (.cells #[.int .i64 a.f0, .int .i64 a.f1, .int .i64 a.f2] 89)).alloc (.cells #[.int .i64 b.f0, .int .i64 b.f1, .int .i64 b.f2] 89)).alloc (.cells #[.int .i64 0, .int .i64 0, .int .i64 0] 89)).heap[g]? = some (.cells #[.int .i64 1, .int .i64 d, .int .i64 xa, .int .i64 xb, .int .i64 n, .int .i64 m, .slice A args.length c] 57 (0, 0)) := heap_old (heap_old (heap_old (heap_new' hg.symm)))
 have hb1 : ((((w.alloc (.cells #[.int .i64 1, .int .i64 d, .int .i64 xa, .int .i64 xb, .int .i64 n, .int .i64 m, .slice A args.length c] 57)).alloc (.cells #[.int .i64 a.f0, .int .i64 a.f1, .int .i64 a.f2] 89)).alloc (.cells #[.int .i64 b.f0, .int .i64 b.f1, .int .i64 b.f2] 89)).alloc (.cells #[.int .i64 0, .int .i64 0, .int .i64 0] 89)).heap[g + 1]? = some (.cells #[.int .i64 a.f0, .int .i64 a.f1, .int .i64 a.f2] 89 (0, 0)) := heap_old (heap_old (heap_new' (by simp [hg])))
 have hbb : ((((w.alloc (.cells #[.int .i64 1, .int .i64 d, .int .i64 xa, .int .i64 xb, .int .i64 n, .int .i64 m, .slice A args.length c] 57)).alloc (.cells #[.int .i64 a.f0, .int .i64 a.f1, .int .i64 a.f2] 89)).alloc (.cells #[.int .i64 b.f0, .int .i64 b.f1, .int .i64 b.f2] 89)).alloc (.cells #[.int .i64 0, .int .i64 0, .int .i64 0] 89)).heap[g + 1 + 1]? = some (.cells #[.int .i64 b.f0, .int .i64 b.f1, .int .i64 b.f2] 89 (0, 0)) := heap_old (heap_new' (by simp [hg]))
 have hb2 : ((((w.alloc (.cells #[.int .i64 1, .int .i64 d, .int .i64 xa, .int .i64 xb, .int .i64 n, .int .i64 m, .slice A args.length c] 57)).alloc (.cells #[.int .i64 a.f0, .int .i64 a.f1, .int .i64 a.f2] 89)).alloc (.cells #[.int .i64 b.f0, .int .i64 b.f1, .int .i64 b.f2] 89)).alloc (.cells #[.int .i64 0, .int .i64 0, .int .i64 0] 89)).heap[g + 1 + 1 + 1]? = some (.cells #[.int .i64 0, .int .i64 0, .int .i64 0] 89 (0, 0)) := heap_new' (by simp [hg])
 go_enter Try.func60, Try.ntmps60
 go_upto_region 1 with (fail)
 generalize (((w.alloc (.cells #[.int .i64 1, .int .i64 d, .int .i64 xa, .int .i64 xb, .int .i64 n, .int .i64 m, .slice A args.length c] 57)).alloc (.cells #[.int .i64 a.f0, .int .i64 a.f1, .int .i64 a.f2] 89)).alloc (.cells #[.int .i64 b.f0, .int .i64 b.f1, .int .i64 b.f2] 89)).alloc (.cells #[.int .i64 0, .int .i64 0, .int .i64 0] 89) = wa at hB hb0 hb1 hbb hb2 ⊢
 obtain ⟨r, hr⟩ : ∃ r, g + 1 + 1 + 1 = r := ⟨_, rfl⟩
 rw [hr] at hb2 ⊢
 have hgr : Aside0 (w.heap.size ≤ r) := ⟨by omega⟩
 have z0 : wa.cell? ⟨g, 0, none⟩ = some (.int .i64 1) := blk_cell hb0 0
 have z1 : wa.cell? ⟨g, 4, none⟩ = some (.int .i64 n) := blk_cell hb0 4
 have z2 : wa.cell? ⟨g + 1, 0, none⟩ = some (.int .i64 a.f0) := blk_cell hb1 0
 have z3 : wa.cell? ⟨g + 1, 1, none⟩ = some (.int .i64 a.f1) := blk_cell hb1 1
 have z4 : wa.cell? ⟨g + 1, 2, none⟩ = some (.int .i64 a.f2) := blk_cell hb1 2
 have z5 : wa.cell? ⟨g + 1 + 1, 0, none⟩ = some (.int .i64 b.f0) := blk_cell hbb 0
 have z6 : wa.cell? ⟨g + 1 + 1, 1, none⟩ = some (.int .i64 b.f1) := blk_cell hbb 1
 have q0 := blk_frozen hb2 0
 have q1 := blk_frozen hb2 1
 have q2 := blk_frozen hb2 2
 have q3 : wa.cell? ⟨r, 0, none⟩ = some (.int .i64 0) := blk_cell hb2 0
 have q4 : wa.cell? ⟨r, 1, none⟩ = some (.int .i64 0) := blk_cell hb2 1
 have q5 : wa.cell? ⟨r, 2, none⟩ = some (.int .i64 0) := blk_cell hb2 2
 replace hr := Aside0.mk hr
 replace hg := Aside0.mk hg
 go_wp2_with (fail)
 have hp := put3 hb2 (.int .i64 (n)) (.int .i64 (0)) (.int .i64 (0))
 refine bodyPost_ret (results_cell_row2 rfl _ _ r 89 #[.int .i64 (n), .int .i64 (0), .int .i64 (0)] (0, 0) _ rfl hp.1 Try.underlying89 rfl (by kernel_rfl)) rfl ?_
 rw [hvv.out]
 exact ⟨rfl, hp.2 _ hB hgr.out⟩
set_option maxHeartbeats 2000000 in
theorem reckon2 (d xa xb n m : Int) (args : List Int) (A : Option Addr) (c : Nat) (a b : SVal) (w : World) :
  Calls Try.prog 60 #[insV ⟨2, d, xa, xb, n, m, args⟩ A c, valV a, valV b] w (ReckonIs (some (⟨a.f0, a.f1, a.f2⟩)) w) := by
 obtain ⟨vv, hvv⟩ : ∃ v : SVal, v = ⟨a.f0, a.f1, a.f2⟩ := ⟨_, rfl⟩
 rw [← hvv]
 replace hvv := Aside0.mk hvv
 have hB := (((((Bel.refl w).alloc (.cells #[.int .i64 2, .int .i64 d, .int .i64 xa, .int .i64 xb, .int .i64 n, .int .i64 m, .slice A args.length c] 57)).alloc (.cells #[.int .i64 a.f0, .int .i64 a.f1, .int .i64 a.f2] 89)).alloc (.cells #[.int .i64 b.f0, .int .i64 b.f1, .int .i64 b.f2] 89)).alloc (.cells #[.int .i64 0, .int .i64 0, .int .i64 0] 89))
 obtain ⟨g, hg⟩ : ∃ g, w.heap.size = g := ⟨_, rfl⟩
 have hb0 : ((((w.alloc (.cells #[.int .i64 2, .int .i64 d, .int .i64 xa, .int .i64 xb, .int .i64 n, .int .i64 m, .slice A args.length c] 57)).alloc (.cells #[.int .i64 a.f0, .int .i64 a.f1, .int .i64 a.f2] 89)).alloc (.cells #[.int .i64 b.f0, .int .i64 b.f1, .int .i64 b.f2] 89)).alloc (.cells #[.int .i64 0, .int .i64 0, .int .i64 0] 89)).heap[g]? = some (.cells #[.int .i64 2, .int .i64 d, .int .i64 xa, .int .i64 xb, .int .i64 n, .int .i64 m, .slice A args.length c] 57 (0, 0)) := heap_old (heap_old (heap_old (heap_new' hg.symm)))
 have hb1 : ((((w.alloc (.cells #[.int .i64 2, .int .i64 d, .int .i64 xa, .int .i64 xb, .int .i64 n, .int .i64 m, .slice A args.length c] 57)).alloc (.cells #[.int .i64 a.f0, .int .i64 a.f1, .int .i64 a.f2] 89)).alloc (.cells #[.int .i64 b.f0, .int .i64 b.f1, .int .i64 b.f2] 89)).alloc (.cells #[.int .i64 0, .int .i64 0, .int .i64 0] 89)).heap[g + 1]? = some (.cells #[.int .i64 a.f0, .int .i64 a.f1, .int .i64 a.f2] 89 (0, 0)) := heap_old (heap_old (heap_new' (by simp [hg])))
 have hbb : ((((w.alloc (.cells #[.int .i64 2, .int .i64 d, .int .i64 xa, .int .i64 xb, .int .i64 n, .int .i64 m, .slice A args.length c] 57)).alloc (.cells #[.int .i64 a.f0, .int .i64 a.f1, .int .i64 a.f2] 89)).alloc (.cells #[.int .i64 b.f0, .int .i64 b.f1, .int .i64 b.f2] 89)).alloc (.cells #[.int .i64 0, .int .i64 0, .int .i64 0] 89)).heap[g + 1 + 1]? = some (.cells #[.int .i64 b.f0, .int .i64 b.f1, .int .i64 b.f2] 89 (0, 0)) := heap_old (heap_new' (by simp [hg]))
 have hb2 : ((((w.alloc (.cells #[.int .i64 2, .int .i64 d, .int .i64 xa, .int .i64 xb, .int .i64 n, .int .i64 m, .slice A args.length c] 57)).alloc (.cells #[.int .i64 a.f0, .int .i64 a.f1, .int .i64 a.f2] 89)).alloc (.cells #[.int .i64 b.f0, .int .i64 b.f1, .int .i64 b.f2] 89)).alloc (.cells #[.int .i64 0, .int .i64 0, .int .i64 0] 89)).heap[g + 1 + 1 + 1]? = some (.cells #[.int .i64 0, .int .i64 0, .int .i64 0] 89 (0, 0)) := heap_new' (by simp [hg])
 go_enter Try.func60, Try.ntmps60
 go_upto_region 1 with (fail)
 generalize (((w.alloc (.cells #[.int .i64 2, .int .i64 d, .int .i64 xa, .int .i64 xb, .int .i64 n, .int .i64 m, .slice A args.length c] 57)).alloc (.cells #[.int .i64 a.f0, .int .i64 a.f1, .int .i64 a.f2] 89)).alloc (.cells #[.int .i64 b.f0, .int .i64 b.f1, .int .i64 b.f2] 89)).alloc (.cells #[.int .i64 0, .int .i64 0, .int .i64 0] 89) = wa at hB hb0 hb1 hbb hb2 ⊢
 obtain ⟨r, hr⟩ : ∃ r, g + 1 + 1 + 1 = r := ⟨_, rfl⟩
 rw [hr] at hb2 ⊢
 have hgr : Aside0 (w.heap.size ≤ r) := ⟨by omega⟩
 have z0 : wa.cell? ⟨g, 0, none⟩ = some (.int .i64 2) := blk_cell hb0 0
 have z1 : wa.cell? ⟨g, 4, none⟩ = some (.int .i64 n) := blk_cell hb0 4
 have z2 : wa.cell? ⟨g + 1, 0, none⟩ = some (.int .i64 a.f0) := blk_cell hb1 0
 have z3 : wa.cell? ⟨g + 1, 1, none⟩ = some (.int .i64 a.f1) := blk_cell hb1 1
 have z4 : wa.cell? ⟨g + 1, 2, none⟩ = some (.int .i64 a.f2) := blk_cell hb1 2
 have z5 : wa.cell? ⟨g + 1 + 1, 0, none⟩ = some (.int .i64 b.f0) := blk_cell hbb 0
 have z6 : wa.cell? ⟨g + 1 + 1, 1, none⟩ = some (.int .i64 b.f1) := blk_cell hbb 1
 have q0 := blk_frozen hb2 0
 have q1 := blk_frozen hb2 1
 have q2 := blk_frozen hb2 2
 have q3 : wa.cell? ⟨r, 0, none⟩ = some (.int .i64 0) := blk_cell hb2 0
 have q4 : wa.cell? ⟨r, 1, none⟩ = some (.int .i64 0) := blk_cell hb2 1
 have q5 : wa.cell? ⟨r, 2, none⟩ = some (.int .i64 0) := blk_cell hb2 2
 replace hr := Aside0.mk hr
 replace hg := Aside0.mk hg
 go_wp2_with (fail)
 have hp := put3 hb2 (.int .i64 (a.f0)) (.int .i64 (a.f1)) (.int .i64 (a.f2))
 refine bodyPost_ret (results_cell_row2 rfl _ _ r 89 #[.int .i64 (a.f0), .int .i64 (a.f1), .int .i64 (a.f2)] (0, 0) _ rfl hp.1 Try.underlying89 rfl (by kernel_rfl)) rfl ?_
 rw [hvv.out]
 exact ⟨rfl, hp.2 _ hB hgr.out⟩
set_option maxHeartbeats 2000000 in
theorem reckon3 (d xa xb n m : Int) (args : List Int) (A : Option Addr) (c : Nat) (a b : SVal) (w : World) :
  Calls Try.prog 60 #[insV ⟨3, d, xa, xb, n, m, args⟩ A c, valV a, valV b] w (ReckonIs (some (⟨wr64 (a.f0 + b.f0), 0, 0⟩)) w) := by
 obtain ⟨vv, hvv⟩ : ∃ v : SVal, v = ⟨wr64 (a.f0 + b.f0), 0, 0⟩ := ⟨_, rfl⟩
 rw [← hvv]
 replace hvv := Aside0.mk hvv
 have hB := (((((Bel.refl w).alloc (.cells #[.int .i64 3, .int .i64 d, .int .i64 xa, .int .i64 xb, .int .i64 n, .int .i64 m, .slice A args.length c] 57)).alloc (.cells #[.int .i64 a.f0, .int .i64 a.f1, .int .i64 a.f2] 89)).alloc (.cells #[.int .i64 b.f0, .int .i64 b.f1, .int .i64 b.f2] 89)).alloc (.cells #[.int .i64 0, .int .i64 0, .int .i64 0] 89))
 obtain ⟨g, hg⟩ : ∃ g, w.heap.size = g := ⟨_, rfl⟩
 have hb0 : ((((w.alloc (.cells #[.int .i64 3, .int .i64 d, .int .i64 xa, .int .i64 xb, .int .i64 n, .int .i64 m, .slice A args.length c] 57)).alloc (.cells #[.int .i64 a.f0, .int .i64 a.f1, .int .i64 a.f2] 89)).alloc (.cells #[.int .i64 b.f0, .int .i64 b.f1, .int .i64 b.f2] 89)).alloc (.cells #[.int .i64 0, .int .i64 0, .int .i64 0] 89)).heap[g]? = some (.cells #[.int .i64 3, .int .i64 d, .int .i64 xa, .int .i64 xb, .int .i64 n, .int .i64 m, .slice A args.length c] 57 (0, 0)) := heap_old (heap_old (heap_old (heap_new' hg.symm)))
 have hb1 : ((((w.alloc (.cells #[.int .i64 3, .int .i64 d, .int .i64 xa, .int .i64 xb, .int .i64 n, .int .i64 m, .slice A args.length c] 57)).alloc (.cells #[.int .i64 a.f0, .int .i64 a.f1, .int .i64 a.f2] 89)).alloc (.cells #[.int .i64 b.f0, .int .i64 b.f1, .int .i64 b.f2] 89)).alloc (.cells #[.int .i64 0, .int .i64 0, .int .i64 0] 89)).heap[g + 1]? = some (.cells #[.int .i64 a.f0, .int .i64 a.f1, .int .i64 a.f2] 89 (0, 0)) := heap_old (heap_old (heap_new' (by simp [hg])))
 have hbb : ((((w.alloc (.cells #[.int .i64 3, .int .i64 d, .int .i64 xa, .int .i64 xb, .int .i64 n, .int .i64 m, .slice A args.length c] 57)).alloc (.cells #[.int .i64 a.f0, .int .i64 a.f1, .int .i64 a.f2] 89)).alloc (.cells #[.int .i64 b.f0, .int .i64 b.f1, .int .i64 b.f2] 89)).alloc (.cells #[.int .i64 0, .int .i64 0, .int .i64 0] 89)).heap[g + 1 + 1]? = some (.cells #[.int .i64 b.f0, .int .i64 b.f1, .int .i64 b.f2] 89 (0, 0)) := heap_old (heap_new' (by simp [hg]))
 have hb2 : ((((w.alloc (.cells #[.int .i64 3, .int .i64 d, .int .i64 xa, .int .i64 xb, .int .i64 n, .int .i64 m, .slice A args.length c] 57)).alloc (.cells #[.int .i64 a.f0, .int .i64 a.f1, .int .i64 a.f2] 89)).alloc (.cells #[.int .i64 b.f0, .int .i64 b.f1, .int .i64 b.f2] 89)).alloc (.cells #[.int .i64 0, .int .i64 0, .int .i64 0] 89)).heap[g + 1 + 1 + 1]? = some (.cells #[.int .i64 0, .int .i64 0, .int .i64 0] 89 (0, 0)) := heap_new' (by simp [hg])
 go_enter Try.func60, Try.ntmps60
 go_upto_region 1 with (fail)
 generalize (((w.alloc (.cells #[.int .i64 3, .int .i64 d, .int .i64 xa, .int .i64 xb, .int .i64 n, .int .i64 m, .slice A args.length c] 57)).alloc (.cells #[.int .i64 a.f0, .int .i64 a.f1, .int .i64 a.f2] 89)).alloc (.cells #[.int .i64 b.f0, .int .i64 b.f1, .int .i64 b.f2] 89)).alloc (.cells #[.int .i64 0, .int .i64 0, .int .i64 0] 89) = wa at hB hb0 hb1 hbb hb2 ⊢
 obtain ⟨r, hr⟩ : ∃ r, g + 1 + 1 + 1 = r := ⟨_, rfl⟩
 rw [hr] at hb2 ⊢
 have hgr : Aside0 (w.heap.size ≤ r) := ⟨by omega⟩
 have z0 : wa.cell? ⟨g, 0, none⟩ = some (.int .i64 3) := blk_cell hb0 0
 have z1 : wa.cell? ⟨g, 4, none⟩ = some (.int .i64 n) := blk_cell hb0 4
 have z2 : wa.cell? ⟨g + 1, 0, none⟩ = some (.int .i64 a.f0) := blk_cell hb1 0
 have z3 : wa.cell? ⟨g + 1, 1, none⟩ = some (.int .i64 a.f1) := blk_cell hb1 1
 have z4 : wa.cell? ⟨g + 1, 2, none⟩ = some (.int .i64 a.f2) := blk_cell hb1 2
 have z5 : wa.cell? ⟨g + 1 + 1, 0, none⟩ = some (.int .i64 b.f0) := blk_cell hbb 0
 have z6 : wa.cell? ⟨g + 1 + 1, 1, none⟩ = some (.int .i64 b.f1) := blk_cell hbb 1
 have q0 := blk_frozen hb2 0
 have q1 := blk_frozen hb2 1
 have q2 := blk_frozen hb2 2
 have q3 : wa.cell? ⟨r, 0, none⟩ = some (.int .i64 0) := blk_cell hb2 0
 have q4 : wa.cell? ⟨r, 1, none⟩ = some (.int .i64 0) := blk_cell hb2 1
 have q5 : wa.cell? ⟨r, 2, none⟩ = some (.int .i64 0) := blk_cell hb2 2
 replace hr := Aside0.mk hr
 replace hg := Aside0.mk hg
 go_wp2_with (fail)
 have hp := put3 hb2 (.int .i64 (wrap64 (a.f0 + b.f0))) (.int .i64 (0)) (.int .i64 (0))
 refine bodyPost_ret (results_cell_row2 rfl _ _ r 89 #[.int .i64 (wrap64 (a.f0 + b.f0)), .int .i64 (0), .int .i64 (0)] (0, 0) _ rfl hp.1 Try.underlying89 rfl (by kernel_rfl)) rfl ?_
 rw [hvv.out]
 exact ⟨rfl, hp.2 _ hB hgr.out⟩
set_option maxHeartbeats 2000000 in
theorem reckon4 (d xa xb n m : Int) (args : List Int) (A : Option Addr) (c : Nat) (a b : SVal) (w : World) :
  Calls Try.prog 60 #[insV ⟨4, d, xa, xb, n, m, args⟩ A c, valV a, valV b] w (ReckonIs (some (⟨wr64 (a.f0 - b.f0), 0, 0⟩)) w) := by
 obtain ⟨vv, hvv⟩ : ∃ v : SVal, v = ⟨wr64 (a.f0 - b.f0), 0, 0⟩ := ⟨_, rfl⟩
 rw [← hvv]
 replace hvv := Aside0.mk hvv
 have hB := (((((Bel.refl w).alloc (.cells #[.int .i64 4, .int .i64 d, .int .i64 xa, .int .i64 xb, .int .i64 n, .int .i64 m, .slice A args.length c] 57)).alloc (.cells #[.int .i64 a.f0, .int .i64 a.f1, .int .i64 a.f2] 89)).alloc (.cells #[.int .i64 b.f0, .int .i64 b.f1, .int .i64 b.f2] 89)).alloc (.cells #[.int .i64 0, .int .i64 0, .int .i64 0] 89))
 obtain ⟨g, hg⟩ : ∃ g, w.heap.size = g := ⟨_, rfl⟩
 have hb0 : ((((w.alloc (.cells #[.int .i64 4, .int .i64 d, .int .i64 xa, .int .i64 xb, .int .i64 n, .int .i64 m, .slice A args.length c] 57)).alloc (.cells #[.int .i64 a.f0, .int .i64 a.f1, .int .i64 a.f2] 89)).alloc (.cells #[.int .i64 b.f0, .int .i64 b.f1, .int .i64 b.f2] 89)).alloc (.cells #[.int .i64 0, .int .i64 0, .int .i64 0] 89)).heap[g]? = some (.cells #[.int .i64 4, .int .i64 d, .int .i64 xa, .int .i64 xb, .int .i64 n, .int .i64 m, .slice A args.length c] 57 (0, 0)) := heap_old (heap_old (heap_old (heap_new' hg.symm)))
 have hb1 : ((((w.alloc (.cells #[.int .i64 4, .int .i64 d, .int .i64 xa, .int .i64 xb, .int .i64 n, .int .i64 m, .slice A args.length c] 57)).alloc (.cells #[.int .i64 a.f0, .int .i64 a.f1, .int .i64 a.f2] 89)).alloc (.cells #[.int .i64 b.f0, .int .i64 b.f1, .int .i64 b.f2] 89)).alloc (.cells #[.int .i64 0, .int .i64 0, .int .i64 0] 89)).heap[g + 1]? = some (.cells #[.int .i64 a.f0, .int .i64 a.f1, .int .i64 a.f2] 89 (0, 0)) := heap_old (heap_old (heap_new' (by simp [hg])))
 have hbb : ((((w.alloc (.cells #[.int .i64 4, .int .i64 d, .int .i64 xa, .int .i64 xb, .int .i64 n, .int .i64 m, .slice A args.length c] 57)).alloc (.cells #[.int .i64 a.f0, .int .i64 a.f1, .int .i64 a.f2] 89)).alloc (.cells #[.int .i64 b.f0, .int .i64 b.f1, .int .i64 b.f2] 89)).alloc (.cells #[.int .i64 0, .int .i64 0, .int .i64 0] 89)).heap[g + 1 + 1]? = some (.cells #[.int .i64 b.f0, .int .i64 b.f1, .int .i64 b.f2] 89 (0, 0)) := heap_old (heap_new' (by simp [hg]))
 have hb2 : ((((w.alloc (.cells #[.int .i64 4, .int .i64 d, .int .i64 xa, .int .i64 xb, .int .i64 n, .int .i64 m, .slice A args.length c] 57)).alloc (.cells #[.int .i64 a.f0, .int .i64 a.f1, .int .i64 a.f2] 89)).alloc (.cells #[.int .i64 b.f0, .int .i64 b.f1, .int .i64 b.f2] 89)).alloc (.cells #[.int .i64 0, .int .i64 0, .int .i64 0] 89)).heap[g + 1 + 1 + 1]? = some (.cells #[.int .i64 0, .int .i64 0, .int .i64 0] 89 (0, 0)) := heap_new' (by simp [hg])
 go_enter Try.func60, Try.ntmps60
 go_upto_region 1 with (fail)
 generalize (((w.alloc (.cells #[.int .i64 4, .int .i64 d, .int .i64 xa, .int .i64 xb, .int .i64 n, .int .i64 m, .slice A args.length c] 57)).alloc (.cells #[.int .i64 a.f0, .int .i64 a.f1, .int .i64 a.f2] 89)).alloc (.cells #[.int .i64 b.f0, .int .i64 b.f1, .int .i64 b.f2] 89)).alloc (.cells #[.int .i64 0, .int .i64 0, .int .i64 0] 89) = wa at hB hb0 hb1 hbb hb2 ⊢
 obtain ⟨r, hr⟩ : ∃ r, g + 1 + 1 + 1 = r := ⟨_, rfl⟩
 rw [hr] at hb2 ⊢
 have hgr : Aside0 (w.heap.size ≤ r) := ⟨by omega⟩
 have z0 : wa.cell? ⟨g, 0, none⟩ = some (.int .i64 4) := blk_cell hb0 0
 have z1 : wa.cell? ⟨g, 4, none⟩ = some (.int .i64 n) := blk_cell hb0 4
 have z2 : wa.cell? ⟨g + 1, 0, none⟩ = some (.int .i64 a.f0) := blk_cell hb1 0
 have z3 : wa.cell? ⟨g + 1, 1, none⟩ = some (.int .i64 a.f1) := blk_cell hb1 1
 have z4 : wa.cell? ⟨g + 1, 2, none⟩ = some (.int .i64 a.f2) := blk_cell hb1 2
 have z5 : wa.cell? ⟨g + 1 + 1, 0, none⟩ = some (.int .i64 b.f0) := blk_cell hbb 0
 have z6 : wa.cell? ⟨g + 1 + 1, 1, none⟩ = some (.int .i64 b.f1) := blk_cell hbb 1
 have q0 := blk_frozen hb2 0
 have q1 := blk_frozen hb2 1
 have q2 := blk_frozen hb2 2
 have q3 : wa.cell? ⟨r, 0, none⟩ = some (.int .i64 0) := blk_cell hb2 0
 have q4 : wa.cell? ⟨r, 1, none⟩ = some (.int .i64 0) := blk_cell hb2 1
 have q5 : wa.cell? ⟨r, 2, none⟩ = some (.int .i64 0) := blk_cell hb2 2
 replace hr := Aside0.mk hr
 replace hg := Aside0.mk hg
 go_wp2_with (fail)
 have hp := put3 hb2 (.int .i64 (wrap64 (a.f0 - b.f0))) (.int .i64 (0)) (.int .i64 (0))
 refine bodyPost_ret (results_cell_row2 rfl _ _ r 89 #[.int .i64 (wrap64 (a.f0 - b.f0)), .int .i64 (0), .int .i64 (0)] (0, 0) _ rfl hp.1 Try.underlying89 rfl (by kernel_rfl)) rfl ?_
 rw [hvv.out]
 exact ⟨rfl, hp.2 _ hB hgr.out⟩
set_option maxHeartbeats 2000000 in
theorem reckon5 (d xa xb n m : Int) (args : List Int) (A : Option Addr) (c : Nat) (a b : SVal) (w : World) :
  Calls Try.prog 60 #[insV ⟨5, d, xa, xb, n, m, args⟩ A c, valV a, valV b] w (ReckonIs (some (⟨wr64 (a.f0 * b.f0), 0, 0⟩)) w) := by
 obtain ⟨vv, hvv⟩ : ∃ v : SVal, v = ⟨wr64 (a.f0 * b.f0), 0, 0⟩ := ⟨_, rfl⟩
 rw [← hvv]
 replace hvv := Aside0.mk hvv
 have hB := (((((Bel.refl w).alloc (.cells #[.int .i64 5, .int .i64 d, .int .i64 xa, .int .i64 xb, .int .i64 n, .int .i64 m, .slice A args.length c] 57)).alloc (.cells #[.int .i64 a.f0, .int .i64 a.f1, .int .i64 a.f2] 89)).alloc (.cells #[.int .i64 b.f0, .int .i64 b.f1, .int .i64 b.f2] 89)).alloc (.cells #[.int .i64 0, .int .i64 0, .int .i64 0] 89))
 obtain ⟨g, hg⟩ : ∃ g, w.heap.size = g := ⟨_, rfl⟩
 have hb0 : ((((w.alloc (.cells #[.int .i64 5, .int .i64 d, .int .i64 xa, .int .i64 xb, .int .i64 n, .int .i64 m, .slice A args.length c] 57)).alloc (.cells #[.int .i64 a.f0, .int .i64 a.f1, .int .i64 a.f2] 89)).alloc (.cells #[.int .i64 b.f0, .int .i64 b.f1, .int .i64 b.f2] 89)).alloc (.cells #[.int .i64 0, .int .i64 0, .int .i64 0] 89)).heap[g]? = some (.cells #[.int .i64 5, .int .i64 d, .int .i64 xa, .int .i64 xb, .int .i64 n, .int .i64 m, .slice A args.length c] 57 (0, 0)) := heap_old (heap_old (heap_old (heap_new' hg.symm)))
 have hb1 : ((((w.alloc (.cells #[.int .i64 5, .int .i64 d, .int .i64 xa, .int .i64 xb, .int .i64 n, .int .i64 m, .slice A args.length c] 57)).alloc (.cells #[.int .i64 a.f0, .int .i64 a.f1, .int .i64 a.f2] 89)).alloc (.cells #[.int .i64 b.f0, .int .i64 b.f1, .int .i64 b.f2] 89)).alloc (.cells #[.int .i64 0, .int .i64 0, .int .i64 0] 89)).heap[g + 1]? = some (.cells #[.int .i64 a.f0, .int .i64 a.f1, .int .i64 a.f2] 89 (0, 0)) := heap_old (heap_old (heap_new' (by simp [hg])))
 have hbb : ((((w.alloc (.cells #[.int .i64 5, .int .i64 d, .int .i64 xa, .int .i64 xb, .int .i64 n, .int .i64 m, .slice A args.length c] 57)).alloc (.cells #[.int .i64 a.f0, .int .i64 a.f1, .int .i64 a.f2] 89)).alloc (.cells #[.int .i64 b.f0, .int .i64 b.f1, .int .i64 b.f2] 89)).alloc (.cells #[.int .i64 0, .int .i64 0, .int .i64 0] 89)).heap[g + 1 + 1]? = some (.cells #[.int .i64 b.f0, .int .i64 b.f1, .int .i64 b.f2] 89 (0, 0)) := heap_old (heap_new' (by simp [hg]))
 have hb2 : ((((w.alloc (.cells #[.int .i64 5, .int .i64 d, .int .i64 xa, .int .i64 xb, .int .i64 n, .int .i64 m, .slice A args.length c] 57)).alloc (.cells #[.int .i64 a.f0, .int .i64 a.f1, .int .i64 a.f2] 89)).alloc (.cells #[.int .i64 b.f0, .int .i64 b.f1, .int .i64 b.f2] 89)).alloc (.cells #[.int .i64 0, .int .i64 0, .int .i64 0] 89)).heap[g + 1 + 1 + 1]? = some (.cells #[.int .i64 0, .int .i64 0, .int .i64 0] 89 (0, 0)) := heap_new' (by simp [hg])
 go_enter Try.func60, Try.ntmps60
 go_upto_region 1 with (fail)
 generalize (((w.alloc (.cells #[.int .i64 5, .int .i64 d, .int .i64 xa, .int .i64 xb, .int .i64 n, .int .i64 m, .slice A args.length c] 57)).alloc (.cells #[.int .i64 a.f0, .int .i64 a.f1, .int .i64 a.f2] 89)).alloc (.cells #[.int .i64 b.f0, .int .i64 b.f1, .int .i64 b.f2] 89)).alloc (.cells #[.int .i64 0, .int .i64 0, .int .i64 0] 89) = wa at hB hb0 hb1 hbb hb2 ⊢
 obtain ⟨r, hr⟩ : ∃ r, g + 1 + 1 + 1 = r := ⟨_, rfl⟩
 rw [hr] at hb2 ⊢
 have hgr : Aside0 (w.heap.size ≤ r) := ⟨by omega⟩
 have z0 : wa.cell? ⟨g, 0, none⟩ = some (.int .i64 5) := blk_cell hb0 0
 have z1 : wa.cell? ⟨g, 4, none⟩ = some (.int .i64 n) := blk_cell hb0 4
 have z2 : wa.cell? ⟨g + 1, 0, none⟩ = some (.int .i64 a.f0) := blk_cell hb1 0
 have z3 : wa.cell? ⟨g + 1, 1, none⟩ = some (.int .i64 a.f1) := blk_cell hb1 1
 have z4 : wa.cell? ⟨g + 1, 2, none⟩ = some (.int .i64 a.f2) := blk_cell hb1 2
 have z5 : wa.cell? ⟨g + 1 + 1, 0, none⟩ = some (.int .i64 b.f0) := blk_cell hbb 0
 have z6 : wa.cell? ⟨g + 1 + 1, 1, none⟩ = some (.int .i64 b.f1) := blk_cell hbb 1
 have q0 := blk_frozen hb2 0
 have q1 := blk_frozen hb2 1
 have q2 := blk_frozen hb2 2
 have q3 : wa.cell? ⟨r, 0, none⟩ = some (.int .i64 0) := blk_cell hb2 0
 have q4 : wa.cell? ⟨r, 1, none⟩ = some (.int .i64 0) := blk_cell hb2 1
 have q5 : wa.cell? ⟨r, 2, none⟩ = some (.int .i64 0) := blk_cell hb2 2
 replace hr := Aside0.mk hr
 replace hg := Aside0.mk hg
 go_wp2_with (fail)
 have hp := put3 hb2 (.int .i64 (wrap64 (a.f0 * b.f0))) (.int .i64 (0)) (.int .i64 (0))
 refine bodyPost_ret (results_cell_row2 rfl _ _ r 89 #[.int .i64 (wrap64 (a.f0 * b.f0)), .int .i64 (0), .int .i64 (0)] (0, 0) _ rfl hp.1 Try.underlying89 rfl (by kernel_rfl)) rfl ?_
 rw [hvv.out]
 exact ⟨rfl, hp.2 _ hB hgr.out⟩
set_option maxHeartbeats 2000000 in
theorem reckon6 (d xa xb n m : Int) (args : List Int) (A : Option Addr) (c : Nat) (a b : SVal) (w : World) :
  Calls Try.prog 60 #[insV ⟨6, d, xa, xb, n, m, args⟩ A c, valV a, valV b] w (ReckonIs (some (bitV (decide (a.f0 < b.f0)))) w) := by
 obtain ⟨vv, hvv⟩ : ∃ v : SVal, v = bitV (decide (a.f0 < b.f0)) := ⟨_, rfl⟩
 rw [← hvv]
 replace hvv := Aside0.mk hvv
 have hB := (((((Bel.refl w).alloc (.cells #[.int .i64 6, .int .i64 d, .int .i64 xa, .int .i64 xb, .int .i64 n, .int .i64 m, .slice A args.length c] 57)).alloc (.cells #[.int .i64 a.f0, .int .i64 a.f1, .int .i64 a.f2] 89)).alloc (.cells #[.int .i64 b.f0, .int .i64 b.f1, .int .i64 b.f2] 89)).alloc (.cells #[.int .i64 0, .int .i64 0, .int .i64 0] 89))
 obtain ⟨g, hg⟩ : ∃ g, w.heap.size = g := ⟨_, rfl⟩
 have hb0 : ((((w.alloc (.cells #[.int .i64 6, .int .i64 d, .int .i64 xa, .int .i64 xb, .int .i64 n, .int .i64 m, .slice A args.length c] 57)).alloc (.cells #[.int .i64 a.f0, .int .i64 a.f1, .int .i64 a.f2] 89)).alloc (.cells #[.int .i64 b.f0, .int .i64 b.f1, .int .i64 b.f2] 89)).alloc (.cells #[.int .i64 0, .int .i64 0, .int .i64 0] 89)).heap[g]? = some (.cells #[.int .i64 6, .int .i64 d, .int .i64 xa, .int .i64 xb, .int .i64 n, .int .i64 m, .slice A args.length c] 57 (0, 0)) := heap_old (heap_old (heap_old (heap_new' hg.symm)))
 have hb1 : ((((w.alloc (.cells #[.int .i64 6, .int .i64 d, .int .i64 xa, .int .i64 xb, .int .i64 n, .int .i64 m, .slice A args.length c] 57)).alloc (.cells #[.int .i64 a.f0, .int .i64 a.f1, .int .i64 a.f2] 89)).alloc (.cells #[.int .i64 b.f0, .int .i64 b.f1, .int .i64 b.f2] 89)).alloc (.cells #[.int .i64 0, .int .i64 0, .int .i64 0] 89)).heap[g + 1]? = some (.cells #[.int .i64 a.f0, .int .i64 a.f1, .int .i64 a.f2] 89 (0, 0)) := heap_old (heap_old (heap_new' (by simp [hg])))
 have hbb : ((((w.alloc (.cells #[.int .i64 6, .int .i64 d, .int .i64 xa, .int .i64 xb, .int .i64 n, .int .i64 m, .slice A args.length c] 57)).alloc (.cells #[.int .i64 a.f0, .int .i64 a.f1, .int .i64 a.f2] 89)).alloc (.cells #[.int .i64 b.f0, .int .i64 b.f1, .int .i64 b.f2] 89)).alloc (.cells #[.int .i64 0, .int .i64 0, .int .i64 0] 89)).heap[g + 1 + 1]? = some (.cells #[.int .i64 b.f0, .int .i64 b.f1, .int .i64 b.f2] 89 (0, 0)) := heap_old (heap_new' (by simp [hg]))
 have hb2 : ((((w.alloc (.cells #[.int .i64 6, .int .i64 d, .int .i64 xa, .int .i64 xb, .int .i64 n, .int .i64 m, .slice A args.length c] 57)).alloc (.cells #[.int .i64 a.f0, .int .i64 a.f1, .int .i64 a.f2] 89)).alloc (.cells #[.int .i64 b.f0, .int .i64 b.f1, .int .i64 b.f2] 89)).alloc (.cells #[.int .i64 0, .int .i64 0, .int .i64 0] 89)).heap[g + 1 + 1 + 1]? = some (.cells #[.int .i64 0, .int .i64 0, .int .i64 0] 89 (0, 0)) := heap_new' (by simp [hg])
 go_enter Try.func60, Try.ntmps60
 go_upto_region 1 with (fail)
 generalize (((w.alloc (.cells #[.int .i64 6, .int .i64 d, .int .i64 xa, .int .i64 xb, .int .i64 n, .int .i64 m, .slice A args.length c] 57)).alloc (.cells #[.int .i64 a.f0, .int .i64 a.f1, .int .i64 a.f2] 89)).alloc (.cells #[.int .i64 b.f0, .int .i64 b.f1, .int .i64 b.f2] 89)).alloc (.cells #[.int .i64 0, .int .i64 0, .int .i64 0] 89) = wa at hB hb0 hb1 hbb hb2 ⊢
 obtain ⟨r, hr⟩ : ∃ r, g + 1 + 1 + 1 = r := ⟨_, rfl⟩
 rw [hr] at hb2 ⊢
 have hgr : Aside0 (w.heap.size ≤ r) := ⟨by omega⟩
 have z0 : wa.cell? ⟨g, 0, none⟩ = some (.int .i64 6) := blk_cell hb0 0
 have z1 : wa.cell? ⟨g, 4, none⟩ = some (.int .i64 n) := blk_cell hb0 4
 have z2 : wa.cell? ⟨g + 1, 0, none⟩ = some (.int .i64 a.f0) := blk_cell hb1 0
 have z3 : wa.cell? ⟨g + 1, 1, none⟩ = some (.int .i64 a.f1) := blk_cell hb1 1
 have z4 : wa.cell? ⟨g + 1, 2, none⟩ = some (.int .i64 a.f2) := blk_cell hb1 2
 have z5 : wa.cell? ⟨g + 1 + 1, 0, none⟩ = some (.int .i64 b.f0) := blk_cell hbb 0
 have z6 : wa.cell? ⟨g + 1 + 1, 1, none⟩ = some (.int .i64 b.f1) := blk_cell hbb 1
 have q0 := blk_frozen hb2 0
 have q1 := blk_frozen hb2 1
 have q2 := blk_frozen hb2 2
 have q3 : wa.cell? ⟨r, 0, none⟩ = some (.int .i64 0) := blk_cell hb2 0
 have q4 : wa.cell? ⟨r, 1, none⟩ = some (.int .i64 0) := blk_cell hb2 1
 have q5 : wa.cell? ⟨r, 2, none⟩ = some (.int .i64 0) := blk_cell hb2 2
 replace hr := Aside0.mk hr
 replace hg := Aside0.mk hg
 go_wp2_with ((go_at_call 73; ((with_reducible refine (bit_any _ _).mono ?_); rintro e w2 ⟨rfl, hB2⟩; have hb3 := hB2.blk hb2; have q0 := blk_frozen hb3 0; have q1 := blk_frozen hb3 1; have q2 := blk_frozen hb3 2; have q3 : w2.cell? ⟨r, 0, none⟩ = some (.int .i64 0) := blk_cell hb3 0; have q4 : w2.cell? ⟨r, 1, none⟩ = some (.int .i64 0) := blk_cell hb3 1; have q5 : w2.cell? ⟨r, 2, none⟩ = some (.int .i64 0) := blk_cell hb3 2)))
 have hp := put3 hb3 (.int .i64 ((bitV (decide (a.f0 < b.f0))).f0)) (.int .i64 ((bitV (decide (a.f0 < b.f0))).f1)) (.int .i64 ((bitV (decide (a.f0 < b.f0))).f2))
 refine bodyPost_ret (results_cell_row2 rfl _ _ r 89 #[.int .i64 ((bitV (decide (a.f0 < b.f0))).f0), .int .i64 ((bitV (decide (a.f0 < b.f0))).f1), .int .i64 ((bitV (decide (a.f0 < b.f0))).f2)] (0, 0) _ rfl hp.1 Try.underlying89 rfl (by kernel_rfl)) rfl ?_
 rw [hvv.out]
 exact ⟨rfl, hp.2 _ (hB.trans hB2) hgr.out⟩
set_option maxHeartbeats 2000000 in
theorem reckon7 (d xa xb n m : Int) (args : List Int) (A : Option Addr) (c : Nat) (a b : SVal) (w : World) :
  Calls Try.prog 60 #[insV ⟨7, d, xa, xb, n, m, args⟩ A c, valV a, valV b] w (ReckonIs (some (⟨0, 0, 0⟩)) w) := by
 obtain ⟨vv, hvv⟩ : ∃ v : SVal, v = ⟨0, 0, 0⟩ := ⟨_, rfl⟩
 rw [← hvv]
 replace hvv := Aside0.mk hvv
 have hB := (((((Bel.refl w).alloc (.cells #[.int .i64 7, .int .i64 d, .int .i64 xa, .int .i64 xb, .int .i64 n, .int .i64 m, .slice A args.length c] 57)).alloc (.cells #[.int .i64 a.f0, .int .i64 a.f1, .int .i64 a.f2] 89)).alloc (.cells #[.int .i64 b.f0, .int .i64 b.f1, .int .i64 b.f2] 89)).alloc (.cells #[.int .i64 0, .int .i64 0, .int .i64 0] 89))
 obtain ⟨g, hg⟩ : ∃ g, w.heap.size = g := ⟨_, rfl⟩
 have hb0 : ((((w.alloc (.cells #[.int .i64 7, .int .i64 d, .int .i64 xa, .int .i64 xb, .int .i64 n, .int .i64 m, .slice A args.length c] 57)).alloc (.cells #[.int .i64 a.f0, .int .i64 a.f1, .int .i64 a.f2] 89)).alloc (.cells #[.int .i64 b.f0, .int .i64 b.f1, .int .i64 b.f2] 89)).alloc (.cells #[.int .i64 0, .int .i64 0, .int .i64 0] 89)).heap[g]? = some (.cells #[.int .i64 7, .int .i64 d, .int .i64 xa, .int .i64 xb, .int .i64 n, .int .i64 m, .slice A args.length c] 57 (0, 0)) := heap_old (heap_old (heap_old (heap_new' hg.symm)))
 have hb1 : ((((w.alloc (.cells #[.int .i64 7, .int .i64 d, .int .i64 xa, .int .i64 xb, .int .i64 n, .int .i64 m, .slice A args.length c] 57)).alloc (.cells #[.int .i64 a.f0, .int .i64 a.f1, .int .i64 a.f2] 89)).alloc (.cells #[.int .i64 b.f0, .int .i64 b.f1, .int .i64 b.f2] 89)).alloc (.cells #[.int .i64 0, .int .i64 0, .int .i64 0] 89)).heap[g + 1]? = some (.cells #[.int .i64 a.f0, .int .i64 a.f1, .int .i64 a.f2] 89 (0, 0)) := heap_old (heap_old (heap_new' (by simp [hg])))
 have hbb : ((((w.alloc (.cells #[.int .i64 7, .int .i64 d, .int .i64 xa, .int .i64 xb, .int .i64 n, .int .i64 m, .slice A args.length c] 57)).alloc (.cells #[.int .i64 a.f0, .int .i64 a.f1, .int .i64 a.f2] 89)).alloc (.cells #[.int .i64 b.f0, .int .i64 b.f1, .int .i64 b.f2] 89)).alloc (.cells #[.int .i64 0, .int .i64 0, .int .i64 0] 89)).heap[g + 1 + 1]? = some (.cells #[.int .i64 b.f0, .int .i64 b.f1, .int .i64 b.f2] 89 (0, 0)) := heap_old (heap_new' (by simp [hg]))
 have hb2 : ((((w.alloc (.cells #[.int .i64 7, .int .i64 d, .int .i64 xa, .int .i64 xb, .int .i64 n, .int .i64 m, .slice A args.length c] 57)).alloc (.cells #[.int .i64 a.f0, .int .i64 a.f1, .int .i64 a.f2] 89)).alloc (.cells #[.int .i64 b.f0, .int .i64 b.f1, .int .i64 b.f2] 89)).alloc (.cells #[.int .i64 0, .int .i64 0, .int .i64 0] 89)).heap[g + 1 + 1 + 1]? = some (.cells #[.int .i64 0, .int .i64 0, .int .i64 0] 89 (0, 0)) := heap_new' (by simp [hg])
 go_enter Try.func60, Try.ntmps60
 go_upto_region 1 with (fail)
 generalize (((w.alloc (.cells #[.int .i64 7, .int .i64 d, .int .i64 xa, .int .i64 xb, .int .i64 n, .int .i64 m, .slice A args.length c] 57)).alloc (.cells #[.int .i64 a.f0, .int .i64 a.f1, .int .i64 a.f2] 89)).alloc (.cells #[.int .i64 b.f0, .int .i64 b.f1, .int .i64 b.f2] 89)).alloc (.cells #[.int .i64 0, .int .i64 0, .int .i64 0] 89) = wa at hB hb0 hb1 hbb hb2 ⊢
 obtain ⟨r, hr⟩ : ∃ r, g + 1 + 1 + 1 = r := ⟨_, rfl⟩
 rw [hr] at hb2 ⊢
 have hgr : Aside0 (w.heap.size ≤ r) := ⟨by omega⟩
 have z0 : wa.cell? ⟨g, 0, none⟩ = some (.int .i64 7) := blk_cell hb0 0
 have z1 : wa.cell? ⟨g, 4, none⟩ = some (.int .i64 n) := blk_cell hb0 4
 have z2 : wa.cell? ⟨g + 1, 0, none⟩ = some (.int .i64 a.f0) := blk_cell hb1 0
 have z3 : wa.cell? ⟨g + 1, 1, none⟩ = some (.int .i64 a.f1) := blk_cell hb1 1
 have z4 : wa.cell? ⟨g + 1, 2, none⟩ = some (.int .i64 a.f2) := blk_cell hb1 2
 have z5 : wa.cell? ⟨g + 1 + 1, 0, none⟩ = some (.int .i64 b.f0) := blk_cell hbb 0
 have z6 : wa.cell? ⟨g + 1 + 1, 1, none⟩ = some (.int .i64 b.f1) := blk_cell hbb 1
 have q0 := blk_frozen hb2 0
 have q1 := blk_frozen hb2 1
 have q2 := blk_frozen hb2 2
 have q3 : wa.cell? ⟨r, 0, none⟩ = some (.int .i64 0) := blk_cell hb2 0
 have q4 : wa.cell? ⟨r, 1, none⟩ = some (.int .i64 0) := blk_cell hb2 1
 have q5 : wa.cell? ⟨r, 2, none⟩ = some (.int .i64 0) := blk_cell hb2 2
 replace hr := Aside0.mk hr
 replace hg := Aside0.mk hg
 go_wp2_with (fail)
 have hp := put3 hb2 (.int .i64 (0)) (.int .i64 (0)) (.int .i64 (0))
 refine bodyPost_ret (results_cell_row2 rfl _ _ r 89 #[.int .i64 (0), .int .i64 (0), .int .i64 (0)] (0, 0) _ rfl hp.1 Try.underlying89 rfl (by kernel_rfl)) rfl ?_
 rw [hvv.out]
 exact ⟨rfl, hp.2 _ hB hgr.out⟩
set_option maxHeartbeats 2000000 in
theorem reckon8 (d xa xb n m : Int) (args : List Int) (A : Option Addr) (c : Nat) (a b : SVal) (w : World) :
  Calls Try.prog 60 #[insV ⟨8, d, xa, xb, n, m, args⟩ A c, valV a, valV b] w (ReckonIs (some (bitV (a.f1 == 0))) w) := by
 obtain ⟨vv, hvv⟩ : ∃ v : SVal, v = bitV (a.f1 == 0) := ⟨_, rfl⟩
 rw [← hvv]
 replace hvv := Aside0.mk hvv
 have hB := (((((Bel.refl w).alloc (.cells #[.int .i64 8, .int .i64 d, .int .i64 xa, .int .i64 xb, .int .i64 n, .int .i64 m, .slice A args.length c] 57)).alloc (.cells #[.int .i64 a.f0, .int .i64 a.f1, .int .i64 a.f2] 89)).alloc (.cells #[.int .i64 b.f0, .int .i64 b.f1, .int .i64 b.f2] 89)).alloc (.cells #[.int .i64 0, .int .i64 0, .int .i64 0] 89))
 obtain ⟨g, hg⟩ : ∃ g, w.heap.size = g := ⟨_, rfl⟩
 have hb0 : ((((w.alloc (.cells #[.int .i64 8, .int .i64 d, .int .i64 xa, .int .i64 xb, .int .i64 n, .int .i64 m, .slice A args.length c] 57)).alloc (.cells #[.int .i64 a.f0, .int .i64 a.f1, .int .i64 a.f2] 89)).alloc (.cells #[.int .i64 b.f0, .int .i64 b.f1, .int .i64 b.f2] 89)).alloc (.cells #[.int .i64 0, .int .i64 0, .int .i64 0] 89)).heap[g]? = some (.cells #[.int .i64 8, .int .i64 d, .int .i64 xa, .int .i64 xb, .int .i64 n, .int .i64 m, .slice A args.length c] 57 (0, 0)) := heap_old (heap_old (heap_old (heap_new' hg.symm)))
 have hb1 : ((((w.alloc (.cells #[.int .i64 8, .int .i64 d, .int .i64 xa, .int .i64 xb, .int .i64 n, .int .i64 m, .slice A args.length c] 57)).alloc (.cells #[.int .i64 a.f0, .int .i64 a.f1, .int .i64 a.f2] 89)).alloc (.cells #[.int .i64 b.f0, .int .i64 b.f1, .int .i64 b.f2] 89)).alloc (.cells #[.int .i64 0, .int .i64 0, .int .i64 0] 89)).heap[g + 1]? = some (.cells #[.int .i64 a.f0, .int .i64 a.f1, .int .i64 a.f2] 89 (0, 0)) := heap_old (heap_old (heap_new' (by simp [hg])))
 have hbb : ((((w.alloc (.cells #[.int .i64 8, .int .i64 d, .int .i64 xa, .int .i64 xb, .int .i64 n, .int .i64 m, .slice A args.length c] 57)).alloc (.cells #[.int .i64 a.f0, .int .i64 a.f1, .int .i64 a.f2] 89)).alloc (.cells #[.int .i64 b.f0, .int .i64 b.f1, .int .i64 b.f2] 89)).alloc (.cells #[.int .i64 0, .int .i64 0, .int .i64 0] 89)).heap[g + 1 + 1]? = some (.cells #[.int .i64 b.f0, .int .i64 b.f1, .int .i64 b.f2] 89 (0, 0)) := heap_old (heap_new' (by simp [hg]))
 have hb2 : ((((w.alloc (.cells #[.int .i64 8, .int .i64 d, .int .i64 xa, .int .i64 xb, .int .i64 n, .int .i64 m, .slice A args.length c] 57)).alloc (.cells #[.int .i64 a.f0, .int .i64 a.f1, .int .i64 a.f2] 89)).alloc (.cells #[.int .i64 b.f0, .int .i64 b.f1, .int .i64 b.f2] 89)).alloc (.cells #[.int .i64 0, .int .i64 0, .int .i64 0] 89)).heap[g + 1 + 1 + 1]? = some (.cells #[.int .i64 0, .int .i64 0, .int .i64 0] 89 (0, 0)) := heap_new' (by simp [hg])
 go_enter Try.func60, Try.ntmps60
 go_upto_region 1 with (fail)
 generalize (((w.alloc (.cells #[.int .i64 8, .int .i64 d, .int .i64 xa, .int .i64 xb, .int .i64 n, .int .i64 m, .slice A args.length c] 57)).alloc (.cells #[.int .i64 a.f0, .int .i64 a.f1, .int .i64 a.f2] 89)).alloc (.cells #[.int .i64 b.f0, .int .i64 b.f1, .int .i64 b.f2] 89)).alloc (.cells #[.int .i64 0, .int .i64 0, .int .i64 0] 89) = wa at hB hb0 hb1 hbb hb2 ⊢
 obtain ⟨r, hr⟩ : ∃ r, g + 1 + 1 + 1 = r := ⟨_, rfl⟩
 rw [hr] at hb2 ⊢
 have hgr : Aside0 (w.heap.size ≤ r) := ⟨by omega⟩
 have z0 : wa.cell? ⟨g, 0, none⟩ = some (.int .i64 8) := blk_cell hb0 0
 have z1 : wa.cell? ⟨g, 4, none⟩ = some (.int .i64 n) := blk_cell hb0 4
 have z2 : wa.cell? ⟨g + 1, 0, none⟩ = some (.int .i64 a.f0) := blk_cell hb1 0
 have z3 : wa.cell? ⟨g + 1, 1, none⟩ = some (.int .i64 a.f1) := blk_cell hb1 1
 have z4 : wa.cell? ⟨g + 1, 2, none⟩ = some (.int .i64 a.f2) := blk_cell hb1 2
 have z5 : wa.cell? ⟨g + 1 + 1, 0, none⟩ = some (.int .i64 b.f0) := blk_cell hbb 0
 have z6 : wa.cell? ⟨g + 1 + 1, 1, none⟩ = some (.int .i64 b.f1) := blk_cell hbb 1
 have q0 := blk_frozen hb2 0
 have q1 := blk_frozen hb2 1
 have q2 := blk_frozen hb2 2
 have q3 : wa.cell? ⟨r, 0, none⟩ = some (.int .i64 0) := blk_cell hb2 0
 have q4 : wa.cell? ⟨r, 1, none⟩ = some (.int .i64 0) := blk_cell hb2 1
 have q5 : wa.cell? ⟨r, 2, none⟩ = some (.int .i64 0) := blk_cell hb2 2
 replace hr := Aside0.mk hr
 replace hg := Aside0.mk hg
 go_wp2_with ((go_at_call 73; ((with_reducible refine (bit_any _ _).mono ?_); rintro e w2 ⟨rfl, hB2⟩; have hb3 := hB2.blk hb2; have q0 := blk_frozen hb3 0; have q1 := blk_frozen hb3 1; have q2 := blk_frozen hb3 2; have q3 : w2.cell? ⟨r, 0, none⟩ = some (.int .i64 0) := blk_cell hb3 0; have q4 : w2.cell? ⟨r, 1, none⟩ = some (.int .i64 0) := blk_cell hb3 1; have q5 : w2.cell? ⟨r, 2, none⟩ = some (.int .i64 0) := blk_cell hb3 2)))
 have hp := put3 hb3 (.int .i64 ((bitV (a.f1 == 0)).f0)) (.int .i64 ((bitV (a.f1 == 0)).f1)) (.int .i64 ((bitV (a.f1 == 0)).f2))
 refine bodyPost_ret (results_cell_row2 rfl _ _ r 89 #[.int .i64 ((bitV (a.f1 == 0)).f0), .int .i64 ((bitV (a.f1 == 0)).f1), .int .i64 ((bitV (a.f1 == 0)).f2)] (0, 0) _ rfl hp.1 Try.underlying89 rfl (by kernel_rfl)) rfl ?_
 rw [hvv.out]
 exact ⟨rfl, hp.2 _ (hB.trans hB2) hgr.out⟩
set_option maxHeartbeats 2000000 in
theorem reckon9 (d xa xb n m : Int) (args : List Int) (A : Option Addr) (c : Nat) (a b : SVal) (w : World) :
  Calls Try.prog 60 #[insV ⟨9, d, xa, xb, n, m, args⟩ A c, valV a, valV b] w (ReckonIs (some (bitV (a.f1 == b.f1))) w) := by
 obtain ⟨vv, hvv⟩ : ∃ v : SVal, v = bitV (a.f1 == b.f1) := ⟨_, rfl⟩
 rw [← hvv]
 replace hvv := Aside0.mk hvv
 have hB := (((((Bel.refl w).alloc (.cells #[.int .i64 9, .int .i64 d, .int .i64 xa, .int .i64 xb, .int .i64 n, .int .i64 m, .slice A args.length c] 57)).alloc (.cells #[.int .i64 a.f0, .int .i64 a.f1, .int .i64 a.f2] 89)).alloc (.cells #[.int .i64 b.f0, .int .i64 b.f1, .int .i64 b.f2] 89)).alloc (.cells #[.int .i64 0, .int .i64 0, .int .i64 0] 89))
 obtain ⟨g, hg⟩ : ∃ g, w.heap.size = g := ⟨_, rfl⟩
 have hb0 : ((((w.alloc (.cells #[.int .i64 9, .int .i64 d, .int .i64 xa, .int .i64 xb, .int .i64 n, .int .i64 m, .slice A args.length c] 57)).alloc (.cells #[.int .i64 a.f0, .int .i64 a.f1, .int .i64 a.f2] 89)).alloc (.cells #[.int .i64 b.f0, .int .i64 b.f1, .int .i64 b.f2] 89)).alloc (.cells #[.int .i64 0, .int .i64 0, .int .i64 0] 89)).heap[g]? = some (.cells #[.int .i64 9, .int .i64 d, .int .i64 xa, .int .i64 xb, .int .i64 n, .int .i64 m, .slice A args.length c] 57 (0, 0)) := heap_old (heap_old (heap_old (heap_new' hg.symm)))
 have hb1 : ((((w.alloc (.cells #[.int .i64 9, .int .i64 d, .int .i64 xa, .int .i64 xb, .int .i64 n, .int .i64 m, .slice A args.length c] 57)).alloc (.cells #[.int .i64 a.f0, .int .i64 a.f1, .int .i64 a.f2] 89)).alloc (.cells #[.int .i64 b.f0, .int .i64 b.f1, .int .i64 b.f2] 89)).alloc (.cells #[.int .i64 0, .int .i64 0, .int .i64 0] 89)).heap[g + 1]? = some (.cells #[.int .i64 a.f0, .int .i64 a.f1, .int .i64 a.f2] 89 (0, 0)) := heap_old (heap_old (heap_new' (by simp [hg])))
 have hbb : ((((w.alloc (.cells #[.int .i64 9, .int .i64 d, .int .i64 xa, .int .i64 xb, .int .i64 n, .int .i64 m, .slice A args.length c] 57)).alloc (.cells #[.int .i64 a.f0, .int .i64 a.f1, .int .i64 a.f2] 89)).alloc (.cells #[.int .i64 b.f0, .int .i64 b.f1, .int .i64 b.f2] 89)).alloc (.cells #[.int .i64 0, .int .i64 0, .int .i64 0] 89)).heap[g + 1 + 1]? = some (.cells #[.int .i64 b.f0, .int .i64 b.f1, .int .i64 b.f2] 89 (0, 0)) := heap_old (heap_new' (by simp [hg]))
 have hb2 : ((((w.alloc (.cells #[.int .i64 9, .int .i64 d, .int .i64 xa, .int .i64 xb, .int .i64 n, .int .i64 m, .slice A args.length c] 57)).alloc (.cells #[.int .i64 a.f0, .int .i64 a.f1, .int .i64 a.f2] 89)).alloc (.cells #[.int .i64 b.f0, .int .i64 b.f1, .int .i64 b.f2] 89)).alloc (.cells #[.int .i64 0, .int .i64 0, .int .i64 0] 89)).heap[g + 1 + 1 + 1]? = some (.cells #[.int .i64 0, .int .i64 0, .int .i64 0] 89 (0, 0)) := heap_new' (by simp [hg])
 go_enter Try.func60, Try.ntmps60
 go_upto_region 1 with (fail)
 generalize (((w.alloc (.cells #[.int .i64 9, .int .i64 d, .int .i64 xa, .int .i64 xb, .int .i64 n, .int .i64 m, .slice A args.length c] 57)).alloc (.cells #[.int .i64 a.f0, .int .i64 a.f1, .int .i64 a.f2] 89)).alloc (.cells #[.int .i64 b.f0, .int .i64 b.f1, .int .i64 b.f2] 89)).alloc (.cells #[.int .i64 0, .int .i64 0, .int .i64 0] 89) = wa at hB hb0 hb1 hbb hb2 ⊢
 obtain ⟨r, hr⟩ : ∃ r, g + 1 + 1 + 1 = r := ⟨_, rfl⟩
 rw [hr] at hb2 ⊢
 have hgr : Aside0 (w.heap.size ≤ r) := ⟨by omega⟩
 have z0 : wa.cell? ⟨g, 0, none⟩ = some (.int .i64 9) := blk_cell hb0 0
 have z1 : wa.cell? ⟨g, 4, none⟩ = some (.int .i64 n) := blk_cell hb0 4
 have z2 : wa.cell? ⟨g + 1, 0, none⟩ = some (.int .i64 a.f0) := blk_cell hb1 0
 have z3 : wa.cell? ⟨g + 1, 1, none⟩ = some (.int .i64 a.f1) := blk_cell hb1 1
 have z4 : wa.cell? ⟨g + 1, 2, none⟩ = some (.int .i64 a.f2) := blk_cell hb1 2
 have z5 : wa.cell? ⟨g + 1 + 1, 0, none⟩ = some (.int .i64 b.f0) := blk_cell hbb 0
 have z6 : wa.cell? ⟨g + 1 + 1, 1, none⟩ = some (.int .i64 b.f1) := blk_cell hbb 1
 have q0 := blk_frozen hb2 0
 have q1 := blk_frozen hb2 1
 have q2 := blk_frozen hb2 2
 have q3 : wa.cell? ⟨r, 0, none⟩ = some (.int .i64 0) := blk_cell hb2 0
 have q4 : wa.cell? ⟨r, 1, none⟩ = some (.int .i64 0) := blk_cell hb2 1
 have q5 : wa.cell? ⟨r, 2, none⟩ = some (.int .i64 0) := blk_cell hb2 2
 replace hr := Aside0.mk hr
 replace hg := Aside0.mk hg
 go_wp2_with ((go_at_call 73; ((with_reducible refine (bit_any _ _).mono ?_); rintro e w2 ⟨rfl, hB2⟩; have hb3 := hB2.blk hb2; have q0 := blk_frozen hb3 0; have q1 := blk_frozen hb3 1; have q2 := blk_frozen hb3 2; have q3 : w2.cell? ⟨r, 0, none⟩ = some (.int .i64 0) := blk_cell hb3 0; have q4 : w2.cell? ⟨r, 1, none⟩ = some (.int .i64 0) := blk_cell hb3 1; have q5 : w2.cell? ⟨r, 2, none⟩ = some (.int .i64 0) := blk_cell hb3 2)))
 have hp := put3 hb3 (.int .i64 ((bitV (a.f1 == b.f1)).f0)) (.int .i64 ((bitV (a.f1 == b.f1)).f1)) (.int .i64 ((bitV (a.f1 == b.f1)).f2))
 refine bodyPost_ret (results_cell_row2 rfl _ _ r 89 #[.int .i64 ((bitV (a.f1 == b.f1)).f0), .int .i64 ((bitV (a.f1 == b.f1)).f1), .int .i64 ((bitV (a.f1 == b.f1)).f2)] (0, 0) _ rfl hp.1 Try.underlying89 rfl (by kernel_rfl)) rfl ?_
 rw [hvv.out]
 exact ⟨rfl, hp.2 _ (hB.trans hB2) hgr.out⟩
set_option maxHeartbeats 2000000 in
theorem reckon16 (d xa xb n m : Int) (args : List Int) (A : Option Addr) (c : Nat) (a b : SVal) (w : World) :
  Calls Try.prog 60 #[insV ⟨16, d, xa, xb, n, m, args⟩ A c, valV a, valV b] w (ReckonIs (some ⟨a.f0, a.f1, wr64 (a.f2 + n)⟩) w) := by
 obtain ⟨vv, hvv⟩ : ∃ v : SVal, v = ⟨a.f0, a.f1, wr64 (a.f2 + n)⟩ := ⟨_, rfl⟩
 rw [← hvv]
 replace hvv := Aside0.mk hvv
 have hB := (((((Bel.refl w).alloc (.cells #[.int .i64 16, .int .i64 d, .int .i64 xa, .int .i64 xb, .int .i64 n, .int .i64 m, .slice A args.length c] 57)).alloc (.cells #[.int .i64 a.f0, .int .i64 a.f1, .int .i64 a.f2] 89)).alloc (.cells #[.int .i64 b.f0, .int .i64 b.f1, .int .i64 b.f2] 89)).alloc (.cells #[.int .i64 0, .int .i64 0, .int .i64 0] 89))
 obtain ⟨g, hg⟩ : ∃ g, w.heap.size = g := ⟨_, rfl⟩
 have hb0 : ((((w.alloc (.cells #[.int .i64 16, .int .i64 d, .int .i64 xa, .int .i64 xb, .int .i64 n, .int .i64 m, .slice A args.length c] 57)).alloc (.cells #[.int .i64 a.f0, .int .i64 a.f1, .int .i64 a.f2] 89)).alloc (.cells #[.int .i64 b.f0, .int .i64 b.f1, .int .i64 b.f2] 89)).alloc (.cells #[.int .i64 0, .int .i64 0, .int .i64 0] 89)).heap[g]? = some (.cells #[.int .i64 16, .int .i64 d, .int .i64 xa, .int .i64 xb, .int .i64 n, .int .i64 m, .slice A args.length c] 57 (0, 0)) := heap_old (heap_old (heap_old (heap_new' hg.symm)))
 have hb1 : ((((w.alloc (.cells #[.int .i64 16, .int .i64 d, .int .i64 xa, .int .i64 xb, .int .i64 n, .int .i64 m, .slice A args.length c] 57)).alloc (.cells #[.int .i64 a.f0, .int .i64 a.f1, .int .i64 a.f2] 89)).alloc (.cells #[.int .i64 b.f0, .int .i64 b.f1, .int .i64 b.f2] 89)).alloc (.cells #[.int .i64 0, .int .i64 0, .int .i64 0] 89)).heap[g + 1]? = some (.cells #[.int .i64 a.f0, .int .i64 a.f1, .int .i64 a.f2] 89 (0, 0)) := heap_old (heap_old (heap_new' (by simp [hg])))
 have hbb : ((((w.alloc (.cells #[.int .i64 16, .int .i64 d, .int .i64 xa, .int .i64 xb, .int .i64 n, .int .i64 m, .slice A args.length c] 57)).alloc (.cells #[.int .i64 a.f0, .int .i64 a.f1, .int .i64 a.f2] 89)).alloc (.cells #[.int .i64 b.f0, .int .i64 b.f1, .int .i64 b.f2] 89)).alloc (.cells #[.int .i64 0, .int .i64 0, .int .i64 0] 89)).heap[g + 1 + 1]? = some (.cells #[.int .i64 b.f0, .int .i64 b.f1, .int .i64 b.f2] 89 (0, 0)) := heap_old (heap_new' (by simp [hg]))
 have hb2 : ((((w.alloc (.cells #[.int .i64 16, .int .i64 d, .int .i64 xa, .int .i64 xb, .int .i64 n, .int .i64 m, .slice A args.length c] 57)).alloc (.cells #[.int .i64 a.f0, .int .i64 a.f1, .int .i64 a.f2] 89)).alloc (.cells #[.int .i64 b.f0, .int .i64 b.f1, .int .i64 b.f2] 89)).alloc (.cells #[.int .i64 0, .int .i64 0, .int .i64 0] 89)).heap[g + 1 + 1 + 1]? = some (.cells #[.int .i64 0, .int .i64 0, .int .i64 0] 89 (0, 0)) := heap_new' (by simp [hg])
 go_enter Try.func60, Try.ntmps60
 go_upto_region 1 with (fail)
 generalize (((w.alloc (.cells #[.int .i64 16, .int .i64 d, .int .i64 xa, .int .i64 xb, .int .i64 n, .int .i64 m, .slice A args.length c] 57)).alloc (.cells #[.int .i64 a.f0, .int .i64 a.f1, .int .i64 a.f2] 89)).alloc (.cells #[.int .i64 b.f0, .int .i64 b.f1, .int .i64 b.f2] 89)).alloc (.cells #[.int .i64 0, .int .i64 0, .int .i64 0] 89) = wa at hB hb0 hb1 hbb hb2 ⊢
 obtain ⟨r, hr⟩ : ∃ r, g + 1 + 1 + 1 = r := ⟨_, rfl⟩
 rw [hr] at hb2 ⊢
 have hgr : Aside0 (w.heap.size ≤ r) := ⟨by omega⟩
 have z0 : wa.cell? ⟨g, 0, none⟩ = some (.int .i64 16) := blk_cell hb0 0
 have z1 : wa.cell? ⟨g, 4, none⟩ = some (.int .i64 n) := blk_cell hb0 4
 have z2 : wa.cell? ⟨g + 1, 0, none⟩ = some (.int .i64 a.f0) := blk_cell hb1 0
 have z3 : wa.cell? ⟨g + 1, 1, none⟩ = some (.int .i64 a.f1) := blk_cell hb1 1
 have z4 : wa.cell? ⟨g + 1, 2, none⟩ = some (.int .i64 a.f2) := blk_cell hb1 2
 have z5 : wa.cell? ⟨g + 1 + 1, 0, none⟩ = some (.int .i64 b.f0) := blk_cell hbb 0
 have z6 : wa.cell? ⟨g + 1 + 1, 1, none⟩ = some (.int .i64 b.f1) := blk_cell hbb 1
 have q0 := blk_frozen hb2 0
 have q1 := blk_frozen hb2 1
 have q2 := blk_frozen hb2 2
 have q3 : wa.cell? ⟨r, 0, none⟩ = some (.int .i64 0) := blk_cell hb2 0
 have q4 : wa.cell? ⟨r, 1, none⟩ = some (.int .i64 0) := blk_cell hb2 1
 have q5 : wa.cell? ⟨r, 2, none⟩ = some (.int .i64 0) := blk_cell hb2 2
 replace hr := Aside0.mk hr
 replace hg := Aside0.mk hg
 have q6 := blk_frozen hb1 2
 go_upto_region 22 with (fail)
 have hg1 : g + 1 ≠ r := by have := hr.out; omega
 have hb3 := blk_far hb2 (p := ⟨g + 1, 2, none⟩) (fun e => hg1 e.symm) (.int .i64 (wrap64 (a.f2 + n)))
 have hb4 := (blk_set hb1 2 (.int .i64 (wrap64 (a.f2 + n)))).trans rfl
 have hB4 : Bel w (wa.setCell ⟨g + 1, 2, none⟩ (.int .i64 (wrap64 (a.f2 + n)))) := ⟨hB.out.setCell (p := ⟨g + 1, 2, none⟩) (by have := hg.out; show w.heap.size ≤ g + 1; omega) _⟩
 generalize wa.setCell ⟨g + 1, 2, none⟩ (.int .i64 (wrap64 (a.f2 + n))) = wb at hb3 hb4 hB4 ⊢
 clear q0 q1 q2 q3 q4 q5 z0 z1 z2 z3 z4 z5 z6 q6
 have z2 : wb.cell? ⟨g + 1, 0, none⟩ = some (.int .i64 a.f0) := blk_cell hb4 0
 have z3 : wb.cell? ⟨g + 1, 1, none⟩ = some (.int .i64 a.f1) := blk_cell hb4 1
 have z4 : wb.cell? ⟨g + 1, 2, none⟩ = some (.int .i64 (wrap64 (a.f2 + n))) := blk_cell hb4 2
 have q0 := blk_frozen hb3 0
 have q1 := blk_frozen hb3 1
 have q2 := blk_frozen hb3 2
 have q3 : wb.cell? ⟨r, 0, none⟩ = some (.int .i64 0) := blk_cell hb3 0
 have q4 : wb.cell? ⟨r, 1, none⟩ = some (.int .i64 0) := blk_cell hb3 1
 have q5 : wb.cell? ⟨r, 2, none⟩ = some (.int .i64 0) := blk_cell hb3 2
 go_wp2
 have hp := put3 hb3 (.int .i64 a.f0) (.int .i64 a.f1) (.int .i64 (wrap64 (a.f2 + n)))
 refine bodyPost_ret (results_cell_row2 rfl _ _ r 89 #[.int .i64 a.f0, .int .i64 a.f1, .int .i64 (wrap64 (a.f2 + n))] (0, 0) _ rfl hp.1 Try.underlying89 rfl (by kernel_rfl)) rfl ?_
 rw [hvv.out]
 exact ⟨rfl, hp.2 _ hB4 hgr.out⟩
set_option maxHeartbeats 2000000 in
theorem reckon0 (op d xa xb n m : Int) (args : List Int) (A : Option Addr) (c : Nat) (a b : SVal) (w : World) (h1 : op ≠ 1) (h2 : op ≠ 2) (h3 : op ≠ 3) (h4 : op ≠ 4) (h5 : op ≠ 5) (h6 : op ≠ 6) (h7 : op ≠ 7) (h8 : op ≠ 8) (h9 : op ≠ 9) (h16 : op ≠ 16) :
  Calls Try.prog 60 #[insV ⟨op, d, xa, xb, n, m, args⟩ A c, valV a, valV b] w (ReckonIs none w) := by
 have b1 : (op == 1) = false := by simpa using h1
 have b2 : (op == 2) = false := by simpa using h2
 have b3 : (op == 3) = false := by simpa using h3
 have b4 : (op == 4) = false := by simpa using h4
 have b5 : (op == 5) = false := by simpa using h5
 have b6 : (op == 6) = false := by simpa using h6
 have b7 : (op == 7) = false := by simpa using h7
 have b8 : (op == 8) = false := by simpa using h8
 have b9 : (op == 9) = false := by simpa using h9
 have b16 : (op == 16) = false := by simpa using h16
 clear h1 h2 h3 h4 h5 h6 h7 h8 h9 h16
 have hB := (((((Bel.refl w).alloc (.cells #[.int .i64 op, .int .i64 d, .int .i64 xa, .int .i64 xb, .int .i64 n, .int .i64 m, .slice A args.length c] 57)).alloc (.cells #[.int .i64 a.f0, .int .i64 a.f1, .int .i64 a.f2] 89)).alloc (.cells #[.int .i64 b.f0, .int .i64 b.f1, .int .i64 b.f2] 89)).alloc (.cells #[.int .i64 0, .int .i64 0, .int .i64 0] 89))
 obtain ⟨g, hg⟩ : ∃ g, w.heap.size = g := ⟨_, rfl⟩
 have hb0 : ((((w.alloc (.cells #[.int .i64 op, .int .i64 d, .int .i64 xa, .int .i64 xb, .int .i64 n, .int .i64 m, .slice A args.length c] 57)).alloc (.cells #[.int .i64 a.f0, .int .i64 a.f1, .int .i64 a.f2] 89)).alloc (.cells #[.int .i64 b.f0, .int .i64 b.f1, .int .i64 b.f2] 89)).alloc (.cells #[.int .i64 0, .int .i64 0, .int .i64 0] 89)).heap[g]? = some (.cells #[.int .i64 op, .int .i64 d, .int .i64 xa, .int .i64 xb, .int .i64 n, .int .i64 m, .slice A args.length c] 57 (0, 0)) := heap_old (heap_old (heap_old (heap_new' hg.symm)))
 have hb1 : ((((w.alloc (.cells #[.int .i64 op, .int .i64 d, .int .i64 xa, .int .i64 xb, .int .i64 n, .int .i64 m, .slice A args.length c] 57)).alloc (.cells #[.int .i64 a.f0, .int .i64 a.f1, .int .i64 a.f2] 89)).alloc (.cells #[.int .i64 b.f0, .int .i64 b.f1, .int .i64 b.f2] 89)).alloc (.cells #[.int .i64 0, .int .i64 0, .int .i64 0] 89)).heap[g + 1]? = some (.cells #[.int .i64 a.f0, .int .i64 a.f1, .int .i64 a.f2] 89 (0, 0)) := heap_old (heap_old (heap_new' (by simp [hg])))
 have hbb : ((((w.alloc (.cells #[.int .i64 op, .int .i64 d, .int .i64 xa, .int .i64 xb, .int .i64 n, .int .i64 m, .slice A args.length c] 57)).alloc (.cells #[.int .i64 a.f0, .int .i64 a.f1, .int .i64 a.f2] 89)).alloc (.cells #[.int .i64 b.f0, .int .i64 b.f1, .int .i64 b.f2] 89)).alloc (.cells #[.int .i64 0, .int .i64 0, .int .i64 0] 89)).heap[g + 1 + 1]? = some (.cells #[.int .i64 b.f0, .int .i64 b.f1, .int .i64 b.f2] 89 (0, 0)) := heap_old (heap_new' (by simp [hg]))
 have hb2 : ((((w.alloc (.cells #[.int .i64 op, .int .i64 d, .int .i64 xa, .int .i64 xb, .int .i64 n, .int .i64 m, .slice A args.length c] 57)).alloc (.cells #[.int .i64 a.f0, .int .i64 a.f1, .int .i64 a.f2] 89)).alloc (.cells #[.int .i64 b.f0, .int .i64 b.f1, .int .i64 b.f2] 89)).alloc (.cells #[.int .i64 0, .int .i64 0, .int .i64 0] 89)).heap[g + 1 + 1 + 1]? = some (.cells #[.int .i64 0, .int .i64 0, .int .i64 0] 89 (0, 0)) := heap_new' (by simp [hg])
 go_enter Try.func60, Try.ntmps60
 go_upto_region 1 with (fail)
 generalize (((w.alloc (.cells #[.int .i64 op, .int .i64 d, .int .i64 xa, .int .i64 xb, .int .i64 n, .int .i64 m, .slice A args.length c] 57)).alloc (.cells #[.int .i64 a.f0, .int .i64 a.f1, .int .i64 a.f2] 89)).alloc (.cells #[.int .i64 b.f0, .int .i64 b.f1, .int .i64 b.f2] 89)).alloc (.cells #[.int .i64 0, .int .i64 0, .int .i64 0] 89) = wa at hB hb0 hb1 hbb hb2 ⊢
 obtain ⟨r, hr⟩ : ∃ r, g + 1 + 1 + 1 = r := ⟨_, rfl⟩
 rw [hr] at hb2 ⊢
 have hgr : Aside0 (w.heap.size ≤ r) := ⟨by omega⟩
 have z0 : wa.cell? ⟨g, 0, none⟩ = some (.int .i64 op) := blk_cell hb0 0
 have z1 : wa.cell? ⟨g, 4, none⟩ = some (.int .i64 n) := blk_cell hb0 4
 have z2 : wa.cell? ⟨g + 1, 0, none⟩ = some (.int .i64 a.f0) := blk_cell hb1 0
 have z3 : wa.cell? ⟨g + 1, 1, none⟩ = some (.int .i64 a.f1) := blk_cell hb1 1
 have z4 : wa.cell? ⟨g + 1, 2, none⟩ = some (.int .i64 a.f2) := blk_cell hb1 2
 have z5 : wa.cell? ⟨g + 1 + 1, 0, none⟩ = some (.int .i64 b.f0) := blk_cell hbb 0
 have z6 : wa.cell? ⟨g + 1 + 1, 1, none⟩ = some (.int .i64 b.f1) := blk_cell hbb 1
 have q0 := blk_frozen hb2 0
 have q1 := blk_frozen hb2 1
 have q2 := blk_frozen hb2 2
 have q3 : wa.cell? ⟨r, 0, none⟩ = some (.int .i64 0) := blk_cell hb2 0
 have q4 : wa.cell? ⟨r, 1, none⟩ = some (.int .i64 0) := blk_cell hb2 1
 have q5 : wa.cell? ⟨r, 2, none⟩ = some (.int .i64 0) := blk_cell hb2 2
 replace hr := Aside0.mk hr
 replace hg := Aside0.mk hg
 go_wp2
 have hp := put3 hb2 (.int .i64 0) (.int .i64 0) (.int .i64 0)
 refine bodyPost_ret (results_cell_row2 rfl _ _ r 89 #[.int .i64 0, .int .i64 0, .int .i64 0] (0, 0) _ rfl hp.1 Try.underlying89 rfl (by kernel_rfl)) rfl ?_
 exact ⟨rfl, hp.2 _ hB hgr.out⟩
theorem reckon_any (x : SIns) (A : Option Addr) (c : Nat) (a b : SVal) (w : World) : Calls Try.prog 60 #[insV x A c, valV a, valV b] w (ReckonIs (reckonL x a b) w) := by
 obtain ⟨op, d, xa, xb, n, m, args⟩ := x
 unfold reckonL
 dsimp only
 split
 ·rename_i h; subst h; exact reckon1 d xa xb n m args A c a b w
 split
 ·rename_i h; subst h; exact reckon2 d xa xb n m args A c a b w
 split
 ·rename_i h; subst h; exact reckon3 d xa xb n m args A c a b w
 split
 ·rename_i h; subst h; exact reckon4 d xa xb n m args A c a b w
 split
 ·rename_i h; subst h; exact reckon5 d xa xb n m args A c a b w
 split
 ·rename_i h; subst h; exact reckon6 d xa xb n m args A c a b w
 split
 ·rename_i h; subst h; exact reckon7 d xa xb n m args A c a b w
 split
 ·rename_i h; subst h; exact reckon8 d xa xb n m args A c a b w
 split
 ·rename_i h; subst h; exact reckon9 d xa xb n m args A c a b w
 split
 ·rename_i h; subst h; exact reckon16 d xa xb n m args A c a b w
 ·exact reckon0 op d xa xb n m args A c a b w (by assumption) (by assumption) (by assumption) (by assumption) (by assumption) (by assumption) (by assumption) (by assumption) (by assumption) (by assumption)
end Go.Proofs.Ytodjpbidjldblaa.H
