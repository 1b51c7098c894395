/- Texts joined. Conditions: each stands with its theorem. -/
import Derived.Test.YtodjpbidjldblaaX00
import Derived.Test.YtodjpbidjldblaaX03
namespace Go.Proofs.Ytodjpbidjldblaa.H
open Go.RowKit Go.Proofs.YtodjpbidjldblaaW.PrintWords Go.Proofs.YtodjpbidjldblaaW.PrintLast
set_option linter.unusedVariables false
set_option linter.unusedSimpArgs false
set_option maxRecDepth 100000
theorem mem_of_contains {l : List Nat} {i : Nat} (h : l.contains i = true) : i ∈ l := by simpa using h
theorem CM.ko {w0 : World} {p : SProg} {mb : Nat} {W W1 : World} {s : VSt} {fs : List (Nat × Nat)} {sv ev hv : Value} {S : Nat → Prop} (h : CM w0 p mb W s fs sv ev hv S) (k : Bel W W1) : KO mb W W1 := by
 obtain ⟨_, _, hm, _⟩ := h.blk
 exact KO.of_bel k (Nat.le_of_lt (blk_lt hm))
inductive TouchIs (w0 : World) (p : SProg) (mb : Nat) (s : VSt) (fs : List (Nat × Nat)) (sv ev : Value) (S : Nat → Prop) (W : World) : Option (List SObj × SVal × Int) → Ending → World → Prop where
 | none {v : SVal} {W' : World} {hv : Value} (h : CM w0 p mb W' s fs sv ev hv S) (k : KO mb W W') : TouchIs w0 p mb s fs sv ev S W .none (.returned (.tuple #[valV v, .int .i64 0, .bool false])) W'
 | some {l : List SObj} {v : SVal} {er : Int} {W' : World} {hv : Value} (h : CM w0 p mb W' { s with heap := l } fs sv ev hv S) (k : KO mb W W') : TouchIs w0 p mb s fs sv ev S W (.some (l, v, er)) (.returned (.tuple #[valV v, .int .i64 er, .bool true])) W'
theorem KO.new {b c : Nat} {w W : World} (k : KO b w W) (hb : b ≤ w.heap.size) (hc : w.heap.size ≤ c) (j : Nat) (u : Value) : KO b w (W.setCell ⟨c, j, none⟩ u) :=
 ⟨fun i hi hn => (Below.heap_setCell W ⟨c, j, none⟩ u i (fun e => by have e : i = c := e; omega)).trans (k.keep i hi hn), k.below.setCell (p := ⟨c, j, none⟩) (Nat.le_trans hb hc) u⟩
set_option maxHeartbeats 4000000 in
theorem touch11 (w0 : World) (p : SProg) (mb : Nat) (W : World) (s : VSt) (fs : List (Nat × Nat)) (sv ev hv : Value) (S : Nat → Prop) (h : CM w0 p mb W s fs sv ev hv S) (hp : Aside0 (HeapP s.heap)) (hl : s.heap.length ≤ 100000) (d xa xb n m : Int) (args : List Int) (A : Option Addr) (c : Nat) (a b : SVal) (ha : 0 ≤ a.f1 ∧ a.f1 ≤ s.heap.length) :
  Calls Try.prog 61 #[.pointer (some ⟨mb, 0, none⟩), insV ⟨11, d, xa, xb, n, m, args⟩ A c, valV a, valV b] W (TouchIs w0 p mb s fs sv ev S W (touchL ⟨11, d, xa, xb, n, m, args⟩ a b s.heap)) := by
 obtain ⟨vv, hvv⟩ : ∃ v, v = touchL ⟨11, d, xa, xb, n, m, args⟩ a b s.heap := ⟨_, rfl⟩
 rw [← hvv]
 replace hvv := Aside0.mk hvv
 have hB : Bel W ((((W.alloc (.cells #[.int .i64 11, .int .i64 d, .int .i64 xa, .int .i64 xb, .int .i64 n, .int .i64 m, .slice A args.length c] 57)).alloc (.cells #[.int .i64 a.f0, .int .i64 a.f1, .int .i64 a.f2] 89)).alloc (.cells #[.int .i64 b.f0, .int .i64 b.f1, .int .i64 b.f2] 89)).alloc (.cells #[.int .i64 0, .int .i64 0, .int .i64 0] 89)) := ((((Bel.refl W).alloc _).alloc _).alloc _).alloc _
 obtain ⟨g, hg⟩ : ∃ g, W.heap.size = g := ⟨_, rfl⟩
 have hb0 : ((((W.alloc (.cells #[.int .i64 11, .int .i64 d, .int .i64 xa, .int .i64 xb, .int .i64 n, .int .i64 m, .slice A args.length c] 57)).alloc (.cells #[.int .i64 a.f0, .int .i64 a.f1, .int .i64 a.f2] 89)).alloc (.cells #[.int .i64 b.f0, .int .i64 b.f1, .int .i64 b.f2] 89)).alloc (.cells #[.int .i64 0, .int .i64 0, .int .i64 0] 89)).heap[g]? = some (.cells #[.int .i64 11, .int .i64 d, .int .i64 xa, .int .i64 xb, .int .i64 n, .int .i64 m, .slice A args.length c] 57 (0, 0)) := heap_old (heap_old (heap_old (heap_new' hg.symm)))
 have hb1 : ((((W.alloc (.cells #[.int .i64 11, .int .i64 d, .int .i64 xa, .int .i64 xb, .int .i64 n, .int .i64 m, .slice A args.length c] 57)).alloc (.cells #[.int .i64 a.f0, .int .i64 a.f1, .int .i64 a.f2] 89)).alloc (.cells #[.int .i64 b.f0, .int .i64 b.f1, .int .i64 b.f2] 89)).alloc (.cells #[.int .i64 0, .int .i64 0, .int .i64 0] 89)).heap[g + 1]? = some (.cells #[.int .i64 a.f0, .int .i64 a.f1, .int .i64 a.f2] 89 (0, 0)) := heap_old (heap_old (heap_new' (by simp [hg])))
 have hbb : ((((W.alloc (.cells #[.int .i64 11, .int .i64 d, .int .i64 xa, .int .i64 xb, .int .i64 n, .int .i64 m, .slice A args.length c] 57)).alloc (.cells #[.int .i64 a.f0, .int .i64 a.f1, .int .i64 a.f2] 89)).alloc (.cells #[.int .i64 b.f0, .int .i64 b.f1, .int .i64 b.f2] 89)).alloc (.cells #[.int .i64 0, .int .i64 0, .int .i64 0] 89)).heap[g + 1 + 1]? = some (.cells #[.int .i64 b.f0, .int .i64 b.f1, .int .i64 b.f2] 89 (0, 0)) := heap_old (heap_new' (by simp [hg]))
 have hb2 : ((((W.alloc (.cells #[.int .i64 11, .int .i64 d, .int .i64 xa, .int .i64 xb, .int .i64 n, .int .i64 m, .slice A args.length c] 57)).alloc (.cells #[.int .i64 a.f0, .int .i64 a.f1, .int .i64 a.f2] 89)).alloc (.cells #[.int .i64 b.f0, .int .i64 b.f1, .int .i64 b.f2] 89)).alloc (.cells #[.int .i64 0, .int .i64 0, .int .i64 0] 89)).heap[g + 1 + 1 + 1]? = some (.cells #[.int .i64 0, .int .i64 0, .int .i64 0] 89 (0, 0)) := heap_new' (by simp [hg])
 have hC := h.step hB
 go_enter Try.func61, Try.ntmps61
 go_upto_region 1 with (fail)
 generalize ((((W.alloc (.cells #[.int .i64 11, .int .i64 d, .int .i64 xa, .int .i64 xb, .int .i64 n, .int .i64 m, .slice A args.length c] 57)).alloc (.cells #[.int .i64 a.f0, .int .i64 a.f1, .int .i64 a.f2] 89)).alloc (.cells #[.int .i64 b.f0, .int .i64 b.f1, .int .i64 b.f2] 89)).alloc (.cells #[.int .i64 0, .int .i64 0, .int .i64 0] 89)) = wa at hB hb0 hb1 hbb hb2 hC ⊢
 obtain ⟨r, hr⟩ : ∃ r, g + 1 + 1 + 1 = r := ⟨_, rfl⟩
 rw [hr] at hb2 ⊢
 have hgr : Aside0 (W.heap.size ≤ r) := ⟨by omega⟩
 obtain ⟨PA, pc, hm, _⟩ := hC.blk
 obtain ⟨A1, c1, hve, hc1, hF0⟩ := h.heap.reads
 subst hve
 have hF1 := hF0.step hB
 replace hr := Aside0.mk hr
 replace hg := Aside0.mk hg
 have z0 : wa.cell? ⟨g, 0, none⟩ = some (.int .i64 11) := blk_cell hb0 0
 have y2 : wa.cell? ⟨mb, 2, none⟩ = some (.slice A1 s.heap.length c1) := blk_cell hm 2
 have z1 : wa.cell? ⟨g, 4, none⟩ = some (.int .i64 n) := blk_cell hb0 4
 have z3 : wa.cell? ⟨g + 1, 1, none⟩ = some (.int .i64 a.f1) := blk_cell hb1 1
 have z4 : wa.cell? ⟨g + 1, 2, none⟩ = some (.int .i64 a.f2) := blk_cell hb1 2
 have hcl := Aside0.mk (fun W (q : Bel wa W) => Load_any S A1 c1 s.heap a.f1 n W (hF1.step q) hp (by omega) ha.1 ha.2)
 go_upto_region 6 with (fail)
 have hBd : Bel wa wa.drew := (Bel.refl wa).drewN 1
 have hS := Aside0.mk (fun (X : World) (q : Bel wa X) => And.intro (Bel.cell q y2) (And.intro (Bel.cell q z1) (And.intro (Bel.cell q z3) (Bel.cell q z4))))
 clear y2 z1 z3 z4 z0
 refine wp_region_last_drew (S := fun w' => w'.cell? ⟨mb, 2, none⟩ = some (.slice A1 s.heap.length c1) ∧ w'.cell? ⟨g, 4, none⟩ = some (.int .i64 n) ∧ w'.cell? ⟨g + 1, 1, none⟩ = some (.int .i64 a.f1) ∧ w'.cell? ⟨g + 1, 2, none⟩ = some (.int .i64 a.f2)) (ds := [13]) (by kernel_rfl) (hS.out _ hBd) (fun hHeld => ?_)
 refine takeL [0, 1, 2, 3, 4, 5, 6, 7] (by kernel_rfl) (by kernel_rfl) hHeld ?_
 iterate 8 (refine takeI (v := ?_) rfl rfl (fun _ _ _ h => h) (Or.inl ⟨by kernel_rfl, ?_⟩) ?_; rotate_left 1; focus (intro w hSw; (try dsimp only at hSw); go_simp; (try with_reducible rfl); done); try simp only [Act.put, z1, z2, z3, z4, z5, z6])
 refine takeE ?_
 try dsimp only
 refine wpAnyLast_ready (rs := [8]) (by kernel_rfl) (by simp) ?_
 refine AllReadyL.cons rfl (by decide) (fun K hK => ?_) AllReadyL.nil
 go_simp
 (go_at_call 75; refine (hcl.out _ hBd).mono ?_; rintro ex w2 ⟨rfl, hB2⟩)
 refine hK.out _ _ ?_ (fun hHeld => ?_)
 rotate_left 1
 clear hK K
 try simp only [Act.put, z1, z2, z3, z4, z5, z6]
 rotate_left 1
 ·exact hS.out _ (hBd.trans hB2)
 have hb3 := hB2.blk hb2
 have q0 := blk_frozen hb3 0
 have q1 : w2.cell? ⟨r, 0, none⟩ = some (.int .i64 0) := blk_cell hb3 0
 refine takeL [9, 10] (by kernel_rfl) (by kernel_rfl) hHeld ?_
 iterate 2 (refine takeI (v := ?_) rfl rfl (fun _ _ _ h => h) (Or.inl ⟨by kernel_rfl, ?_⟩) ?_; rotate_left 1; focus (intro w hSw; (try dsimp only at hSw); go_simp; (try with_reducible rfl); done); try simp only [Act.put, z1, z2, z3, z4, z5, z6])
 refine takeE ?_
 try dsimp only
 refine wpAnyLast_any (i := 11) (v := ?_) rfl (Region.noSelect_spec (by kernel_rfl)) (fun _ _ _ h => h) _ _ _ _ (Region.free_spec rfl (by kernel_rfl)) (mem_of_contains (by kernel_rfl)) (Or.inl ⟨by kernel_rfl, ?_⟩) ?_
 rotate_left 1
 focus (intro w; go_simp; (try with_reducible rfl); done)
 try simp only [Act.put, z1, z2, z3, z4, z5, z6]
 refine takeL [12] (by kernel_rfl) (by kernel_rfl) hHeld ?_
 iterate 1 (refine takeI (v := ?_) rfl rfl (fun _ _ _ h => h) (Or.inl ⟨by kernel_rfl, ?_⟩) ?_; rotate_left 1; focus (intro w hSw; (try dsimp only at hSw); go_simp; (try with_reducible rfl); done); try simp only [Act.put, z1, z2, z3, z4, z5, z6])
 refine takeE ?_
 try dsimp only
 refine wpAnyLast_ready (rs := [13]) (by kernel_rfl) (by simp) ?_
 refine AllReadyL.cons_last rfl (by decide) (fun K hK => ?_) AllReadyL.nil
 go_simp
 refine hK.out _ _ ?_
 clear hK K
 try simp only [Act.put, z1, z2, z3, z4, z5, z6]
 refine wpAnyLast_any (i := 14) (v := ?_) rfl (Region.noSelect_spec (by kernel_rfl)) (fun _ _ _ h => h) _ _ _ _ (Region.free_spec rfl (by kernel_rfl)) (mem_of_contains (by kernel_rfl)) (Or.inl ⟨by kernel_rfl, ?_⟩) ?_
 rotate_left 1
 focus (intro w; go_simp; (try with_reducible rfl); done)
 try simp only [Act.put, z1, z2, z3, z4, z5, z6]
 refine wpAnyLast_done (by kernel_rfl) ?_ _
 have hbc := (blk_set hb3 0 (.int .i64 (getI s.heap a.f1 n).1)).trans rfl
 have hBc : Bel W (w2.setCell ⟨r, 0, none⟩ (.int .i64 (getI s.heap a.f1 n).1)) := ⟨(hB.trans (hBd.trans hB2)).out.setCell (p := ⟨r, 0, none⟩) hgr.out _⟩
 generalize w2.setCell ⟨r, 0, none⟩ (.int .i64 (getI s.heap a.f1 n).1) = wc at hbc hBc ⊢
 clear q0 q1
 have q0 := blk_frozen hbc 0
 have q1 := blk_frozen hbc 1
 have q2 := blk_frozen hbc 2
 have q3 : wc.cell? ⟨r, 0, none⟩ = some (.int .i64 ((getI s.heap a.f1 n).1)) := blk_cell hbc 0
 have q4 : wc.cell? ⟨r, 1, none⟩ = some (.int .i64 (0)) := blk_cell hbc 1
 have q5 : wc.cell? ⟨r, 2, none⟩ = some (.int .i64 (0)) := blk_cell hbc 2
 have hpz := put3 hbc (.int .i64 ((getI s.heap a.f1 n).1)) (.int .i64 (0)) (.int .i64 (0))
 go_wp2
 refine bodyPost_ret (results_cell_row3 rfl _ _ r 89 #[.int .i64 ((getI s.heap a.f1 n).1), .int .i64 (0), .int .i64 (0)] (0, 0) _ rfl hpz.1 Try.underlying89 rfl (by kernel_rfl)) rfl ?_
 have hBz := hpz.2 _ hBc hgr.out
 rw [hvv.out]
 have e : touchL ⟨11, d, xa, xb, n, m, args⟩ a b s.heap = some (s.heap, ⟨(getI s.heap a.f1 n).1, 0, 0⟩, (getI s.heap a.f1 n).2) := rfl
 rw [e]
 exact .some (h.step hBz) (h.ko hBz)
set_option maxHeartbeats 4000000 in
theorem touch13 (w0 : World) (p : SProg) (mb : Nat) (W : World) (s : VSt) (fs : List (Nat × Nat)) (sv ev hv : Value) (S : Nat → Prop) (h : CM w0 p mb W s fs sv ev hv S) (hp : Aside0 (HeapP s.heap)) (hl : s.heap.length ≤ 100000) (d xa xb n m : Int) (args : List Int) (A : Option Addr) (c : Nat) (a b : SVal) (ha : 0 ≤ a.f1 ∧ a.f1 ≤ s.heap.length) :
  Calls Try.prog 61 #[.pointer (some ⟨mb, 0, none⟩), insV ⟨13, d, xa, xb, n, m, args⟩ A c, valV a, valV b] W (TouchIs w0 p mb s fs sv ev S W (touchL ⟨13, d, xa, xb, n, m, args⟩ a b s.heap)) := by
 obtain ⟨vv, hvv⟩ : ∃ v, v = touchL ⟨13, d, xa, xb, n, m, args⟩ a b s.heap := ⟨_, rfl⟩
 rw [← hvv]
 replace hvv := Aside0.mk hvv
 have hB : Bel W ((((W.alloc (.cells #[.int .i64 13, .int .i64 d, .int .i64 xa, .int .i64 xb, .int .i64 n, .int .i64 m, .slice A args.length c] 57)).alloc (.cells #[.int .i64 a.f0, .int .i64 a.f1, .int .i64 a.f2] 89)).alloc (.cells #[.int .i64 b.f0, .int .i64 b.f1, .int .i64 b.f2] 89)).alloc (.cells #[.int .i64 0, .int .i64 0, .int .i64 0] 89)) := ((((Bel.refl W).alloc _).alloc _).alloc _).alloc _
 obtain ⟨g, hg⟩ : ∃ g, W.heap.size = g := ⟨_, rfl⟩
 have hb0 : ((((W.alloc (.cells #[.int .i64 13, .int .i64 d, .int .i64 xa, .int .i64 xb, .int .i64 n, .int .i64 m, .slice A args.length c] 57)).alloc (.cells #[.int .i64 a.f0, .int .i64 a.f1, .int .i64 a.f2] 89)).alloc (.cells #[.int .i64 b.f0, .int .i64 b.f1, .int .i64 b.f2] 89)).alloc (.cells #[.int .i64 0, .int .i64 0, .int .i64 0] 89)).heap[g]? = some (.cells #[.int .i64 13, .int .i64 d, .int .i64 xa, .int .i64 xb, .int .i64 n, .int .i64 m, .slice A args.length c] 57 (0, 0)) := heap_old (heap_old (heap_old (heap_new' hg.symm)))
 have hb1 : ((((W.alloc (.cells #[.int .i64 13, .int .i64 d, .int .i64 xa, .int .i64 xb, .int .i64 n, .int .i64 m, .slice A args.length c] 57)).alloc (.cells #[.int .i64 a.f0, .int .i64 a.f1, .int .i64 a.f2] 89)).alloc (.cells #[.int .i64 b.f0, .int .i64 b.f1, .int .i64 b.f2] 89)).alloc (.cells #[.int .i64 0, .int .i64 0, .int .i64 0] 89)).heap[g + 1]? = some (.cells #[.int .i64 a.f0, .int .i64 a.f1, .int .i64 a.f2] 89 (0, 0)) := heap_old (heap_old (heap_new' (by simp [hg])))
 have hbb : ((((W.alloc (.cells #[.int .i64 13, .int .i64 d, .int .i64 xa, .int .i64 xb, .int .i64 n, .int .i64 m, .slice A args.length c] 57)).alloc (.cells #[.int .i64 a.f0, .int .i64 a.f1, .int .i64 a.f2] 89)).alloc (.cells #[.int .i64 b.f0, .int .i64 b.f1, .int .i64 b.f2] 89)).alloc (.cells #[.int .i64 0, .int .i64 0, .int .i64 0] 89)).heap[g + 1 + 1]? = some (.cells #[.int .i64 b.f0, .int .i64 b.f1, .int .i64 b.f2] 89 (0, 0)) := heap_old (heap_new' (by simp [hg]))
 have hb2 : ((((W.alloc (.cells #[.int .i64 13, .int .i64 d, .int .i64 xa, .int .i64 xb, .int .i64 n, .int .i64 m, .slice A args.length c] 57)).alloc (.cells #[.int .i64 a.f0, .int .i64 a.f1, .int .i64 a.f2] 89)).alloc (.cells #[.int .i64 b.f0, .int .i64 b.f1, .int .i64 b.f2] 89)).alloc (.cells #[.int .i64 0, .int .i64 0, .int .i64 0] 89)).heap[g + 1 + 1 + 1]? = some (.cells #[.int .i64 0, .int .i64 0, .int .i64 0] 89 (0, 0)) := heap_new' (by simp [hg])
 have hC := h.step hB
 go_enter Try.func61, Try.ntmps61
 go_upto_region 1 with (fail)
 generalize ((((W.alloc (.cells #[.int .i64 13, .int .i64 d, .int .i64 xa, .int .i64 xb, .int .i64 n, .int .i64 m, .slice A args.length c] 57)).alloc (.cells #[.int .i64 a.f0, .int .i64 a.f1, .int .i64 a.f2] 89)).alloc (.cells #[.int .i64 b.f0, .int .i64 b.f1, .int .i64 b.f2] 89)).alloc (.cells #[.int .i64 0, .int .i64 0, .int .i64 0] 89)) = wa at hB hb0 hb1 hbb hb2 hC ⊢
 obtain ⟨r, hr⟩ : ∃ r, g + 1 + 1 + 1 = r := ⟨_, rfl⟩
 rw [hr] at hb2 ⊢
 have hgr : Aside0 (W.heap.size ≤ r) := ⟨by omega⟩
 obtain ⟨PA, pc, hm, _⟩ := hC.blk
 obtain ⟨A1, c1, hve, hc1, hF0⟩ := h.heap.reads
 subst hve
 have hF1 := hF0.step hB
 replace hr := Aside0.mk hr
 replace hg := Aside0.mk hg
 have z0 : wa.cell? ⟨g, 0, none⟩ = some (.int .i64 13) := blk_cell hb0 0
 have y2 : wa.cell? ⟨mb, 2, none⟩ = some (.slice A1 s.heap.length c1) := blk_cell hm 2
 have z1 : wa.cell? ⟨g, 4, none⟩ = some (.int .i64 n) := blk_cell hb0 4
 have z3 : wa.cell? ⟨g + 1, 1, none⟩ = some (.int .i64 a.f1) := blk_cell hb1 1
 have z4 : wa.cell? ⟨g + 1, 2, none⟩ = some (.int .i64 a.f2) := blk_cell hb1 2
 have hcl := Aside0.mk (fun W (q : Bel wa W) => Ref_any S A1 c1 s.heap a.f1 n W (hF1.step q) hp (by omega) ha.1 ha.2)
 go_upto_region 10 with (fail)
 have hBd : Bel wa wa.drew := (Bel.refl wa).drewN 1
 have hS := Aside0.mk (fun (X : World) (q : Bel wa X) => And.intro (Bel.cell q y2) (And.intro (Bel.cell q z1) (And.intro (Bel.cell q z3) (Bel.cell q z4))))
 clear y2 z1 z3 z4 z0
 refine wp_region_last_drew (S := fun w' => w'.cell? ⟨mb, 2, none⟩ = some (.slice A1 s.heap.length c1) ∧ w'.cell? ⟨g, 4, none⟩ = some (.int .i64 n) ∧ w'.cell? ⟨g + 1, 1, none⟩ = some (.int .i64 a.f1) ∧ w'.cell? ⟨g + 1, 2, none⟩ = some (.int .i64 a.f2)) (ds := [13]) (by kernel_rfl) (hS.out _ hBd) (fun hHeld => ?_)
 refine takeL [0, 1, 2, 3, 4, 5, 6, 7] (by kernel_rfl) (by kernel_rfl) hHeld ?_
 iterate 8 (refine takeI (v := ?_) rfl rfl (fun _ _ _ h => h) (Or.inl ⟨by kernel_rfl, ?_⟩) ?_; rotate_left 1; focus (intro w hSw; (try dsimp only at hSw); go_simp; (try with_reducible rfl); done); try simp only [Act.put, z1, z2, z3, z4, z5, z6])
 refine takeE ?_
 try dsimp only
 refine wpAnyLast_ready (rs := [8]) (by kernel_rfl) (by simp) ?_
 refine AllReadyL.cons rfl (by decide) (fun K hK => ?_) AllReadyL.nil
 go_simp
 (go_at_call 77; refine (hcl.out _ hBd).mono ?_; rintro ex w2 ⟨rfl, hB2⟩)
 refine hK.out _ _ ?_ (fun hHeld => ?_)
 rotate_left 1
 clear hK K
 try simp only [Act.put, z1, z2, z3, z4, z5, z6]
 rotate_left 1
 ·exact hS.out _ (hBd.trans hB2)
 have hb3 := hB2.blk hb2
 have q0 := blk_frozen hb3 1
 have q1 : w2.cell? ⟨r, 1, none⟩ = some (.int .i64 0) := blk_cell hb3 1
 refine takeL [9, 10] (by kernel_rfl) (by kernel_rfl) hHeld ?_
 iterate 2 (refine takeI (v := ?_) rfl rfl (fun _ _ _ h => h) (Or.inl ⟨by kernel_rfl, ?_⟩) ?_; rotate_left 1; focus (intro w hSw; (try dsimp only at hSw); go_simp; (try with_reducible rfl); done); try simp only [Act.put, z1, z2, z3, z4, z5, z6])
 refine takeE ?_
 try dsimp only
 refine wpAnyLast_any (i := 11) (v := ?_) rfl (Region.noSelect_spec (by kernel_rfl)) (fun _ _ _ h => h) _ _ _ _ (Region.free_spec rfl (by kernel_rfl)) (mem_of_contains (by kernel_rfl)) (Or.inl ⟨by kernel_rfl, ?_⟩) ?_
 rotate_left 1
 focus (intro w; go_simp; (try with_reducible rfl); done)
 try simp only [Act.put, z1, z2, z3, z4, z5, z6]
 refine takeL [12] (by kernel_rfl) (by kernel_rfl) hHeld ?_
 iterate 1 (refine takeI (v := ?_) rfl rfl (fun _ _ _ h => h) (Or.inl ⟨by kernel_rfl, ?_⟩) ?_; rotate_left 1; focus (intro w hSw; (try dsimp only at hSw); go_simp; (try with_reducible rfl); done); try simp only [Act.put, z1, z2, z3, z4, z5, z6])
 refine takeE ?_
 try dsimp only
 refine wpAnyLast_ready (rs := [13]) (by kernel_rfl) (by simp) ?_
 refine AllReadyL.cons_last rfl (by decide) (fun K hK => ?_) AllReadyL.nil
 go_simp
 refine hK.out _ _ ?_
 clear hK K
 try simp only [Act.put, z1, z2, z3, z4, z5, z6]
 refine wpAnyLast_any (i := 14) (v := ?_) rfl (Region.noSelect_spec (by kernel_rfl)) (fun _ _ _ h => h) _ _ _ _ (Region.free_spec rfl (by kernel_rfl)) (mem_of_contains (by kernel_rfl)) (Or.inl ⟨by kernel_rfl, ?_⟩) ?_
 rotate_left 1
 focus (intro w; go_simp; (try with_reducible rfl); done)
 try simp only [Act.put, z1, z2, z3, z4, z5, z6]
 refine wpAnyLast_done (by kernel_rfl) ?_ _
 have hbc := (blk_set hb3 1 (.int .i64 (getR s.heap a.f1 n).1)).trans rfl
 have hBc : Bel W (w2.setCell ⟨r, 1, none⟩ (.int .i64 (getR s.heap a.f1 n).1)) := ⟨(hB.trans (hBd.trans hB2)).out.setCell (p := ⟨r, 1, none⟩) hgr.out _⟩
 generalize w2.setCell ⟨r, 1, none⟩ (.int .i64 (getR s.heap a.f1 n).1) = wc at hbc hBc ⊢
 clear q0 q1
 have q0 := blk_frozen hbc 0
 have q1 := blk_frozen hbc 1
 have q2 := blk_frozen hbc 2
 have q3 : wc.cell? ⟨r, 0, none⟩ = some (.int .i64 (0)) := blk_cell hbc 0
 have q4 : wc.cell? ⟨r, 1, none⟩ = some (.int .i64 ((getR s.heap a.f1 n).1)) := blk_cell hbc 1
 have q5 : wc.cell? ⟨r, 2, none⟩ = some (.int .i64 (0)) := blk_cell hbc 2
 have hpz := put3 hbc (.int .i64 (0)) (.int .i64 ((getR s.heap a.f1 n).1)) (.int .i64 (0))
 go_wp2
 refine bodyPost_ret (results_cell_row3 rfl _ _ r 89 #[.int .i64 (0), .int .i64 ((getR s.heap a.f1 n).1), .int .i64 (0)] (0, 0) _ rfl hpz.1 Try.underlying89 rfl (by kernel_rfl)) rfl ?_
 have hBz := hpz.2 _ hBc hgr.out
 rw [hvv.out]
 have e : touchL ⟨13, d, xa, xb, n, m, args⟩ a b s.heap = some (s.heap, ⟨0, (getR s.heap a.f1 n).1, 0⟩, (getR s.heap a.f1 n).2) := rfl
 rw [e]
 exact .some (h.step hBz) (h.ko hBz)
set_option maxHeartbeats 4000000 in
theorem touch17 (w0 : World) (p : SProg) (mb : Nat) (W : World) (s : VSt) (fs : List (Nat × Nat)) (sv ev hv : Value) (S : Nat → Prop) (h : CM w0 p mb W s fs sv ev hv S) (hp : Aside0 (HeapP s.heap)) (hl : s.heap.length ≤ 100000) (d xa xb n m : Int) (args : List Int) (A : Option Addr) (c : Nat) (a b : SVal) (ha : 0 ≤ a.f1 ∧ a.f1 ≤ s.heap.length) :
  Calls Try.prog 61 #[.pointer (some ⟨mb, 0, none⟩), insV ⟨17, d, xa, xb, n, m, args⟩ A c, valV a, valV b] W (TouchIs w0 p mb s fs sv ev S W (touchL ⟨17, d, xa, xb, n, m, args⟩ a b s.heap)) := by
 obtain ⟨vv, hvv⟩ : ∃ v, v = touchL ⟨17, d, xa, xb, n, m, args⟩ a b s.heap := ⟨_, rfl⟩
 rw [← hvv]
 replace hvv := Aside0.mk hvv
 have hB : Bel W ((((W.alloc (.cells #[.int .i64 17, .int .i64 d, .int .i64 xa, .int .i64 xb, .int .i64 n, .int .i64 m, .slice A args.length c] 57)).alloc (.cells #[.int .i64 a.f0, .int .i64 a.f1, .int .i64 a.f2] 89)).alloc (.cells #[.int .i64 b.f0, .int .i64 b.f1, .int .i64 b.f2] 89)).alloc (.cells #[.int .i64 0, .int .i64 0, .int .i64 0] 89)) := ((((Bel.refl W).alloc _).alloc _).alloc _).alloc _
 obtain ⟨g, hg⟩ : ∃ g, W.heap.size = g := ⟨_, rfl⟩
 have hb0 : ((((W.alloc (.cells #[.int .i64 17, .int .i64 d, .int .i64 xa, .int .i64 xb, .int .i64 n, .int .i64 m, .slice A args.length c] 57)).alloc (.cells #[.int .i64 a.f0, .int .i64 a.f1, .int .i64 a.f2] 89)).alloc (.cells #[.int .i64 b.f0, .int .i64 b.f1, .int .i64 b.f2] 89)).alloc (.cells #[.int .i64 0, .int .i64 0, .int .i64 0] 89)).heap[g]? = some (.cells #[.int .i64 17, .int .i64 d, .int .i64 xa, .int .i64 xb, .int .i64 n, .int .i64 m, .slice A args.length c] 57 (0, 0)) := heap_old (heap_old (heap_old (heap_new' hg.symm)))
 have hb1 : ((((W.alloc (.cells #[.int .i64 17, .int .i64 d, .int .i64 xa, .int .i64 xb, .int .i64 n, .int .i64 m, .slice A args.length c] 57)).alloc (.cells #[.int .i64 a.f0, .int .i64 a.f1, .int .i64 a.f2] 89)).alloc (.cells #[.int .i64 b.f0, .int .i64 b.f1, .int .i64 b.f2] 89)).alloc (.cells #[.int .i64 0, .int .i64 0, .int .i64 0] 89)).heap[g + 1]? = some (.cells #[.int .i64 a.f0, .int .i64 a.f1, .int .i64 a.f2] 89 (0, 0)) := heap_old (heap_old (heap_new' (by simp [hg])))
 have hbb : ((((W.alloc (.cells #[.int .i64 17, .int .i64 d, .int .i64 xa, .int .i64 xb, .int .i64 n, .int .i64 m, .slice A args.length c] 57)).alloc (.cells #[.int .i64 a.f0, .int .i64 a.f1, .int .i64 a.f2] 89)).alloc (.cells #[.int .i64 b.f0, .int .i64 b.f1, .int .i64 b.f2] 89)).alloc (.cells #[.int .i64 0, .int .i64 0, .int .i64 0] 89)).heap[g + 1 + 1]? = some (.cells #[.int .i64 b.f0, .int .i64 b.f1, .int .i64 b.f2] 89 (0, 0)) := heap_old (heap_new' (by simp [hg]))
 have hb2 : ((((W.alloc (.cells #[.int .i64 17, .int .i64 d, .int .i64 xa, .int .i64 xb, .int .i64 n, .int .i64 m, .slice A args.length c] 57)).alloc (.cells #[.int .i64 a.f0, .int .i64 a.f1, .int .i64 a.f2] 89)).alloc (.cells #[.int .i64 b.f0, .int .i64 b.f1, .int .i64 b.f2] 89)).alloc (.cells #[.int .i64 0, .int .i64 0, .int .i64 0] 89)).heap[g + 1 + 1 + 1]? = some (.cells #[.int .i64 0, .int .i64 0, .int .i64 0] 89 (0, 0)) := heap_new' (by simp [hg])
 have hC := h.step hB
 go_enter Try.func61, Try.ntmps61
 go_upto_region 1 with (fail)
 generalize ((((W.alloc (.cells #[.int .i64 17, .int .i64 d, .int .i64 xa, .int .i64 xb, .int .i64 n, .int .i64 m, .slice A args.length c] 57)).alloc (.cells #[.int .i64 a.f0, .int .i64 a.f1, .int .i64 a.f2] 89)).alloc (.cells #[.int .i64 b.f0, .int .i64 b.f1, .int .i64 b.f2] 89)).alloc (.cells #[.int .i64 0, .int .i64 0, .int .i64 0] 89)) = wa at hB hb0 hb1 hbb hb2 hC ⊢
 obtain ⟨r, hr⟩ : ∃ r, g + 1 + 1 + 1 = r := ⟨_, rfl⟩
 rw [hr] at hb2 ⊢
 have hgr : Aside0 (W.heap.size ≤ r) := ⟨by omega⟩
 obtain ⟨PA, pc, hm, _⟩ := hC.blk
 obtain ⟨A1, c1, hve, hc1, hF0⟩ := h.heap.reads
 subst hve
 have hF1 := hF0.step hB
 replace hr := Aside0.mk hr
 replace hg := Aside0.mk hg
 have z0 : wa.cell? ⟨g, 0, none⟩ = some (.int .i64 17) := blk_cell hb0 0
 have y2 : wa.cell? ⟨mb, 2, none⟩ = some (.slice A1 s.heap.length c1) := blk_cell hm 2
 have z1 : wa.cell? ⟨g, 4, none⟩ = some (.int .i64 n) := blk_cell hb0 4
 have z3 : wa.cell? ⟨g + 1, 1, none⟩ = some (.int .i64 a.f1) := blk_cell hb1 1
 have z4 : wa.cell? ⟨g + 1, 2, none⟩ = some (.int .i64 a.f2) := blk_cell hb1 2
 have hcl := Aside0.mk (fun W (q : Bel wa W) => Load_any S A1 c1 s.heap a.f1 a.f2 W (hF1.step q) hp (by omega) ha.1 ha.2)
 go_upto_region 18 with (fail)
 have hBd : Bel wa wa.drew := (Bel.refl wa).drewN 1
 have hS := Aside0.mk (fun (X : World) (q : Bel wa X) => And.intro (Bel.cell q y2) (And.intro (Bel.cell q z1) (And.intro (Bel.cell q z3) (Bel.cell q z4))))
 clear y2 z1 z3 z4 z0
 refine wp_region_last_drew (S := fun w' => w'.cell? ⟨mb, 2, none⟩ = some (.slice A1 s.heap.length c1) ∧ w'.cell? ⟨g, 4, none⟩ = some (.int .i64 n) ∧ w'.cell? ⟨g + 1, 1, none⟩ = some (.int .i64 a.f1) ∧ w'.cell? ⟨g + 1, 2, none⟩ = some (.int .i64 a.f2)) (ds := [13]) (by kernel_rfl) (hS.out _ hBd) (fun hHeld => ?_)
 refine takeL [0, 1, 2, 3, 4, 5, 6, 7] (by kernel_rfl) (by kernel_rfl) hHeld ?_
 iterate 8 (refine takeI (v := ?_) rfl rfl (fun _ _ _ h => h) (Or.inl ⟨by kernel_rfl, ?_⟩) ?_; rotate_left 1; focus (intro w hSw; (try dsimp only at hSw); go_simp; (try with_reducible rfl); done); try simp only [Act.put, z1, z2, z3, z4, z5, z6])
 refine takeE ?_
 try dsimp only
 refine wpAnyLast_ready (rs := [8]) (by kernel_rfl) (by simp) ?_
 refine AllReadyL.cons rfl (by decide) (fun K hK => ?_) AllReadyL.nil
 go_simp
 (go_at_call 75; refine (hcl.out _ hBd).mono ?_; rintro ex w2 ⟨rfl, hB2⟩)
 refine hK.out _ _ ?_ (fun hHeld => ?_)
 rotate_left 1
 clear hK K
 try simp only [Act.put, z1, z2, z3, z4, z5, z6]
 rotate_left 1
 ·exact hS.out _ (hBd.trans hB2)
 have hb3 := hB2.blk hb2
 have q0 := blk_frozen hb3 0
 have q1 : w2.cell? ⟨r, 0, none⟩ = some (.int .i64 0) := blk_cell hb3 0
 refine takeL [9, 10] (by kernel_rfl) (by kernel_rfl) hHeld ?_
 iterate 2 (refine takeI (v := ?_) rfl rfl (fun _ _ _ h => h) (Or.inl ⟨by kernel_rfl, ?_⟩) ?_; rotate_left 1; focus (intro w hSw; (try dsimp only at hSw); go_simp; (try with_reducible rfl); done); try simp only [Act.put, z1, z2, z3, z4, z5, z6])
 refine takeE ?_
 try dsimp only
 refine wpAnyLast_any (i := 11) (v := ?_) rfl (Region.noSelect_spec (by kernel_rfl)) (fun _ _ _ h => h) _ _ _ _ (Region.free_spec rfl (by kernel_rfl)) (mem_of_contains (by kernel_rfl)) (Or.inl ⟨by kernel_rfl, ?_⟩) ?_
 rotate_left 1
 focus (intro w; go_simp; (try with_reducible rfl); done)
 try simp only [Act.put, z1, z2, z3, z4, z5, z6]
 refine takeL [12] (by kernel_rfl) (by kernel_rfl) hHeld ?_
 iterate 1 (refine takeI (v := ?_) rfl rfl (fun _ _ _ h => h) (Or.inl ⟨by kernel_rfl, ?_⟩) ?_; rotate_left 1; focus (intro w hSw; (try dsimp only at hSw); go_simp; (try with_reducible rfl); done); try simp only [Act.put, z1, z2, z3, z4, z5, z6])
 refine takeE ?_
 try dsimp only
 refine wpAnyLast_ready (rs := [13]) (by kernel_rfl) (by simp) ?_
 refine AllReadyL.cons_last rfl (by decide) (fun K hK => ?_) AllReadyL.nil
 go_simp
 refine hK.out _ _ ?_
 clear hK K
 try simp only [Act.put, z1, z2, z3, z4, z5, z6]
 refine wpAnyLast_any (i := 14) (v := ?_) rfl (Region.noSelect_spec (by kernel_rfl)) (fun _ _ _ h => h) _ _ _ _ (Region.free_spec rfl (by kernel_rfl)) (mem_of_contains (by kernel_rfl)) (Or.inl ⟨by kernel_rfl, ?_⟩) ?_
 rotate_left 1
 focus (intro w; go_simp; (try with_reducible rfl); done)
 try simp only [Act.put, z1, z2, z3, z4, z5, z6]
 refine wpAnyLast_done (by kernel_rfl) ?_ _
 have hbc := (blk_set hb3 0 (.int .i64 (getI s.heap a.f1 a.f2).1)).trans rfl
 have hBc : Bel W (w2.setCell ⟨r, 0, none⟩ (.int .i64 (getI s.heap a.f1 a.f2).1)) := ⟨(hB.trans (hBd.trans hB2)).out.setCell (p := ⟨r, 0, none⟩) hgr.out _⟩
 generalize w2.setCell ⟨r, 0, none⟩ (.int .i64 (getI s.heap a.f1 a.f2).1) = wc at hbc hBc ⊢
 clear q0 q1
 have q0 := blk_frozen hbc 0
 have q1 := blk_frozen hbc 1
 have q2 := blk_frozen hbc 2
 have q3 : wc.cell? ⟨r, 0, none⟩ = some (.int .i64 ((getI s.heap a.f1 a.f2).1)) := blk_cell hbc 0
 have q4 : wc.cell? ⟨r, 1, none⟩ = some (.int .i64 (0)) := blk_cell hbc 1
 have q5 : wc.cell? ⟨r, 2, none⟩ = some (.int .i64 (0)) := blk_cell hbc 2
 have hpz := put3 hbc (.int .i64 ((getI s.heap a.f1 a.f2).1)) (.int .i64 (0)) (.int .i64 (0))
 go_wp2
 refine bodyPost_ret (results_cell_row3 rfl _ _ r 89 #[.int .i64 ((getI s.heap a.f1 a.f2).1), .int .i64 (0), .int .i64 (0)] (0, 0) _ rfl hpz.1 Try.underlying89 rfl (by kernel_rfl)) rfl ?_
 have hBz := hpz.2 _ hBc hgr.out
 rw [hvv.out]
 have e : touchL ⟨17, d, xa, xb, n, m, args⟩ a b s.heap = some (s.heap, ⟨(getI s.heap a.f1 a.f2).1, 0, 0⟩, (getI s.heap a.f1 a.f2).2) := rfl
 rw [e]
 exact .some (h.step hBz) (h.ko hBz)
set_option maxHeartbeats 4000000 in
theorem touch12 (w0 : World) (p : SProg) (mb : Nat) (W : World) (s : VSt) (fs : List (Nat × Nat)) (sv ev hv : Value) (S : Nat → Prop) (h : CM w0 p mb W s fs sv ev hv S) (hp : Aside0 (HeapP s.heap)) (hl : s.heap.length ≤ 100000) (d xa xb n m : Int) (args : List Int) (A : Option Addr) (c : Nat) (a b : SVal) (ha : 0 ≤ a.f1 ∧ a.f1 ≤ s.heap.length)  :
  Calls Try.prog 61 #[.pointer (some ⟨mb, 0, none⟩), insV ⟨12, d, xa, xb, n, m, args⟩ A c, valV a, valV b] W (TouchIs w0 p mb s fs sv ev S W (touchL ⟨12, d, xa, xb, n, m, args⟩ a b s.heap)) := by
 obtain ⟨vv, hvv⟩ : ∃ v, v = touchL ⟨12, d, xa, xb, n, m, args⟩ a b s.heap := ⟨_, rfl⟩
 rw [← hvv]
 replace hvv := Aside0.mk hvv
 have hS0 := Aside0.mk h.sb
 have hB : Bel W ((((W.alloc (.cells #[.int .i64 12, .int .i64 d, .int .i64 xa, .int .i64 xb, .int .i64 n, .int .i64 m, .slice A args.length c] 57)).alloc (.cells #[.int .i64 a.f0, .int .i64 a.f1, .int .i64 a.f2] 89)).alloc (.cells #[.int .i64 b.f0, .int .i64 b.f1, .int .i64 b.f2] 89)).alloc (.cells #[.int .i64 0, .int .i64 0, .int .i64 0] 89)) := ((((Bel.refl W).alloc _).alloc _).alloc _).alloc _
 obtain ⟨g, hg⟩ : ∃ g, W.heap.size = g := ⟨_, rfl⟩
 have hb0 : ((((W.alloc (.cells #[.int .i64 12, .int .i64 d, .int .i64 xa, .int .i64 xb, .int .i64 n, .int .i64 m, .slice A args.length c] 57)).alloc (.cells #[.int .i64 a.f0, .int .i64 a.f1, .int .i64 a.f2] 89)).alloc (.cells #[.int .i64 b.f0, .int .i64 b.f1, .int .i64 b.f2] 89)).alloc (.cells #[.int .i64 0, .int .i64 0, .int .i64 0] 89)).heap[g]? = some (.cells #[.int .i64 12, .int .i64 d, .int .i64 xa, .int .i64 xb, .int .i64 n, .int .i64 m, .slice A args.length c] 57 (0, 0)) := heap_old (heap_old (heap_old (heap_new' hg.symm)))
 have hb1 : ((((W.alloc (.cells #[.int .i64 12, .int .i64 d, .int .i64 xa, .int .i64 xb, .int .i64 n, .int .i64 m, .slice A args.length c] 57)).alloc (.cells #[.int .i64 a.f0, .int .i64 a.f1, .int .i64 a.f2] 89)).alloc (.cells #[.int .i64 b.f0, .int .i64 b.f1, .int .i64 b.f2] 89)).alloc (.cells #[.int .i64 0, .int .i64 0, .int .i64 0] 89)).heap[g + 1]? = some (.cells #[.int .i64 a.f0, .int .i64 a.f1, .int .i64 a.f2] 89 (0, 0)) := heap_old (heap_old (heap_new' (by simp [hg])))
 have hbb : ((((W.alloc (.cells #[.int .i64 12, .int .i64 d, .int .i64 xa, .int .i64 xb, .int .i64 n, .int .i64 m, .slice A args.length c] 57)).alloc (.cells #[.int .i64 a.f0, .int .i64 a.f1, .int .i64 a.f2] 89)).alloc (.cells #[.int .i64 b.f0, .int .i64 b.f1, .int .i64 b.f2] 89)).alloc (.cells #[.int .i64 0, .int .i64 0, .int .i64 0] 89)).heap[g + 1 + 1]? = some (.cells #[.int .i64 b.f0, .int .i64 b.f1, .int .i64 b.f2] 89 (0, 0)) := heap_old (heap_new' (by simp [hg]))
 have hb2 : ((((W.alloc (.cells #[.int .i64 12, .int .i64 d, .int .i64 xa, .int .i64 xb, .int .i64 n, .int .i64 m, .slice A args.length c] 57)).alloc (.cells #[.int .i64 a.f0, .int .i64 a.f1, .int .i64 a.f2] 89)).alloc (.cells #[.int .i64 b.f0, .int .i64 b.f1, .int .i64 b.f2] 89)).alloc (.cells #[.int .i64 0, .int .i64 0, .int .i64 0] 89)).heap[g + 1 + 1 + 1]? = some (.cells #[.int .i64 0, .int .i64 0, .int .i64 0] 89 (0, 0)) := heap_new' (by simp [hg])
 have hC := h.step hB
 go_enter Try.func61, Try.ntmps61
 go_upto_region 1 with (fail)
 generalize ((((W.alloc (.cells #[.int .i64 12, .int .i64 d, .int .i64 xa, .int .i64 xb, .int .i64 n, .int .i64 m, .slice A args.length c] 57)).alloc (.cells #[.int .i64 a.f0, .int .i64 a.f1, .int .i64 a.f2] 89)).alloc (.cells #[.int .i64 b.f0, .int .i64 b.f1, .int .i64 b.f2] 89)).alloc (.cells #[.int .i64 0, .int .i64 0, .int .i64 0] 89)) = wa at hB hb0 hb1 hbb hb2 hC ⊢
 obtain ⟨r, hr⟩ : ∃ r, g + 1 + 1 + 1 = r := ⟨_, rfl⟩
 rw [hr] at hb2 ⊢
 have hgr : Aside0 (W.heap.size ≤ r) := ⟨by omega⟩
 obtain ⟨PA, pc, hm, _⟩ := hC.blk
 obtain ⟨A1, c1, hve, hc1, hF0⟩ := h.heap.reads
 subst hve
 have hF1 := hF0.step hB
 replace hr := Aside0.mk hr
 replace hg := Aside0.mk hg
 have z0 : wa.cell? ⟨g, 0, none⟩ = some (.int .i64 12) := blk_cell hb0 0
 have y2 : wa.cell? ⟨mb, 2, none⟩ = some (.slice A1 s.heap.length c1) := blk_cell hm 2
 have z1 : wa.cell? ⟨g, 4, none⟩ = some (.int .i64 n) := blk_cell hb0 4
 have z3 : wa.cell? ⟨g + 1, 1, none⟩ = some (.int .i64 a.f1) := blk_cell hb1 1
 have z4 : wa.cell? ⟨g + 1, 2, none⟩ = some (.int .i64 a.f2) := blk_cell hb1 2
 have z5 : wa.cell? ⟨g + 1 + 1, 0, none⟩ = some (.int .i64 b.f0) := blk_cell hbb 0
 have z6 : wa.cell? ⟨g + 1 + 1, 1, none⟩ = some (.int .i64 b.f1) := blk_cell hbb 1
 obtain ⟨S1, hS1⟩ := more_out S g 4
 have H1 : RdF S1 W A1 s.heap := ⟨Kd.F_mono (Kd.F_bound hF0.out) (fun k hk q => by rcases (hS1 k).1 q with q | q; exact hk.1 q; have := hk.2; have := hg.out; omega)⟩
 have hS2 : Aside0 (∀ k, S1 k → k < wa.heap.size) := ⟨fun k hk => by
  have h3 := blk_lt hb2
  have h4 := hr.out
  rcases (hS1 k).1 hk with q | q
  ·have := hS0.out k q
   have := hB.size
   omega
  ·omega⟩
 replace hS1 := Aside0.mk hS1
 have hcl := Aside0.mk (fun X (q : Bel wa X) => Store_any S1 A1 c1 s.heap a.f1 n b.f0 X ⟨fun k hk => Nat.lt_of_lt_of_le (hS2.out k hk) q.size⟩ ((H1.step hB).step q) hc1 hp (by omega) ha.1 ha.2 )
 have hmr : mb ≠ r := two_types hm hb2 (by decide)
 go_upto_region 8 with (fail)
 have hBd : Bel wa wa.drew := (Bel.refl wa).drewN 1
 have hS := Aside0.mk (fun (X : World) (q : Bel wa X) => And.intro (Bel.cell q y2) (And.intro (Bel.cell q z1) (And.intro (Bel.cell q z3) (And.intro (Bel.cell q z4) (And.intro (Bel.cell q z5) (Bel.cell q z6))))))
 clear y2 z1 z3 z4 z0 z5 z6 H1 hF1
 refine wp_region_last_drew (S := fun w' => w'.cell? ⟨mb, 2, none⟩ = some (.slice A1 s.heap.length c1) ∧ w'.cell? ⟨g, 4, none⟩ = some (.int .i64 n) ∧ w'.cell? ⟨g + 1, 1, none⟩ = some (.int .i64 a.f1) ∧ w'.cell? ⟨g + 1, 2, none⟩ = some (.int .i64 a.f2) ∧ w'.cell? ⟨g + 1 + 1, 0, none⟩ = some (.int .i64 b.f0) ∧ w'.cell? ⟨g + 1 + 1, 1, none⟩ = some (.int .i64 b.f1)) (ds := [17]) (by kernel_rfl) (hS.out _ hBd) (fun hHeld => ?_)
 refine takeL [0, 1, 2, 3, 4, 5, 6, 7, 8, 9, 10] (by kernel_rfl) (by kernel_rfl) hHeld ?_
 iterate 11 (refine takeI (v := ?_) rfl rfl (fun _ _ _ h => h) (Or.inl ⟨by kernel_rfl, ?_⟩) ?_; rotate_left 1; focus (intro w hSw; (try dsimp only at hSw); go_simp; (try with_reducible rfl); done); try simp only [Act.put, z1, z2, z3, z4, z5, z6])
 refine takeE ?_
 try dsimp only
 refine wpAnyLast_ready (rs := [11]) (by kernel_rfl) (by simp) ?_
 refine AllReadyL.cons rfl (by decide) (fun K hK => ?_) AllReadyL.nil
 go_simp
 (go_at_call 76; refine (hcl.out _ hBd).mono ?_; rintro ex w2 ⟨v8, rfl, hV8, hB2⟩; obtain ⟨A8, c8, rfl, hc8, hF8⟩ := hV8.reads)
 refine hK.out _ _ ?_ (fun hHeld => ?_)
 rotate_left 1
 clear hK K
 try simp only [Act.put, z1, z2, z3, z4, z5, z6]
 rotate_left 1
 ·exact hS.out _ (hBd.trans hB2)
 have hm2 := hB2.blk hm
 have q0 := blk_frozen hm2 2
 have q1 : w2.cell? ⟨mb, 2, none⟩ = some (.slice A1 s.heap.length c1) := blk_cell hm2 2
 refine takeL [12, 13] (by kernel_rfl) (by kernel_rfl) hHeld ?_
 iterate 2 (refine takeI (v := ?_) rfl rfl (fun _ _ _ h => h) (Or.inl ⟨by kernel_rfl, ?_⟩) ?_; rotate_left 1; focus (intro w hSw; (try dsimp only at hSw); go_simp; (try with_reducible rfl); done); try simp only [Act.put, z1, z2, z3, z4, z5, z6])
 refine takeE ?_
 try dsimp only
 refine wpAnyLast_any (i := 14) (v := ?_) rfl (Region.noSelect_spec (by kernel_rfl)) (fun _ _ _ h => h) _ _ _ _ (Region.free_spec rfl (by kernel_rfl)) (mem_of_contains (by kernel_rfl)) (Or.inl ⟨by kernel_rfl, ?_⟩) ?_
 rotate_left 1
 focus (intro w; go_simp; (try with_reducible rfl); done)
 try simp only [Act.put, z1, z2, z3, z4, z5, z6]
 refine takeL [15, 16] (by kernel_rfl) (by kernel_rfl) hHeld ?_
 iterate 2 (refine takeI (v := ?_) rfl rfl (fun _ _ _ h => h) (Or.inl ⟨by kernel_rfl, ?_⟩) ?_; rotate_left 1; focus (intro w hSw; (try dsimp only at hSw); go_simp; (try with_reducible rfl); done); try simp only [Act.put, z1, z2, z3, z4, z5, z6])
 refine takeE ?_
 try dsimp only
 refine wpAnyLast_ready (rs := [17]) (by kernel_rfl) (by simp) ?_
 refine AllReadyL.cons_last rfl (by decide) (fun K hK => ?_) AllReadyL.nil
 go_simp
 refine hK.out _ _ ?_
 clear hK K
 try simp only [Act.put, z1, z2, z3, z4, z5, z6]
 refine wpAnyLast_any (i := 18) (v := ?_) rfl (Region.noSelect_spec (by kernel_rfl)) (fun _ _ _ h => h) _ _ _ _ (Region.free_spec rfl (by kernel_rfl)) (mem_of_contains (by kernel_rfl)) (Or.inl ⟨by kernel_rfl, ?_⟩) ?_
 rotate_left 1
 focus (intro w; go_simp; (try with_reducible rfl); done)
 try simp only [Act.put, z1, z2, z3, z4, z5, z6]
 refine wpAnyLast_done (by kernel_rfl) ?_ _
 have hB3 := hB.trans (hBd.trans hB2)
 have hbc := blk_far (hB2.blk hb2) (p := ⟨mb, 2, none⟩) (fun e => hmr e.symm) (.slice A8 (putI s.heap a.f1 n b.f0).1.length c8)
 have hmc := (blk_set hm2 2 (.slice A8 (putI s.heap a.f1 n b.f0).1.length c8)).trans rfl
 have hmb := blk_lt hm
 have hmW : mb ≤ W.heap.size := by
  obtain ⟨_, _, hm0, _⟩ := h.blk
  exact Nat.le_of_lt (blk_lt hm0)
 have hKc : KO mb W (w2.setCell ⟨mb, 2, none⟩ (.slice A8 (putI s.heap a.f1 n b.f0).1.length c8)) := (KO.of_bel hB3 hmW).trans (KO.set mb 2 _ _)
 have hVc := Kd.F_far hF8.out (p := ⟨mb, 2, none⟩) (fun j hj q => hj ((hS1.out j).2 (.inl (by have q : j = mb := q; rw [q]; exact h.sm)))) (.slice A8 (putI s.heap a.f1 n b.f0).1.length c8)
 generalize w2.setCell ⟨mb, 2, none⟩ (.slice A8 (putI s.heap a.f1 n b.f0).1.length c8) = wc at hbc hmc hKc hVc ⊢
 clear q0 q1
 have q0 := blk_frozen hbc 0
 have q1 := blk_frozen hbc 1
 have q2 := blk_frozen hbc 2
 have q3 : wc.cell? ⟨r, 0, none⟩ = some (.int .i64 (0)) := blk_cell hbc 0
 have q4 : wc.cell? ⟨r, 1, none⟩ = some (.int .i64 (0)) := blk_cell hbc 1
 have q5 : wc.cell? ⟨r, 2, none⟩ = some (.int .i64 (0)) := blk_cell hbc 2
 have hpz := put3 hbc (.int .i64 (0)) (.int .i64 (0)) (.int .i64 (0))
 go_wp2
 refine bodyPost_ret (results_cell_row3 rfl _ _ r 89 #[.int .i64 (0), .int .i64 (0), .int .i64 (0)] (0, 0) _ rfl hpz.1 Try.underlying89 rfl (by kernel_rfl)) rfl ?_
 rw [hvv.out]
 have e : touchL ⟨12, d, xa, xb, n, m, args⟩ a b s.heap = some ((putI s.heap a.f1 n b.f0).1, ⟨0, 0, 0⟩, (putI s.heap a.f1 n b.f0).2) := rfl
 rw [e]
 have hnr : ∀ j, ¬ S1 j → j ≠ r := fun j hj q => hj ((hS1.out j).2 (.inr (by have := hr.out; omega)))
 have hVz := Kd.F_mono (Kd.F_far (Kd.F_far (Kd.F_far hVc (p := ⟨r, 0, none⟩) hnr (.int .i64 0)) (p := ⟨r, 1, none⟩) hnr (.int .i64 0)) (p := ⟨r, 2, none⟩) hnr (.int .i64 0)) (fun j hj (q : S j) => hj ((hS1.out j).2 (.inl q)))
 have hKz := ((hKc.new hmW hgr.out 0 (.int .i64 0)).new hmW hgr.out 1 (.int .i64 0)).new hmW hgr.out 2 (.int .i64 0)
 refine .some (h.setM hKz rfl rfl (s1 := { s with heap := (putI s.heap a.f1 n b.f0).1 }) (hv1 := .slice A8 (putI s.heap a.f1 n b.f0).1.length c8) (HV.mk ⟨hVz⟩ hc8) (fun PA' pc' hm0 => ?_)) hKz
 have e2 := (hB.blk hm0).symm.trans hm
 injection e2 with e2
 injection e2 with e2
 have e3 : (Value.slice PA' p.f0.length pc') = .slice PA p.f0.length pc := by
  have := congrArg (fun x : Array Value => x[0]?) e2
  simpa using this
 rw [e3]
 exact blk_far (blk_far (blk_far hmc (p := ⟨r, 0, none⟩) hmr (.int .i64 0)) (p := ⟨r, 1, none⟩) hmr (.int .i64 0)) (p := ⟨r, 2, none⟩) hmr (.int .i64 0)
set_option maxHeartbeats 4000000 in
theorem touch14 (w0 : World) (p : SProg) (mb : Nat) (W : World) (s : VSt) (fs : List (Nat × Nat)) (sv ev hv : Value) (S : Nat → Prop) (h : CM w0 p mb W s fs sv ev hv S) (hp : Aside0 (HeapP s.heap)) (hl : s.heap.length ≤ 100000) (d xa xb n m : Int) (args : List Int) (A : Option Addr) (c : Nat) (a b : SVal) (ha : 0 ≤ a.f1 ∧ a.f1 ≤ s.heap.length) (hb : 0 ≤ b.f1 ∧ b.f1 ≤ s.heap.length) :
  Calls Try.prog 61 #[.pointer (some ⟨mb, 0, none⟩), insV ⟨14, d, xa, xb, n, m, args⟩ A c, valV a, valV b] W (TouchIs w0 p mb s fs sv ev S W (touchL ⟨14, d, xa, xb, n, m, args⟩ a b s.heap)) := by
 obtain ⟨vv, hvv⟩ : ∃ v, v = touchL ⟨14, d, xa, xb, n, m, args⟩ a b s.heap := ⟨_, rfl⟩
 rw [← hvv]
 replace hvv := Aside0.mk hvv
 have hS0 := Aside0.mk h.sb
 have hB : Bel W ((((W.alloc (.cells #[.int .i64 14, .int .i64 d, .int .i64 xa, .int .i64 xb, .int .i64 n, .int .i64 m, .slice A args.length c] 57)).alloc (.cells #[.int .i64 a.f0, .int .i64 a.f1, .int .i64 a.f2] 89)).alloc (.cells #[.int .i64 b.f0, .int .i64 b.f1, .int .i64 b.f2] 89)).alloc (.cells #[.int .i64 0, .int .i64 0, .int .i64 0] 89)) := ((((Bel.refl W).alloc _).alloc _).alloc _).alloc _
 obtain ⟨g, hg⟩ : ∃ g, W.heap.size = g := ⟨_, rfl⟩
 have hb0 : ((((W.alloc (.cells #[.int .i64 14, .int .i64 d, .int .i64 xa, .int .i64 xb, .int .i64 n, .int .i64 m, .slice A args.length c] 57)).alloc (.cells #[.int .i64 a.f0, .int .i64 a.f1, .int .i64 a.f2] 89)).alloc (.cells #[.int .i64 b.f0, .int .i64 b.f1, .int .i64 b.f2] 89)).alloc (.cells #[.int .i64 0, .int .i64 0, .int .i64 0] 89)).heap[g]? = some (.cells #[.int .i64 14, .int .i64 d, .int .i64 xa, .int .i64 xb, .int .i64 n, .int .i64 m, .slice A args.length c] 57 (0, 0)) := heap_old (heap_old (heap_old (heap_new' hg.symm)))
 have hb1 : ((((W.alloc (.cells #[.int .i64 14, .int .i64 d, .int .i64 xa, .int .i64 xb, .int .i64 n, .int .i64 m, .slice A args.length c] 57)).alloc (.cells #[.int .i64 a.f0, .int .i64 a.f1, .int .i64 a.f2] 89)).alloc (.cells #[.int .i64 b.f0, .int .i64 b.f1, .int .i64 b.f2] 89)).alloc (.cells #[.int .i64 0, .int .i64 0, .int .i64 0] 89)).heap[g + 1]? = some (.cells #[.int .i64 a.f0, .int .i64 a.f1, .int .i64 a.f2] 89 (0, 0)) := heap_old (heap_old (heap_new' (by simp [hg])))
 have hbb : ((((W.alloc (.cells #[.int .i64 14, .int .i64 d, .int .i64 xa, .int .i64 xb, .int .i64 n, .int .i64 m, .slice A args.length c] 57)).alloc (.cells #[.int .i64 a.f0, .int .i64 a.f1, .int .i64 a.f2] 89)).alloc (.cells #[.int .i64 b.f0, .int .i64 b.f1, .int .i64 b.f2] 89)).alloc (.cells #[.int .i64 0, .int .i64 0, .int .i64 0] 89)).heap[g + 1 + 1]? = some (.cells #[.int .i64 b.f0, .int .i64 b.f1, .int .i64 b.f2] 89 (0, 0)) := heap_old (heap_new' (by simp [hg]))
 have hb2 : ((((W.alloc (.cells #[.int .i64 14, .int .i64 d, .int .i64 xa, .int .i64 xb, .int .i64 n, .int .i64 m, .slice A args.length c] 57)).alloc (.cells #[.int .i64 a.f0, .int .i64 a.f1, .int .i64 a.f2] 89)).alloc (.cells #[.int .i64 b.f0, .int .i64 b.f1, .int .i64 b.f2] 89)).alloc (.cells #[.int .i64 0, .int .i64 0, .int .i64 0] 89)).heap[g + 1 + 1 + 1]? = some (.cells #[.int .i64 0, .int .i64 0, .int .i64 0] 89 (0, 0)) := heap_new' (by simp [hg])
 have hC := h.step hB
 go_enter Try.func61, Try.ntmps61
 go_upto_region 1 with (fail)
 generalize ((((W.alloc (.cells #[.int .i64 14, .int .i64 d, .int .i64 xa, .int .i64 xb, .int .i64 n, .int .i64 m, .slice A args.length c] 57)).alloc (.cells #[.int .i64 a.f0, .int .i64 a.f1, .int .i64 a.f2] 89)).alloc (.cells #[.int .i64 b.f0, .int .i64 b.f1, .int .i64 b.f2] 89)).alloc (.cells #[.int .i64 0, .int .i64 0, .int .i64 0] 89)) = wa at hB hb0 hb1 hbb hb2 hC ⊢
 obtain ⟨r, hr⟩ : ∃ r, g + 1 + 1 + 1 = r := ⟨_, rfl⟩
 rw [hr] at hb2 ⊢
 have hgr : Aside0 (W.heap.size ≤ r) := ⟨by omega⟩
 obtain ⟨PA, pc, hm, _⟩ := hC.blk
 obtain ⟨A1, c1, hve, hc1, hF0⟩ := h.heap.reads
 subst hve
 have hF1 := hF0.step hB
 replace hr := Aside0.mk hr
 replace hg := Aside0.mk hg
 have z0 : wa.cell? ⟨g, 0, none⟩ = some (.int .i64 14) := blk_cell hb0 0
 have y2 : wa.cell? ⟨mb, 2, none⟩ = some (.slice A1 s.heap.length c1) := blk_cell hm 2
 have z1 : wa.cell? ⟨g, 4, none⟩ = some (.int .i64 n) := blk_cell hb0 4
 have z3 : wa.cell? ⟨g + 1, 1, none⟩ = some (.int .i64 a.f1) := blk_cell hb1 1
 have z4 : wa.cell? ⟨g + 1, 2, none⟩ = some (.int .i64 a.f2) := blk_cell hb1 2
 have z5 : wa.cell? ⟨g + 1 + 1, 0, none⟩ = some (.int .i64 b.f0) := blk_cell hbb 0
 have z6 : wa.cell? ⟨g + 1 + 1, 1, none⟩ = some (.int .i64 b.f1) := blk_cell hbb 1
 obtain ⟨S1, hS1⟩ := more_out S g 4
 have H1 : RdF S1 W A1 s.heap := ⟨Kd.F_mono (Kd.F_bound hF0.out) (fun k hk q => by rcases (hS1 k).1 q with q | q; exact hk.1 q; have := hk.2; have := hg.out; omega)⟩
 have hS2 : Aside0 (∀ k, S1 k → k < wa.heap.size) := ⟨fun k hk => by
  have h3 := blk_lt hb2
  have h4 := hr.out
  rcases (hS1 k).1 hk with q | q
  ·have := hS0.out k q
   have := hB.size
   omega
  ·omega⟩
 replace hS1 := Aside0.mk hS1
 have hcl := Aside0.mk (fun X (q : Bel wa X) => Link_any S1 A1 c1 s.heap a.f1 n b.f1 X ⟨fun k hk => Nat.lt_of_lt_of_le (hS2.out k hk) q.size⟩ ((H1.step hB).step q) hc1 hp (by omega) ha.1 ha.2 hb.1 hb.2)
 have hmr : mb ≠ r := two_types hm hb2 (by decide)
 go_upto_region 12 with (fail)
 have hBd : Bel wa wa.drew := (Bel.refl wa).drewN 1
 have hS := Aside0.mk (fun (X : World) (q : Bel wa X) => And.intro (Bel.cell q y2) (And.intro (Bel.cell q z1) (And.intro (Bel.cell q z3) (And.intro (Bel.cell q z4) (And.intro (Bel.cell q z5) (Bel.cell q z6))))))
 clear y2 z1 z3 z4 z0 z5 z6 H1 hF1
 refine wp_region_last_drew (S := fun w' => w'.cell? ⟨mb, 2, none⟩ = some (.slice A1 s.heap.length c1) ∧ w'.cell? ⟨g, 4, none⟩ = some (.int .i64 n) ∧ w'.cell? ⟨g + 1, 1, none⟩ = some (.int .i64 a.f1) ∧ w'.cell? ⟨g + 1, 2, none⟩ = some (.int .i64 a.f2) ∧ w'.cell? ⟨g + 1 + 1, 0, none⟩ = some (.int .i64 b.f0) ∧ w'.cell? ⟨g + 1 + 1, 1, none⟩ = some (.int .i64 b.f1)) (ds := [17]) (by kernel_rfl) (hS.out _ hBd) (fun hHeld => ?_)
 refine takeL [0, 1, 2, 3, 4, 5, 6, 7, 8, 9, 10] (by kernel_rfl) (by kernel_rfl) hHeld ?_
 iterate 11 (refine takeI (v := ?_) rfl rfl (fun _ _ _ h => h) (Or.inl ⟨by kernel_rfl, ?_⟩) ?_; rotate_left 1; focus (intro w hSw; (try dsimp only at hSw); go_simp; (try with_reducible rfl); done); try simp only [Act.put, z1, z2, z3, z4, z5, z6])
 refine takeE ?_
 try dsimp only
 refine wpAnyLast_ready (rs := [11]) (by kernel_rfl) (by simp) ?_
 refine AllReadyL.cons rfl (by decide) (fun K hK => ?_) AllReadyL.nil
 go_simp
 (go_at_call 78; refine (hcl.out _ hBd).mono ?_; rintro ex w2 ⟨v8, rfl, hV8, hB2⟩; obtain ⟨A8, c8, rfl, hc8, hF8⟩ := hV8.reads)
 refine hK.out _ _ ?_ (fun hHeld => ?_)
 rotate_left 1
 clear hK K
 try simp only [Act.put, z1, z2, z3, z4, z5, z6]
 rotate_left 1
 ·exact hS.out _ (hBd.trans hB2)
 have hm2 := hB2.blk hm
 have q0 := blk_frozen hm2 2
 have q1 : w2.cell? ⟨mb, 2, none⟩ = some (.slice A1 s.heap.length c1) := blk_cell hm2 2
 refine takeL [12, 13] (by kernel_rfl) (by kernel_rfl) hHeld ?_
 iterate 2 (refine takeI (v := ?_) rfl rfl (fun _ _ _ h => h) (Or.inl ⟨by kernel_rfl, ?_⟩) ?_; rotate_left 1; focus (intro w hSw; (try dsimp only at hSw); go_simp; (try with_reducible rfl); done); try simp only [Act.put, z1, z2, z3, z4, z5, z6])
 refine takeE ?_
 try dsimp only
 refine wpAnyLast_any (i := 14) (v := ?_) rfl (Region.noSelect_spec (by kernel_rfl)) (fun _ _ _ h => h) _ _ _ _ (Region.free_spec rfl (by kernel_rfl)) (mem_of_contains (by kernel_rfl)) (Or.inl ⟨by kernel_rfl, ?_⟩) ?_
 rotate_left 1
 focus (intro w; go_simp; (try with_reducible rfl); done)
 try simp only [Act.put, z1, z2, z3, z4, z5, z6]
 refine takeL [15, 16] (by kernel_rfl) (by kernel_rfl) hHeld ?_
 iterate 2 (refine takeI (v := ?_) rfl rfl (fun _ _ _ h => h) (Or.inl ⟨by kernel_rfl, ?_⟩) ?_; rotate_left 1; focus (intro w hSw; (try dsimp only at hSw); go_simp; (try with_reducible rfl); done); try simp only [Act.put, z1, z2, z3, z4, z5, z6])
 refine takeE ?_
 try dsimp only
 refine wpAnyLast_ready (rs := [17]) (by kernel_rfl) (by simp) ?_
 refine AllReadyL.cons_last rfl (by decide) (fun K hK => ?_) AllReadyL.nil
 go_simp
 refine hK.out _ _ ?_
 clear hK K
 try simp only [Act.put, z1, z2, z3, z4, z5, z6]
 refine wpAnyLast_any (i := 18) (v := ?_) rfl (Region.noSelect_spec (by kernel_rfl)) (fun _ _ _ h => h) _ _ _ _ (Region.free_spec rfl (by kernel_rfl)) (mem_of_contains (by kernel_rfl)) (Or.inl ⟨by kernel_rfl, ?_⟩) ?_
 rotate_left 1
 focus (intro w; go_simp; (try with_reducible rfl); done)
 try simp only [Act.put, z1, z2, z3, z4, z5, z6]
 refine wpAnyLast_done (by kernel_rfl) ?_ _
 have hB3 := hB.trans (hBd.trans hB2)
 have hbc := blk_far (hB2.blk hb2) (p := ⟨mb, 2, none⟩) (fun e => hmr e.symm) (.slice A8 (putR s.heap a.f1 n b.f1).1.length c8)
 have hmc := (blk_set hm2 2 (.slice A8 (putR s.heap a.f1 n b.f1).1.length c8)).trans rfl
 have hmb := blk_lt hm
 have hmW : mb ≤ W.heap.size := by
  obtain ⟨_, _, hm0, _⟩ := h.blk
  exact Nat.le_of_lt (blk_lt hm0)
 have hKc : KO mb W (w2.setCell ⟨mb, 2, none⟩ (.slice A8 (putR s.heap a.f1 n b.f1).1.length c8)) := (KO.of_bel hB3 hmW).trans (KO.set mb 2 _ _)
 have hVc := Kd.F_far hF8.out (p := ⟨mb, 2, none⟩) (fun j hj q => hj ((hS1.out j).2 (.inl (by have q : j = mb := q; rw [q]; exact h.sm)))) (.slice A8 (putR s.heap a.f1 n b.f1).1.length c8)
 generalize w2.setCell ⟨mb, 2, none⟩ (.slice A8 (putR s.heap a.f1 n b.f1).1.length c8) = wc at hbc hmc hKc hVc ⊢
 clear q0 q1
 have q0 := blk_frozen hbc 0
 have q1 := blk_frozen hbc 1
 have q2 := blk_frozen hbc 2
 have q3 : wc.cell? ⟨r, 0, none⟩ = some (.int .i64 (0)) := blk_cell hbc 0
 have q4 : wc.cell? ⟨r, 1, none⟩ = some (.int .i64 (0)) := blk_cell hbc 1
 have q5 : wc.cell? ⟨r, 2, none⟩ = some (.int .i64 (0)) := blk_cell hbc 2
 have hpz := put3 hbc (.int .i64 (0)) (.int .i64 (0)) (.int .i64 (0))
 go_wp2
 refine bodyPost_ret (results_cell_row3 rfl _ _ r 89 #[.int .i64 (0), .int .i64 (0), .int .i64 (0)] (0, 0) _ rfl hpz.1 Try.underlying89 rfl (by kernel_rfl)) rfl ?_
 rw [hvv.out]
 have e : touchL ⟨14, d, xa, xb, n, m, args⟩ a b s.heap = some ((putR s.heap a.f1 n b.f1).1, ⟨0, 0, 0⟩, (putR s.heap a.f1 n b.f1).2) := rfl
 rw [e]
 have hnr : ∀ j, ¬ S1 j → j ≠ r := fun j hj q => hj ((hS1.out j).2 (.inr (by have := hr.out; omega)))
 have hVz := Kd.F_mono (Kd.F_far (Kd.F_far (Kd.F_far hVc (p := ⟨r, 0, none⟩) hnr (.int .i64 0)) (p := ⟨r, 1, none⟩) hnr (.int .i64 0)) (p := ⟨r, 2, none⟩) hnr (.int .i64 0)) (fun j hj (q : S j) => hj ((hS1.out j).2 (.inl q)))
 have hKz := ((hKc.new hmW hgr.out 0 (.int .i64 0)).new hmW hgr.out 1 (.int .i64 0)).new hmW hgr.out 2 (.int .i64 0)
 refine .some (h.setM hKz rfl rfl (s1 := { s with heap := (putR s.heap a.f1 n b.f1).1 }) (hv1 := .slice A8 (putR s.heap a.f1 n b.f1).1.length c8) (HV.mk ⟨hVz⟩ hc8) (fun PA' pc' hm0 => ?_)) hKz
 have e2 := (hB.blk hm0).symm.trans hm
 injection e2 with e2
 injection e2 with e2
 have e3 : (Value.slice PA' p.f0.length pc') = .slice PA p.f0.length pc := by
  have := congrArg (fun x : Array Value => x[0]?) e2
  simpa using this
 rw [e3]
 exact blk_far (blk_far (blk_far hmc (p := ⟨r, 0, none⟩) hmr (.int .i64 0)) (p := ⟨r, 1, none⟩) hmr (.int .i64 0)) (p := ⟨r, 2, none⟩) hmr (.int .i64 0)
set_option maxHeartbeats 4000000 in
theorem touch18 (w0 : World) (p : SProg) (mb : Nat) (W : World) (s : VSt) (fs : List (Nat × Nat)) (sv ev hv : Value) (S : Nat → Prop) (h : CM w0 p mb W s fs sv ev hv S) (hp : Aside0 (HeapP s.heap)) (hl : s.heap.length ≤ 100000) (d xa xb n m : Int) (args : List Int) (A : Option Addr) (c : Nat) (a b : SVal) (ha : 0 ≤ a.f1 ∧ a.f1 ≤ s.heap.length)  :
  Calls Try.prog 61 #[.pointer (some ⟨mb, 0, none⟩), insV ⟨18, d, xa, xb, n, m, args⟩ A c, valV a, valV b] W (TouchIs w0 p mb s fs sv ev S W (touchL ⟨18, d, xa, xb, n, m, args⟩ a b s.heap)) := by
 obtain ⟨vv, hvv⟩ : ∃ v, v = touchL ⟨18, d, xa, xb, n, m, args⟩ a b s.heap := ⟨_, rfl⟩
 rw [← hvv]
 replace hvv := Aside0.mk hvv
 have hS0 := Aside0.mk h.sb
 have hB : Bel W ((((W.alloc (.cells #[.int .i64 18, .int .i64 d, .int .i64 xa, .int .i64 xb, .int .i64 n, .int .i64 m, .slice A args.length c] 57)).alloc (.cells #[.int .i64 a.f0, .int .i64 a.f1, .int .i64 a.f2] 89)).alloc (.cells #[.int .i64 b.f0, .int .i64 b.f1, .int .i64 b.f2] 89)).alloc (.cells #[.int .i64 0, .int .i64 0, .int .i64 0] 89)) := ((((Bel.refl W).alloc _).alloc _).alloc _).alloc _
 obtain ⟨g, hg⟩ : ∃ g, W.heap.size = g := ⟨_, rfl⟩
 have hb0 : ((((W.alloc (.cells #[.int .i64 18, .int .i64 d, .int .i64 xa, .int .i64 xb, .int .i64 n, .int .i64 m, .slice A args.length c] 57)).alloc (.cells #[.int .i64 a.f0, .int .i64 a.f1, .int .i64 a.f2] 89)).alloc (.cells #[.int .i64 b.f0, .int .i64 b.f1, .int .i64 b.f2] 89)).alloc (.cells #[.int .i64 0, .int .i64 0, .int .i64 0] 89)).heap[g]? = some (.cells #[.int .i64 18, .int .i64 d, .int .i64 xa, .int .i64 xb, .int .i64 n, .int .i64 m, .slice A args.length c] 57 (0, 0)) := heap_old (heap_old (heap_old (heap_new' hg.symm)))
 have hb1 : ((((W.alloc (.cells #[.int .i64 18, .int .i64 d, .int .i64 xa, .int .i64 xb, .int .i64 n, .int .i64 m, .slice A args.length c] 57)).alloc (.cells #[.int .i64 a.f0, .int .i64 a.f1, .int .i64 a.f2] 89)).alloc (.cells #[.int .i64 b.f0, .int .i64 b.f1, .int .i64 b.f2] 89)).alloc (.cells #[.int .i64 0, .int .i64 0, .int .i64 0] 89)).heap[g + 1]? = some (.cells #[.int .i64 a.f0, .int .i64 a.f1, .int .i64 a.f2] 89 (0, 0)) := heap_old (heap_old (heap_new' (by simp [hg])))
 have hbb : ((((W.alloc (.cells #[.int .i64 18, .int .i64 d, .int .i64 xa, .int .i64 xb, .int .i64 n, .int .i64 m, .slice A args.length c] 57)).alloc (.cells #[.int .i64 a.f0, .int .i64 a.f1, .int .i64 a.f2] 89)).alloc (.cells #[.int .i64 b.f0, .int .i64 b.f1, .int .i64 b.f2] 89)).alloc (.cells #[.int .i64 0, .int .i64 0, .int .i64 0] 89)).heap[g + 1 + 1]? = some (.cells #[.int .i64 b.f0, .int .i64 b.f1, .int .i64 b.f2] 89 (0, 0)) := heap_old (heap_new' (by simp [hg]))
 have hb2 : ((((W.alloc (.cells #[.int .i64 18, .int .i64 d, .int .i64 xa, .int .i64 xb, .int .i64 n, .int .i64 m, .slice A args.length c] 57)).alloc (.cells #[.int .i64 a.f0, .int .i64 a.f1, .int .i64 a.f2] 89)).alloc (.cells #[.int .i64 b.f0, .int .i64 b.f1, .int .i64 b.f2] 89)).alloc (.cells #[.int .i64 0, .int .i64 0, .int .i64 0] 89)).heap[g + 1 + 1 + 1]? = some (.cells #[.int .i64 0, .int .i64 0, .int .i64 0] 89 (0, 0)) := heap_new' (by simp [hg])
 have hC := h.step hB
 go_enter Try.func61, Try.ntmps61
 go_upto_region 1 with (fail)
 generalize ((((W.alloc (.cells #[.int .i64 18, .int .i64 d, .int .i64 xa, .int .i64 xb, .int .i64 n, .int .i64 m, .slice A args.length c] 57)).alloc (.cells #[.int .i64 a.f0, .int .i64 a.f1, .int .i64 a.f2] 89)).alloc (.cells #[.int .i64 b.f0, .int .i64 b.f1, .int .i64 b.f2] 89)).alloc (.cells #[.int .i64 0, .int .i64 0, .int .i64 0] 89)) = wa at hB hb0 hb1 hbb hb2 hC ⊢
 obtain ⟨r, hr⟩ : ∃ r, g + 1 + 1 + 1 = r := ⟨_, rfl⟩
 rw [hr] at hb2 ⊢
 have hgr : Aside0 (W.heap.size ≤ r) := ⟨by omega⟩
 obtain ⟨PA, pc, hm, _⟩ := hC.blk
 obtain ⟨A1, c1, hve, hc1, hF0⟩ := h.heap.reads
 subst hve
 have hF1 := hF0.step hB
 replace hr := Aside0.mk hr
 replace hg := Aside0.mk hg
 have z0 : wa.cell? ⟨g, 0, none⟩ = some (.int .i64 18) := blk_cell hb0 0
 have y2 : wa.cell? ⟨mb, 2, none⟩ = some (.slice A1 s.heap.length c1) := blk_cell hm 2
 have z1 : wa.cell? ⟨g, 4, none⟩ = some (.int .i64 n) := blk_cell hb0 4
 have z3 : wa.cell? ⟨g + 1, 1, none⟩ = some (.int .i64 a.f1) := blk_cell hb1 1
 have z4 : wa.cell? ⟨g + 1, 2, none⟩ = some (.int .i64 a.f2) := blk_cell hb1 2
 have z5 : wa.cell? ⟨g + 1 + 1, 0, none⟩ = some (.int .i64 b.f0) := blk_cell hbb 0
 have z6 : wa.cell? ⟨g + 1 + 1, 1, none⟩ = some (.int .i64 b.f1) := blk_cell hbb 1
 obtain ⟨S1, hS1⟩ := more_out S g 4
 have H1 : RdF S1 W A1 s.heap := ⟨Kd.F_mono (Kd.F_bound hF0.out) (fun k hk q => by rcases (hS1 k).1 q with q | q; exact hk.1 q; have := hk.2; have := hg.out; omega)⟩
 have hS2 : Aside0 (∀ k, S1 k → k < wa.heap.size) := ⟨fun k hk => by
  have h3 := blk_lt hb2
  have h4 := hr.out
  rcases (hS1 k).1 hk with q | q
  ·have := hS0.out k q
   have := hB.size
   omega
  ·omega⟩
 replace hS1 := Aside0.mk hS1
 have hcl := Aside0.mk (fun X (q : Bel wa X) => Store_any S1 A1 c1 s.heap a.f1 a.f2 b.f0 X ⟨fun k hk => Nat.lt_of_lt_of_le (hS2.out k hk) q.size⟩ ((H1.step hB).step q) hc1 hp (by omega) ha.1 ha.2 )
 have hmr : mb ≠ r := two_types hm hb2 (by decide)
 go_upto_region 20 with (fail)
 have hBd : Bel wa wa.drew := (Bel.refl wa).drewN 1
 have hS := Aside0.mk (fun (X : World) (q : Bel wa X) => And.intro (Bel.cell q y2) (And.intro (Bel.cell q z1) (And.intro (Bel.cell q z3) (And.intro (Bel.cell q z4) (And.intro (Bel.cell q z5) (Bel.cell q z6))))))
 clear y2 z1 z3 z4 z0 z5 z6 H1 hF1
 refine wp_region_last_drew (S := fun w' => w'.cell? ⟨mb, 2, none⟩ = some (.slice A1 s.heap.length c1) ∧ w'.cell? ⟨g, 4, none⟩ = some (.int .i64 n) ∧ w'.cell? ⟨g + 1, 1, none⟩ = some (.int .i64 a.f1) ∧ w'.cell? ⟨g + 1, 2, none⟩ = some (.int .i64 a.f2) ∧ w'.cell? ⟨g + 1 + 1, 0, none⟩ = some (.int .i64 b.f0) ∧ w'.cell? ⟨g + 1 + 1, 1, none⟩ = some (.int .i64 b.f1)) (ds := [17]) (by kernel_rfl) (hS.out _ hBd) (fun hHeld => ?_)
 refine takeL [0, 1, 2, 3, 4, 5, 6, 7, 8, 9, 10] (by kernel_rfl) (by kernel_rfl) hHeld ?_
 iterate 11 (refine takeI (v := ?_) rfl rfl (fun _ _ _ h => h) (Or.inl ⟨by kernel_rfl, ?_⟩) ?_; rotate_left 1; focus (intro w hSw; (try dsimp only at hSw); go_simp; (try with_reducible rfl); done); try simp only [Act.put, z1, z2, z3, z4, z5, z6])
 refine takeE ?_
 try dsimp only
 refine wpAnyLast_ready (rs := [11]) (by kernel_rfl) (by simp) ?_
 refine AllReadyL.cons rfl (by decide) (fun K hK => ?_) AllReadyL.nil
 go_simp
 (go_at_call 76; refine (hcl.out _ hBd).mono ?_; rintro ex w2 ⟨v8, rfl, hV8, hB2⟩; obtain ⟨A8, c8, rfl, hc8, hF8⟩ := hV8.reads)
 refine hK.out _ _ ?_ (fun hHeld => ?_)
 rotate_left 1
 clear hK K
 try simp only [Act.put, z1, z2, z3, z4, z5, z6]
 rotate_left 1
 ·exact hS.out _ (hBd.trans hB2)
 have hm2 := hB2.blk hm
 have q0 := blk_frozen hm2 2
 have q1 : w2.cell? ⟨mb, 2, none⟩ = some (.slice A1 s.heap.length c1) := blk_cell hm2 2
 refine takeL [12, 13] (by kernel_rfl) (by kernel_rfl) hHeld ?_
 iterate 2 (refine takeI (v := ?_) rfl rfl (fun _ _ _ h => h) (Or.inl ⟨by kernel_rfl, ?_⟩) ?_; rotate_left 1; focus (intro w hSw; (try dsimp only at hSw); go_simp; (try with_reducible rfl); done); try simp only [Act.put, z1, z2, z3, z4, z5, z6])
 refine takeE ?_
 try dsimp only
 refine wpAnyLast_any (i := 14) (v := ?_) rfl (Region.noSelect_spec (by kernel_rfl)) (fun _ _ _ h => h) _ _ _ _ (Region.free_spec rfl (by kernel_rfl)) (mem_of_contains (by kernel_rfl)) (Or.inl ⟨by kernel_rfl, ?_⟩) ?_
 rotate_left 1
 focus (intro w; go_simp; (try with_reducible rfl); done)
 try simp only [Act.put, z1, z2, z3, z4, z5, z6]
 refine takeL [15, 16] (by kernel_rfl) (by kernel_rfl) hHeld ?_
 iterate 2 (refine takeI (v := ?_) rfl rfl (fun _ _ _ h => h) (Or.inl ⟨by kernel_rfl, ?_⟩) ?_; rotate_left 1; focus (intro w hSw; (try dsimp only at hSw); go_simp; (try with_reducible rfl); done); try simp only [Act.put, z1, z2, z3, z4, z5, z6])
 refine takeE ?_
 try dsimp only
 refine wpAnyLast_ready (rs := [17]) (by kernel_rfl) (by simp) ?_
 refine AllReadyL.cons_last rfl (by decide) (fun K hK => ?_) AllReadyL.nil
 go_simp
 refine hK.out _ _ ?_
 clear hK K
 try simp only [Act.put, z1, z2, z3, z4, z5, z6]
 refine wpAnyLast_any (i := 18) (v := ?_) rfl (Region.noSelect_spec (by kernel_rfl)) (fun _ _ _ h => h) _ _ _ _ (Region.free_spec rfl (by kernel_rfl)) (mem_of_contains (by kernel_rfl)) (Or.inl ⟨by kernel_rfl, ?_⟩) ?_
 rotate_left 1
 focus (intro w; go_simp; (try with_reducible rfl); done)
 try simp only [Act.put, z1, z2, z3, z4, z5, z6]
 refine wpAnyLast_done (by kernel_rfl) ?_ _
 have hB3 := hB.trans (hBd.trans hB2)
 have hbc := blk_far (hB2.blk hb2) (p := ⟨mb, 2, none⟩) (fun e => hmr e.symm) (.slice A8 (putI s.heap a.f1 a.f2 b.f0).1.length c8)
 have hmc := (blk_set hm2 2 (.slice A8 (putI s.heap a.f1 a.f2 b.f0).1.length c8)).trans rfl
 have hmb := blk_lt hm
 have hmW : mb ≤ W.heap.size := by
  obtain ⟨_, _, hm0, _⟩ := h.blk
  exact Nat.le_of_lt (blk_lt hm0)
 have hKc : KO mb W (w2.setCell ⟨mb, 2, none⟩ (.slice A8 (putI s.heap a.f1 a.f2 b.f0).1.length c8)) := (KO.of_bel hB3 hmW).trans (KO.set mb 2 _ _)
 have hVc := Kd.F_far hF8.out (p := ⟨mb, 2, none⟩) (fun j hj q => hj ((hS1.out j).2 (.inl (by have q : j = mb := q; rw [q]; exact h.sm)))) (.slice A8 (putI s.heap a.f1 a.f2 b.f0).1.length c8)
 generalize w2.setCell ⟨mb, 2, none⟩ (.slice A8 (putI s.heap a.f1 a.f2 b.f0).1.length c8) = wc at hbc hmc hKc hVc ⊢
 clear q0 q1
 have q0 := blk_frozen hbc 0
 have q1 := blk_frozen hbc 1
 have q2 := blk_frozen hbc 2
 have q3 : wc.cell? ⟨r, 0, none⟩ = some (.int .i64 (0)) := blk_cell hbc 0
 have q4 : wc.cell? ⟨r, 1, none⟩ = some (.int .i64 (0)) := blk_cell hbc 1
 have q5 : wc.cell? ⟨r, 2, none⟩ = some (.int .i64 (0)) := blk_cell hbc 2
 have hpz := put3 hbc (.int .i64 (0)) (.int .i64 (0)) (.int .i64 (0))
 go_wp2
 refine bodyPost_ret (results_cell_row3 rfl _ _ r 89 #[.int .i64 (0), .int .i64 (0), .int .i64 (0)] (0, 0) _ rfl hpz.1 Try.underlying89 rfl (by kernel_rfl)) rfl ?_
 rw [hvv.out]
 have e : touchL ⟨18, d, xa, xb, n, m, args⟩ a b s.heap = some ((putI s.heap a.f1 a.f2 b.f0).1, ⟨0, 0, 0⟩, (putI s.heap a.f1 a.f2 b.f0).2) := rfl
 rw [e]
 have hnr : ∀ j, ¬ S1 j → j ≠ r := fun j hj q => hj ((hS1.out j).2 (.inr (by have := hr.out; omega)))
 have hVz := Kd.F_mono (Kd.F_far (Kd.F_far (Kd.F_far hVc (p := ⟨r, 0, none⟩) hnr (.int .i64 0)) (p := ⟨r, 1, none⟩) hnr (.int .i64 0)) (p := ⟨r, 2, none⟩) hnr (.int .i64 0)) (fun j hj (q : S j) => hj ((hS1.out j).2 (.inl q)))
 have hKz := ((hKc.new hmW hgr.out 0 (.int .i64 0)).new hmW hgr.out 1 (.int .i64 0)).new hmW hgr.out 2 (.int .i64 0)
 refine .some (h.setM hKz rfl rfl (s1 := { s with heap := (putI s.heap a.f1 a.f2 b.f0).1 }) (hv1 := .slice A8 (putI s.heap a.f1 a.f2 b.f0).1.length c8) (HV.mk ⟨hVz⟩ hc8) (fun PA' pc' hm0 => ?_)) hKz
 have e2 := (hB.blk hm0).symm.trans hm
 injection e2 with e2
 injection e2 with e2
 have e3 : (Value.slice PA' p.f0.length pc') = .slice PA p.f0.length pc := by
  have := congrArg (fun x : Array Value => x[0]?) e2
  simpa using this
 rw [e3]
 exact blk_far (blk_far (blk_far hmc (p := ⟨r, 0, none⟩) hmr (.int .i64 0)) (p := ⟨r, 1, none⟩) hmr (.int .i64 0)) (p := ⟨r, 2, none⟩) hmr (.int .i64 0)
end Go.Proofs.Ytodjpbidjldblaa.H
