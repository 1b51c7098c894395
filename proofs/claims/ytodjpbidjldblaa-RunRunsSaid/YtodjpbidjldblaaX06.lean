/- Texts joined. Conditions: each stands with its theorem. -/
import Derived.Test.YtodjpbidjldblaaX00
import Derived.Test.YtodjpbidjldblaaX05
import Derived.Laws.IdiomCopy
import Derived.Laws.CopyOwn
namespace Go.Proofs.Ytodjpbidjldblaa.H
open Go.RowKit Go.Proofs.YtodjpbidjldblaaW.PrintWords Go.Proofs.YtodjpbidjldblaaW.PrintLast
set_option linter.unusedVariables false
set_option linter.unusedSimpArgs false
set_option maxRecDepth 100000
set_option maxHeartbeats 4000000 in
theorem touch10 (w0 : World) (p : SProg) (mb : Nat) (W : World) (s : VSt) (fs : List (Nat × Nat)) (sv ev hv : Value) (S : Nat → Prop) (h : CM w0 p mb W s fs sv ev hv S) (hp : Aside0 (HeapP s.heap)) (hl : s.heap.length ≤ 100000) (d xa xb : Int) (n m : Nat) (args : List Int) (A : Option Addr) (c : Nat) (a b : SVal) (hn : n ≤ 8) (hm8 : m ≤ 8) :
  Calls Try.prog 61 #[.pointer (some ⟨mb, 0, none⟩), insV ⟨10, d, xa, xb, n, m, args⟩ A c, valV a, valV b] W (TouchIs w0 p mb s fs sv ev S W (some (s.heap ++ [⟨List.replicate n 0, List.replicate m 0⟩], ⟨0, s.heap.length + 1, 0⟩, 0))) := by
 have hS0 := Aside0.mk h.sb
 have hB : Bel W ((((W.alloc (.cells #[.int .i64 10, .int .i64 d, .int .i64 xa, .int .i64 xb, .int .i64 n, .int .i64 m, .slice A args.length c] 57)).alloc (.cells #[.int .i64 a.f0, .int .i64 a.f1, .int .i64 a.f2] 89)).alloc (.cells #[.int .i64 b.f0, .int .i64 b.f1, .int .i64 b.f2] 89)).alloc (.cells #[.int .i64 0, .int .i64 0, .int .i64 0] 89)) := ((((Bel.refl W).alloc _).alloc _).alloc _).alloc _
 obtain ⟨g, hg⟩ : ∃ g, W.heap.size = g := ⟨_, rfl⟩
 have hb0 : ((((W.alloc (.cells #[.int .i64 10, .int .i64 d, .int .i64 xa, .int .i64 xb, .int .i64 n, .int .i64 m, .slice A args.length c] 57)).alloc (.cells #[.int .i64 a.f0, .int .i64 a.f1, .int .i64 a.f2] 89)).alloc (.cells #[.int .i64 b.f0, .int .i64 b.f1, .int .i64 b.f2] 89)).alloc (.cells #[.int .i64 0, .int .i64 0, .int .i64 0] 89)).heap[g]? = some (.cells #[.int .i64 10, .int .i64 d, .int .i64 xa, .int .i64 xb, .int .i64 n, .int .i64 m, .slice A args.length c] 57 (0, 0)) := heap_old (heap_old (heap_old (heap_new' hg.symm)))
 have hb1 : ((((W.alloc (.cells #[.int .i64 10, .int .i64 d, .int .i64 xa, .int .i64 xb, .int .i64 n, .int .i64 m, .slice A args.length c] 57)).alloc (.cells #[.int .i64 a.f0, .int .i64 a.f1, .int .i64 a.f2] 89)).alloc (.cells #[.int .i64 b.f0, .int .i64 b.f1, .int .i64 b.f2] 89)).alloc (.cells #[.int .i64 0, .int .i64 0, .int .i64 0] 89)).heap[g + 1]? = some (.cells #[.int .i64 a.f0, .int .i64 a.f1, .int .i64 a.f2] 89 (0, 0)) := heap_old (heap_old (heap_new' (by simp [hg])))
 have hbb : ((((W.alloc (.cells #[.int .i64 10, .int .i64 d, .int .i64 xa, .int .i64 xb, .int .i64 n, .int .i64 m, .slice A args.length c] 57)).alloc (.cells #[.int .i64 a.f0, .int .i64 a.f1, .int .i64 a.f2] 89)).alloc (.cells #[.int .i64 b.f0, .int .i64 b.f1, .int .i64 b.f2] 89)).alloc (.cells #[.int .i64 0, .int .i64 0, .int .i64 0] 89)).heap[g + 1 + 1]? = some (.cells #[.int .i64 b.f0, .int .i64 b.f1, .int .i64 b.f2] 89 (0, 0)) := heap_old (heap_new' (by simp [hg]))
 have hb2 : ((((W.alloc (.cells #[.int .i64 10, .int .i64 d, .int .i64 xa, .int .i64 xb, .int .i64 n, .int .i64 m, .slice A args.length c] 57)).alloc (.cells #[.int .i64 a.f0, .int .i64 a.f1, .int .i64 a.f2] 89)).alloc (.cells #[.int .i64 b.f0, .int .i64 b.f1, .int .i64 b.f2] 89)).alloc (.cells #[.int .i64 0, .int .i64 0, .int .i64 0] 89)).heap[g + 1 + 1 + 1]? = some (.cells #[.int .i64 0, .int .i64 0, .int .i64 0] 89 (0, 0)) := heap_new' (by simp [hg])
 have hC := h.step hB
 go_enter Try.func61, Try.ntmps61
 go_upto_region 1 with (fail)
 generalize ((((W.alloc (.cells #[.int .i64 10, .int .i64 d, .int .i64 xa, .int .i64 xb, .int .i64 n, .int .i64 m, .slice A args.length c] 57)).alloc (.cells #[.int .i64 a.f0, .int .i64 a.f1, .int .i64 a.f2] 89)).alloc (.cells #[.int .i64 b.f0, .int .i64 b.f1, .int .i64 b.f2] 89)).alloc (.cells #[.int .i64 0, .int .i64 0, .int .i64 0] 89)) = wa at hB hb0 hb1 hbb hb2 hC ⊢
 obtain ⟨r, hr⟩ : ∃ r, g + 1 + 1 + 1 = r := ⟨_, rfl⟩
 rw [hr] at hb2 ⊢
 have hgr : Aside0 (W.heap.size ≤ r) := ⟨by omega⟩
 obtain ⟨PA, pc, hm, _⟩ := hC.blk
 obtain ⟨A1, c1, hve, hc1, hF0⟩ := h.heap.reads
 subst hve
 have hF1 := hF0.step hB
 replace hr := Aside0.mk hr
 replace hg := Aside0.mk hg
 have z0 : wa.cell? ⟨g, 0, none⟩ = some (.int .i64 10) := blk_cell hb0 0
 have y2 : wa.cell? ⟨mb, 2, none⟩ = some (.slice A1 s.heap.length c1) := blk_cell hm 2
 have z1 : wa.cell? ⟨g, 4, none⟩ = some (.int .i64 (n : Int)) := blk_cell hb0 4
 have z3 : wa.cell? ⟨g, 5, none⟩ = some (.int .i64 (m : Int)) := blk_cell hb0 5
 obtain ⟨S1, hS1⟩ := more_out S g 4
 have H1 : RdF S1 W A1 s.heap := ⟨Kd.F_mono (Kd.F_bound hF0.out) (fun k hk q => by rcases (hS1 k).1 q with q | q; exact hk.1 q; have := hk.2; have := hg.out; omega)⟩
 have hS2 : Aside0 (∀ k, S1 k → k < wa.heap.size) := ⟨fun k hk => by
  have h3 := blk_lt hb2
  have h4 := hr.out
  rcases (hS1 k).1 hk with q | q
  ·have := hS0.out k q
   have := hB.size
   omega
  ·omega⟩
 replace hS1 := Aside0.mk hS1
 have hcl := Aside0.mk (fun X (q : Bel wa X) => Alloc_ok S1 A1 c1 s.heap n m X ⟨fun k hk => Nat.lt_of_lt_of_le (hS2.out k hk) q.size⟩ ((H1.step hB).step q) hc1 hp (by omega) hn hm8)
 have hmr : mb ≠ r := two_types hm hb2 (by decide)
 obtain ⟨l1, hl1⟩ : ∃ l1, s.heap ++ [(⟨List.replicate n 0, List.replicate m 0⟩ : SObj)] = l1 := ⟨_, rfl⟩
 obtain ⟨N, hN⟩ : ∃ N : Int, ((s.heap.length + 1 : Nat) : Int) = N := ⟨_, rfl⟩
 simp only [hl1, hN] at hcl
 replace hl1 := Aside0.mk hl1
 replace hN := Aside0.mk hN
 go_upto_region 4 with (fail)
 have hBd : Bel wa wa.drew := (Bel.refl wa).drewN 1
 have hS := Aside0.mk (fun (X : World) (q : Bel wa X) => And.intro (Bel.cell q y2) (And.intro (Bel.cell q z1) (Bel.cell q z3)))
 clear y2 z1 z3 z0 H1 hF1
 refine wp_region_last_drew (S := fun w' => w'.cell? ⟨mb, 2, none⟩ = some (.slice A1 s.heap.length c1) ∧ w'.cell? ⟨g, 4, none⟩ = some (.int .i64 (n : Int)) ∧ w'.cell? ⟨g, 5, none⟩ = some (.int .i64 (m : Int))) (ds := [16, 18]) (by kernel_rfl) (hS.out _ hBd) (fun hHeld => ?_)
 refine takeL [0, 1, 2, 3, 4, 5, 6, 7, 8] (by kernel_rfl) (by kernel_rfl) hHeld ?_
 iterate 9 (refine takeI (v := ?_) rfl rfl (fun _ _ _ h => h) (Or.inl ⟨by kernel_rfl, ?_⟩) ?_; rotate_left 1; focus (intro w hSw; (try dsimp only at hSw); go_simp; (try with_reducible rfl); done); try simp only [Act.put, z1, z2, z3, z4, z5, z6])
 refine takeE ?_
 try dsimp only
 refine wpAnyLast_ready (rs := [9]) (by kernel_rfl) (by simp) ?_
 refine AllReadyL.cons rfl (by decide) (fun K hK => ?_) AllReadyL.nil
 go_simp
 (go_at_call 74; refine (hcl.out _ hBd).mono ?_; rintro ex w2 ⟨v8, rfl, hV8, hB2⟩; obtain ⟨A8, c8, rfl, hc8, hF8⟩ := hV8.reads)
 refine hK.out _ _ ?_ (fun hHeld => ?_)
 rotate_left 1
 clear hK K
 try simp only [Act.put, z1, z2, z3, z4, z5, z6]
 rotate_left 1
 ·exact hS.out _ (hBd.trans hB2)
 have hm2 := hB2.blk hm
 have q0 := blk_frozen hm2 2
 have q1 : w2.cell? ⟨mb, 2, none⟩ = some (.slice A1 s.heap.length c1) := blk_cell hm2 2
 refine wpAnyLast_any (i := 10) (v := ?_) rfl (Region.noSelect_spec (by kernel_rfl)) (fun _ _ _ h => h) _ _ _ _ (Region.free_spec rfl (by kernel_rfl)) (mem_of_contains (by kernel_rfl)) (Or.inl ⟨by kernel_rfl, ?_⟩) ?_
 rotate_left 1
 focus (intro w; go_simp; (try with_reducible rfl); done)
 try simp only [Act.put, z1, z2, z3, z4, z5, z6]
 refine wpAnyLast_any (i := 11) (v := ?_) rfl (Region.noSelect_spec (by kernel_rfl)) (fun _ _ _ h => h) _ _ _ _ (Region.free_spec rfl (by kernel_rfl)) (mem_of_contains (by kernel_rfl)) (Or.inl ⟨by kernel_rfl, ?_⟩) ?_
 rotate_left 1
 focus (intro w; go_simp; (try with_reducible rfl); done)
 try simp only [Act.put, z1, z2, z3, z4, z5, z6]
 refine wpAnyLast_any (i := 12) (v := ?_) rfl (Region.noSelect_spec (by kernel_rfl)) (fun _ _ _ h => h) _ _ _ _ (Region.free_spec rfl (by kernel_rfl)) (mem_of_contains (by kernel_rfl)) (Or.inl ⟨by kernel_rfl, ?_⟩) ?_
 rotate_left 1
 focus (intro w; go_simp; (try with_reducible rfl); done)
 try simp only [Act.put, z1, z2, z3, z4, z5, z6]
 refine wpAnyLast_any (i := 13) (v := ?_) rfl (Region.noSelect_spec (by kernel_rfl)) (fun _ _ _ h => h) _ _ _ _ (Region.free_spec rfl (by kernel_rfl)) (mem_of_contains (by kernel_rfl)) (Or.inl ⟨by kernel_rfl, ?_⟩) ?_
 rotate_left 1
 focus (intro w; go_simp; (try with_reducible rfl); done)
 try simp only [Act.put, z1, z2, z3, z4, z5, z6]
 refine wpAnyLast_any (i := 14) (v := ?_) rfl (Region.noSelect_spec (by kernel_rfl)) (fun _ _ _ h => h) _ _ _ _ (Region.free_spec rfl (by kernel_rfl)) (mem_of_contains (by kernel_rfl)) (Or.inl ⟨by kernel_rfl, ?_⟩) ?_
 rotate_left 1
 focus (intro w; go_simp; (try with_reducible rfl); done)
 try simp only [Act.put, z1, z2, z3, z4, z5, z6]
 refine wpAnyLast_any (i := 15) (v := ?_) rfl (Region.noSelect_spec (by kernel_rfl)) (fun _ _ _ h => h) _ _ _ _ (Region.free_spec rfl (by kernel_rfl)) (mem_of_contains (by kernel_rfl)) (Or.inl ⟨by kernel_rfl, ?_⟩) ?_
 rotate_left 1
 focus (intro w; go_simp; (try with_reducible rfl); done)
 try simp only [Act.put, z1, z2, z3, z4, z5, z6]
 refine wpAnyLast_ready (rs := [16]) (by kernel_rfl) (by simp) ?_
 refine AllReadyL.cons_last rfl (by decide) (fun K hK => ?_) AllReadyL.nil
 go_simp
 refine hK.out _ _ ?_
 clear hK K
 try simp only [Act.put, z1, z2, z3, z4, z5, z6]
 have hB3 := hB.trans (hBd.trans hB2)
 have hbc := blk_far (hB2.blk hb2) (p := ⟨mb, 2, none⟩) (fun e => hmr e.symm) (.slice A8 l1.length c8)
 have hmc := (blk_set hm2 2 (.slice A8 l1.length c8)).trans rfl
 have hmb := blk_lt hm
 have hmW : mb ≤ W.heap.size := by
  obtain ⟨_, _, hm0, _⟩ := h.blk
  exact Nat.le_of_lt (blk_lt hm0)
 have hKc : KO mb W (w2.setCell ⟨mb, 2, none⟩ (.slice A8 l1.length c8)) := (KO.of_bel hB3 hmW).trans (KO.set mb 2 _ _)
 have hVc := Kd.F_far hF8.out (p := ⟨mb, 2, none⟩) (fun j hj q => hj ((hS1.out j).2 (.inl (by have q : j = mb := q; rw [q]; exact h.sm)))) (.slice A8 l1.length c8)
 generalize w2.setCell ⟨mb, 2, none⟩ (.slice A8 l1.length c8) = wc at hbc hmc hKc hVc ⊢
 clear q0 q1
 have q0 := blk_frozen hbc 1
 have q1 : wc.cell? ⟨r, 1, none⟩ = some (.int .i64 0) := blk_cell hbc 1
 refine wpAnyLast_any (i := 17) (v := ?_) rfl (Region.noSelect_spec (by kernel_rfl)) (fun _ _ _ h => h) _ _ _ _ (Region.free_spec rfl (by kernel_rfl)) (mem_of_contains (by kernel_rfl)) (Or.inl ⟨by kernel_rfl, ?_⟩) ?_
 rotate_left 1
 focus (intro w; go_simp; (try with_reducible rfl); done)
 try simp only [Act.put, z1, z2, z3, z4, z5, z6]
 refine wpAnyLast_ready (rs := [18]) (by kernel_rfl) (by simp) ?_
 refine AllReadyL.cons_last rfl (by decide) (fun K hK => ?_) AllReadyL.nil
 go_simp
 refine hK.out _ _ ?_
 clear hK K
 try simp only [Act.put, z1, z2, z3, z4, z5, z6]
 refine wpAnyLast_any (i := 19) (v := ?_) rfl (Region.noSelect_spec (by kernel_rfl)) (fun _ _ _ h => h) _ _ _ _ (Region.free_spec rfl (by kernel_rfl)) (mem_of_contains (by kernel_rfl)) (Or.inl ⟨by kernel_rfl, ?_⟩) ?_
 rotate_left 1
 focus (intro w; go_simp; (try with_reducible rfl); done)
 try simp only [Act.put, z1, z2, z3, z4, z5, z6]
 refine wpAnyLast_done (by kernel_rfl) ?_ _
 have hnr : ∀ j, ¬ S1 j → j ≠ r := fun j hj q => hj ((hS1.out j).2 (.inr (by have := hr.out; omega)))
 have hbd := (blk_set hbc 1 (.int .i64 N)).trans rfl
 have hmd := blk_far hmc (p := ⟨r, 1, none⟩) hmr (.int .i64 N)
 have hKd := hKc.new hmW hgr.out 1 (.int .i64 N)
 have hVd := Kd.F_far hVc (p := ⟨r, 1, none⟩) hnr (.int .i64 N)
 clear hbc hmc hKc hVc q0 q1
 generalize wc.setCell ⟨r, 1, none⟩ (.int .i64 N) = wc at hbd hmd hKd hVd ⊢
 have hbc := hbd
 have q0 := blk_frozen hbc 0
 have q1 := blk_frozen hbc 1
 have q2 := blk_frozen hbc 2
 have q3 : wc.cell? ⟨r, 0, none⟩ = some (.int .i64 (0)) := blk_cell hbc 0
 have q4 : wc.cell? ⟨r, 1, none⟩ = some (.int .i64 (N)) := blk_cell hbc 1
 have q5 : wc.cell? ⟨r, 2, none⟩ = some (.int .i64 (0)) := blk_cell hbc 2
 have hpz := put3 hbc (.int .i64 (0)) (.int .i64 (N)) (.int .i64 (0))
 go_wp2
 refine bodyPost_ret (results_cell_row3 rfl _ _ r 89 #[.int .i64 (0), .int .i64 (N), .int .i64 (0)] (0, 0) _ rfl hpz.1 Try.underlying89 rfl (by kernel_rfl)) rfl ?_
 have hVz := Kd.F_mono (Kd.F_far (Kd.F_far (Kd.F_far hVd (p := ⟨r, 0, none⟩) hnr (.int .i64 0)) (p := ⟨r, 1, none⟩) hnr (.int .i64 N)) (p := ⟨r, 2, none⟩) hnr (.int .i64 0)) (fun j hj (q : S j) => hj ((hS1.out j).2 (.inl q)))
 have hKz := ((hKd.new hmW hgr.out 0 (.int .i64 0)).new hmW hgr.out 1 (.int .i64 N)).new hmW hgr.out 2 (.int .i64 0)
 rw [hl1.out, show ((s.heap.length : Int) + 1) = N from hN.out]
 refine .some (h.setM hKz rfl rfl (s1 := { s with heap := l1 }) (hv1 := .slice A8 l1.length c8) (HV.mk ⟨hVz⟩ hc8) (fun PA' pc' hm0 => ?_)) hKz
 have e2 := (hB.blk hm0).symm.trans hm
 injection e2 with e2
 injection e2 with e2
 have e3 : (Value.slice PA' p.f0.length pc') = .slice PA p.f0.length pc := by
  have := congrArg (fun x : Array Value => x[0]?) e2
  simpa using this
 rw [e3]
 exact blk_far (blk_far (blk_far hmd (p := ⟨r, 0, none⟩) hmr (.int .i64 0)) (p := ⟨r, 1, none⟩) hmr (.int .i64 N)) (p := ⟨r, 2, none⟩) hmr (.int .i64 0)
set_option maxHeartbeats 4000000 in
theorem touch15 (w0 : World) (p : SProg) (mb : Nat) (W : World) (s : VSt) (fs : List (Nat × Nat)) (sv ev hv : Value) (S : Nat → Prop) (h : CM w0 p mb W s fs sv ev hv S) (d xa xb n m : Int) (args : List Int) (A : Option Addr) (c : Nat) (a b : SVal) :
  Calls Try.prog 61 #[.pointer (some ⟨mb, 0, none⟩), insV ⟨15, d, xa, xb, n, m, args⟩ A c, valV a, valV b] W (TouchIs w0 p mb s fs sv ev S W (some (s.heap, ⟨0, a.f1, n⟩, derE a.f1))) := by
 by_cases he : a.f1 = 0
 ·have e1 : derE a.f1 = 14 := by unfold derE; rw [if_pos he]
  have b1 : (a.f1 == 0) = true := by simp [he]
  rw [e1]
  replace he := Aside0.mk he
  have hB : Bel W ((((W.alloc (.cells #[.int .i64 15, .int .i64 d, .int .i64 xa, .int .i64 xb, .int .i64 n, .int .i64 m, .slice A args.length c] 57)).alloc (.cells #[.int .i64 a.f0, .int .i64 a.f1, .int .i64 a.f2] 89)).alloc (.cells #[.int .i64 b.f0, .int .i64 b.f1, .int .i64 b.f2] 89)).alloc (.cells #[.int .i64 0, .int .i64 0, .int .i64 0] 89)) := ((((Bel.refl W).alloc _).alloc _).alloc _).alloc _
  obtain ⟨g, hg⟩ : ∃ g, W.heap.size = g := ⟨_, rfl⟩
  have hb0 : ((((W.alloc (.cells #[.int .i64 15, .int .i64 d, .int .i64 xa, .int .i64 xb, .int .i64 n, .int .i64 m, .slice A args.length c] 57)).alloc (.cells #[.int .i64 a.f0, .int .i64 a.f1, .int .i64 a.f2] 89)).alloc (.cells #[.int .i64 b.f0, .int .i64 b.f1, .int .i64 b.f2] 89)).alloc (.cells #[.int .i64 0, .int .i64 0, .int .i64 0] 89)).heap[g]? = some (.cells #[.int .i64 15, .int .i64 d, .int .i64 xa, .int .i64 xb, .int .i64 n, .int .i64 m, .slice A args.length c] 57 (0, 0)) := heap_old (heap_old (heap_old (heap_new' hg.symm)))
  have hb1 : ((((W.alloc (.cells #[.int .i64 15, .int .i64 d, .int .i64 xa, .int .i64 xb, .int .i64 n, .int .i64 m, .slice A args.length c] 57)).alloc (.cells #[.int .i64 a.f0, .int .i64 a.f1, .int .i64 a.f2] 89)).alloc (.cells #[.int .i64 b.f0, .int .i64 b.f1, .int .i64 b.f2] 89)).alloc (.cells #[.int .i64 0, .int .i64 0, .int .i64 0] 89)).heap[g + 1]? = some (.cells #[.int .i64 a.f0, .int .i64 a.f1, .int .i64 a.f2] 89 (0, 0)) := heap_old (heap_old (heap_new' (by simp [hg])))
  have hbb : ((((W.alloc (.cells #[.int .i64 15, .int .i64 d, .int .i64 xa, .int .i64 xb, .int .i64 n, .int .i64 m, .slice A args.length c] 57)).alloc (.cells #[.int .i64 a.f0, .int .i64 a.f1, .int .i64 a.f2] 89)).alloc (.cells #[.int .i64 b.f0, .int .i64 b.f1, .int .i64 b.f2] 89)).alloc (.cells #[.int .i64 0, .int .i64 0, .int .i64 0] 89)).heap[g + 1 + 1]? = some (.cells #[.int .i64 b.f0, .int .i64 b.f1, .int .i64 b.f2] 89 (0, 0)) := heap_old (heap_new' (by simp [hg]))
  have hb2 : ((((W.alloc (.cells #[.int .i64 15, .int .i64 d, .int .i64 xa, .int .i64 xb, .int .i64 n, .int .i64 m, .slice A args.length c] 57)).alloc (.cells #[.int .i64 a.f0, .int .i64 a.f1, .int .i64 a.f2] 89)).alloc (.cells #[.int .i64 b.f0, .int .i64 b.f1, .int .i64 b.f2] 89)).alloc (.cells #[.int .i64 0, .int .i64 0, .int .i64 0] 89)).heap[g + 1 + 1 + 1]? = some (.cells #[.int .i64 0, .int .i64 0, .int .i64 0] 89 (0, 0)) := heap_new' (by simp [hg])
  have hC := h.step hB
  go_enter Try.func61, Try.ntmps61
  go_upto_region 1 with (fail)
  generalize ((((W.alloc (.cells #[.int .i64 15, .int .i64 d, .int .i64 xa, .int .i64 xb, .int .i64 n, .int .i64 m, .slice A args.length c] 57)).alloc (.cells #[.int .i64 a.f0, .int .i64 a.f1, .int .i64 a.f2] 89)).alloc (.cells #[.int .i64 b.f0, .int .i64 b.f1, .int .i64 b.f2] 89)).alloc (.cells #[.int .i64 0, .int .i64 0, .int .i64 0] 89)) = wa at hB hb0 hb1 hbb hb2 hC ⊢
  obtain ⟨r, hr⟩ : ∃ r, g + 1 + 1 + 1 = r := ⟨_, rfl⟩
  rw [hr] at hb2 ⊢
  have hgr : Aside0 (W.heap.size ≤ r) := ⟨by omega⟩
  obtain ⟨PA, pc, hm, _⟩ := hC.blk
  obtain ⟨A1, c1, hve, hc1, hF0⟩ := h.heap.reads
  subst hve
  have hF1 := hF0.step hB
  replace hr := Aside0.mk hr
  replace hg := Aside0.mk hg
  have z0 : wa.cell? ⟨g, 0, none⟩ = some (.int .i64 15) := blk_cell hb0 0
  have z1 : wa.cell? ⟨g, 4, none⟩ = some (.int .i64 n) := blk_cell hb0 4
  have z3 : wa.cell? ⟨g + 1, 1, none⟩ = some (.int .i64 a.f1) := blk_cell hb1 1
  have u0 := blk_frozen hb2 0
  have u1 := blk_frozen hb2 1
  have u2 := blk_frozen hb2 2
  have u3 : wa.cell? ⟨r, 0, none⟩ = some (.int .i64 0) := blk_cell hb2 0
  have u4 : wa.cell? ⟨r, 1, none⟩ = some (.int .i64 0) := blk_cell hb2 1
  have u5 : wa.cell? ⟨r, 2, none⟩ = some (.int .i64 0) := blk_cell hb2 2
  go_upto_region 15 with (fail)
  have hpa := put3 hb2 (.int .i64 0) (.int .i64 a.f1) (.int .i64 n)
  have hbc := hpa.1
  have hBc := hpa.2 _ hB hgr.out
  have hgr1 : g + 1 ≠ r := by have := hr.out; omega
  have hb1c := blk_far (blk_far (blk_far hb1 (p := ⟨r, 0, none⟩) hgr1 (.int .i64 0)) (p := ⟨r, 1, none⟩) hgr1 (.int .i64 a.f1)) (p := ⟨r, 2, none⟩) hgr1 (.int .i64 n)
  generalize ((wa.setCell ⟨r, 0, none⟩ (.int .i64 0)).setCell ⟨r, 1, none⟩ (.int .i64 a.f1)).setCell ⟨r, 2, none⟩ (.int .i64 n) = wc at hbc hBc hb1c ⊢
  clear z0 z1 z3 u0 u1 u2 u3 u4 u5 hpa
  have z3 : wc.cell? ⟨g + 1, 1, none⟩ = some (.int .i64 a.f1) := blk_cell hb1c 1
  have q0 := blk_frozen hbc 0
  have q1 := blk_frozen hbc 1
  have q2 := blk_frozen hbc 2
  have q3 : wc.cell? ⟨r, 0, none⟩ = some (.int .i64 (0)) := blk_cell hbc 0
  have q4 : wc.cell? ⟨r, 1, none⟩ = some (.int .i64 (a.f1)) := blk_cell hbc 1
  have q5 : wc.cell? ⟨r, 2, none⟩ = some (.int .i64 (n)) := blk_cell hbc 2
  have hpz := put3 hbc (.int .i64 (0)) (.int .i64 (a.f1)) (.int .i64 (n))
  go_wp2
  refine bodyPost_ret (results_cell_row3 rfl _ _ r 89 #[.int .i64 (0), .int .i64 (a.f1), .int .i64 (n)] (0, 0) _ rfl hpz.1 Try.underlying89 rfl (by kernel_rfl)) rfl ?_
  have hBz := hpz.2 _ hBc hgr.out
  exact .some (h.step hBz) (h.ko hBz)
 ·have e1 : derE a.f1 = 0 := by unfold derE; rw [if_neg he]
  have b1 : (a.f1 == 0) = false := by simp [he]
  rw [e1]
  replace he := Aside0.mk he
  have hB : Bel W ((((W.alloc (.cells #[.int .i64 15, .int .i64 d, .int .i64 xa, .int .i64 xb, .int .i64 n, .int .i64 m, .slice A args.length c] 57)).alloc (.cells #[.int .i64 a.f0, .int .i64 a.f1, .int .i64 a.f2] 89)).alloc (.cells #[.int .i64 b.f0, .int .i64 b.f1, .int .i64 b.f2] 89)).alloc (.cells #[.int .i64 0, .int .i64 0, .int .i64 0] 89)) := ((((Bel.refl W).alloc _).alloc _).alloc _).alloc _
  obtain ⟨g, hg⟩ : ∃ g, W.heap.size = g := ⟨_, rfl⟩
  have hb0 : ((((W.alloc (.cells #[.int .i64 15, .int .i64 d, .int .i64 xa, .int .i64 xb, .int .i64 n, .int .i64 m, .slice A args.length c] 57)).alloc (.cells #[.int .i64 a.f0, .int .i64 a.f1, .int .i64 a.f2] 89)).alloc (.cells #[.int .i64 b.f0, .int .i64 b.f1, .int .i64 b.f2] 89)).alloc (.cells #[.int .i64 0, .int .i64 0, .int .i64 0] 89)).heap[g]? = some (.cells #[.int .i64 15, .int .i64 d, .int .i64 xa, .int .i64 xb, .int .i64 n, .int .i64 m, .slice A args.length c] 57 (0, 0)) := heap_old (heap_old (heap_old (heap_new' hg.symm)))
  have hb1 : ((((W.alloc (.cells #[.int .i64 15, .int .i64 d, .int .i64 xa, .int .i64 xb, .int .i64 n, .int .i64 m, .slice A args.length c] 57)).alloc (.cells #[.int .i64 a.f0, .int .i64 a.f1, .int .i64 a.f2] 89)).alloc (.cells #[.int .i64 b.f0, .int .i64 b.f1, .int .i64 b.f2] 89)).alloc (.cells #[.int .i64 0, .int .i64 0, .int .i64 0] 89)).heap[g + 1]? = some (.cells #[.int .i64 a.f0, .int .i64 a.f1, .int .i64 a.f2] 89 (0, 0)) := heap_old (heap_old (heap_new' (by simp [hg])))
  have hbb : ((((W.alloc (.cells #[.int .i64 15, .int .i64 d, .int .i64 xa, .int .i64 xb, .int .i64 n, .int .i64 m, .slice A args.length c] 57)).alloc (.cells #[.int .i64 a.f0, .int .i64 a.f1, .int .i64 a.f2] 89)).alloc (.cells #[.int .i64 b.f0, .int .i64 b.f1, .int .i64 b.f2] 89)).alloc (.cells #[.int .i64 0, .int .i64 0, .int .i64 0] 89)).heap[g + 1 + 1]? = some (.cells #[.int .i64 b.f0, .int .i64 b.f1, .int .i64 b.f2] 89 (0, 0)) := heap_old (heap_new' (by simp [hg]))
  have hb2 : ((((W.alloc (.cells #[.int .i64 15, .int .i64 d, .int .i64 xa, .int .i64 xb, .int .i64 n, .int .i64 m, .slice A args.length c] 57)).alloc (.cells #[.int .i64 a.f0, .int .i64 a.f1, .int .i64 a.f2] 89)).alloc (.cells #[.int .i64 b.f0, .int .i64 b.f1, .int .i64 b.f2] 89)).alloc (.cells #[.int .i64 0, .int .i64 0, .int .i64 0] 89)).heap[g + 1 + 1 + 1]? = some (.cells #[.int .i64 0, .int .i64 0, .int .i64 0] 89 (0, 0)) := heap_new' (by simp [hg])
  have hC := h.step hB
  go_enter Try.func61, Try.ntmps61
  go_upto_region 1 with (fail)
  generalize ((((W.alloc (.cells #[.int .i64 15, .int .i64 d, .int .i64 xa, .int .i64 xb, .int .i64 n, .int .i64 m, .slice A args.length c] 57)).alloc (.cells #[.int .i64 a.f0, .int .i64 a.f1, .int .i64 a.f2] 89)).alloc (.cells #[.int .i64 b.f0, .int .i64 b.f1, .int .i64 b.f2] 89)).alloc (.cells #[.int .i64 0, .int .i64 0, .int .i64 0] 89)) = wa at hB hb0 hb1 hbb hb2 hC ⊢
  obtain ⟨r, hr⟩ : ∃ r, g + 1 + 1 + 1 = r := ⟨_, rfl⟩
  rw [hr] at hb2 ⊢
  have hgr : Aside0 (W.heap.size ≤ r) := ⟨by omega⟩
  obtain ⟨PA, pc, hm, _⟩ := hC.blk
  obtain ⟨A1, c1, hve, hc1, hF0⟩ := h.heap.reads
  subst hve
  have hF1 := hF0.step hB
  replace hr := Aside0.mk hr
  replace hg := Aside0.mk hg
  have z0 : wa.cell? ⟨g, 0, none⟩ = some (.int .i64 15) := blk_cell hb0 0
  have z1 : wa.cell? ⟨g, 4, none⟩ = some (.int .i64 n) := blk_cell hb0 4
  have z3 : wa.cell? ⟨g + 1, 1, none⟩ = some (.int .i64 a.f1) := blk_cell hb1 1
  have u0 := blk_frozen hb2 0
  have u1 := blk_frozen hb2 1
  have u2 := blk_frozen hb2 2
  have u3 : wa.cell? ⟨r, 0, none⟩ = some (.int .i64 0) := blk_cell hb2 0
  have u4 : wa.cell? ⟨r, 1, none⟩ = some (.int .i64 0) := blk_cell hb2 1
  have u5 : wa.cell? ⟨r, 2, none⟩ = some (.int .i64 0) := blk_cell hb2 2
  go_upto_region 15 with (fail)
  have hpa := put3 hb2 (.int .i64 0) (.int .i64 a.f1) (.int .i64 n)
  have hbc := hpa.1
  have hBc := hpa.2 _ hB hgr.out
  have hgr1 : g + 1 ≠ r := by have := hr.out; omega
  have hb1c := blk_far (blk_far (blk_far hb1 (p := ⟨r, 0, none⟩) hgr1 (.int .i64 0)) (p := ⟨r, 1, none⟩) hgr1 (.int .i64 a.f1)) (p := ⟨r, 2, none⟩) hgr1 (.int .i64 n)
  generalize ((wa.setCell ⟨r, 0, none⟩ (.int .i64 0)).setCell ⟨r, 1, none⟩ (.int .i64 a.f1)).setCell ⟨r, 2, none⟩ (.int .i64 n) = wc at hbc hBc hb1c ⊢
  clear z0 z1 z3 u0 u1 u2 u3 u4 u5 hpa
  have z3 : wc.cell? ⟨g + 1, 1, none⟩ = some (.int .i64 a.f1) := blk_cell hb1c 1
  have q0 := blk_frozen hbc 0
  have q1 := blk_frozen hbc 1
  have q2 := blk_frozen hbc 2
  have q3 : wc.cell? ⟨r, 0, none⟩ = some (.int .i64 (0)) := blk_cell hbc 0
  have q4 : wc.cell? ⟨r, 1, none⟩ = some (.int .i64 (a.f1)) := blk_cell hbc 1
  have q5 : wc.cell? ⟨r, 2, none⟩ = some (.int .i64 (n)) := blk_cell hbc 2
  have hpz := put3 hbc (.int .i64 (0)) (.int .i64 (a.f1)) (.int .i64 (n))
  go_wp2
  refine bodyPost_ret (results_cell_row3 rfl _ _ r 89 #[.int .i64 (0), .int .i64 (a.f1), .int .i64 (n)] (0, 0) _ rfl hpz.1 Try.underlying89 rfl (by kernel_rfl)) rfl ?_
  have hBz := hpz.2 _ hBc hgr.out
  exact .some (h.step hBz) (h.ko hBz)
set_option maxHeartbeats 4000000 in
theorem touch0 (w0 : World) (p : SProg) (mb : Nat) (W : World) (s : VSt) (fs : List (Nat × Nat)) (sv ev hv : Value) (S : Nat → Prop) (h : CM w0 p mb W s fs sv ev hv S) (op d xa xb n m : Int) (args : List Int) (A : Option Addr) (c : Nat) (a b : SVal) (h10 : op ≠ 10) (h11 : op ≠ 11) (h12 : op ≠ 12) (h13 : op ≠ 13) (h14 : op ≠ 14) (h15 : op ≠ 15) (h17 : op ≠ 17) (h18 : op ≠ 18) :
  Calls Try.prog 61 #[.pointer (some ⟨mb, 0, none⟩), insV ⟨op, d, xa, xb, n, m, args⟩ A c, valV a, valV b] W (TouchIs w0 p mb s fs sv ev S W none) := by
 have b10 : (op == 10) = false := by simpa using h10
 have b11 : (op == 11) = false := by simpa using h11
 have b12 : (op == 12) = false := by simpa using h12
 have b13 : (op == 13) = false := by simpa using h13
 have b14 : (op == 14) = false := by simpa using h14
 have b15 : (op == 15) = false := by simpa using h15
 have b17 : (op == 17) = false := by simpa using h17
 have b18 : (op == 18) = false := by simpa using h18
 clear h10 h11 h12 h13 h14 h15 h17 h18
 have hB : Bel W ((((W.alloc (.cells #[.int .i64 op, .int .i64 d, .int .i64 xa, .int .i64 xb, .int .i64 n, .int .i64 m, .slice A args.length c] 57)).alloc (.cells #[.int .i64 a.f0, .int .i64 a.f1, .int .i64 a.f2] 89)).alloc (.cells #[.int .i64 b.f0, .int .i64 b.f1, .int .i64 b.f2] 89)).alloc (.cells #[.int .i64 0, .int .i64 0, .int .i64 0] 89)) := ((((Bel.refl W).alloc _).alloc _).alloc _).alloc _
 obtain ⟨g, hg⟩ : ∃ g, W.heap.size = g := ⟨_, rfl⟩
 have hb0 : ((((W.alloc (.cells #[.int .i64 op, .int .i64 d, .int .i64 xa, .int .i64 xb, .int .i64 n, .int .i64 m, .slice A args.length c] 57)).alloc (.cells #[.int .i64 a.f0, .int .i64 a.f1, .int .i64 a.f2] 89)).alloc (.cells #[.int .i64 b.f0, .int .i64 b.f1, .int .i64 b.f2] 89)).alloc (.cells #[.int .i64 0, .int .i64 0, .int .i64 0] 89)).heap[g]? = some (.cells #[.int .i64 op, .int .i64 d, .int .i64 xa, .int .i64 xb, .int .i64 n, .int .i64 m, .slice A args.length c] 57 (0, 0)) := heap_old (heap_old (heap_old (heap_new' hg.symm)))
 have hb1 : ((((W.alloc (.cells #[.int .i64 op, .int .i64 d, .int .i64 xa, .int .i64 xb, .int .i64 n, .int .i64 m, .slice A args.length c] 57)).alloc (.cells #[.int .i64 a.f0, .int .i64 a.f1, .int .i64 a.f2] 89)).alloc (.cells #[.int .i64 b.f0, .int .i64 b.f1, .int .i64 b.f2] 89)).alloc (.cells #[.int .i64 0, .int .i64 0, .int .i64 0] 89)).heap[g + 1]? = some (.cells #[.int .i64 a.f0, .int .i64 a.f1, .int .i64 a.f2] 89 (0, 0)) := heap_old (heap_old (heap_new' (by simp [hg])))
 have hbb : ((((W.alloc (.cells #[.int .i64 op, .int .i64 d, .int .i64 xa, .int .i64 xb, .int .i64 n, .int .i64 m, .slice A args.length c] 57)).alloc (.cells #[.int .i64 a.f0, .int .i64 a.f1, .int .i64 a.f2] 89)).alloc (.cells #[.int .i64 b.f0, .int .i64 b.f1, .int .i64 b.f2] 89)).alloc (.cells #[.int .i64 0, .int .i64 0, .int .i64 0] 89)).heap[g + 1 + 1]? = some (.cells #[.int .i64 b.f0, .int .i64 b.f1, .int .i64 b.f2] 89 (0, 0)) := heap_old (heap_new' (by simp [hg]))
 have hb2 : ((((W.alloc (.cells #[.int .i64 op, .int .i64 d, .int .i64 xa, .int .i64 xb, .int .i64 n, .int .i64 m, .slice A args.length c] 57)).alloc (.cells #[.int .i64 a.f0, .int .i64 a.f1, .int .i64 a.f2] 89)).alloc (.cells #[.int .i64 b.f0, .int .i64 b.f1, .int .i64 b.f2] 89)).alloc (.cells #[.int .i64 0, .int .i64 0, .int .i64 0] 89)).heap[g + 1 + 1 + 1]? = some (.cells #[.int .i64 0, .int .i64 0, .int .i64 0] 89 (0, 0)) := heap_new' (by simp [hg])
 have hC := h.step hB
 go_enter Try.func61, Try.ntmps61
 go_upto_region 1 with (fail)
 generalize ((((W.alloc (.cells #[.int .i64 op, .int .i64 d, .int .i64 xa, .int .i64 xb, .int .i64 n, .int .i64 m, .slice A args.length c] 57)).alloc (.cells #[.int .i64 a.f0, .int .i64 a.f1, .int .i64 a.f2] 89)).alloc (.cells #[.int .i64 b.f0, .int .i64 b.f1, .int .i64 b.f2] 89)).alloc (.cells #[.int .i64 0, .int .i64 0, .int .i64 0] 89)) = wa at hB hb0 hb1 hbb hb2 hC ⊢
 obtain ⟨r, hr⟩ : ∃ r, g + 1 + 1 + 1 = r := ⟨_, rfl⟩
 rw [hr] at hb2 ⊢
 have hgr : Aside0 (W.heap.size ≤ r) := ⟨by omega⟩
 obtain ⟨PA, pc, hm, _⟩ := hC.blk
 obtain ⟨A1, c1, hve, hc1, hF0⟩ := h.heap.reads
 subst hve
 have hF1 := hF0.step hB
 replace hr := Aside0.mk hr
 replace hg := Aside0.mk hg
 have z0 : wa.cell? ⟨g, 0, none⟩ = some (.int .i64 op) := blk_cell hb0 0
 generalize wa = wc at hb2 hB z0 ⊢
 have hbc := hb2
 have q0 := blk_frozen hbc 0
 have q1 := blk_frozen hbc 1
 have q2 := blk_frozen hbc 2
 have q3 : wc.cell? ⟨r, 0, none⟩ = some (.int .i64 (0)) := blk_cell hbc 0
 have q4 : wc.cell? ⟨r, 1, none⟩ = some (.int .i64 (0)) := blk_cell hbc 1
 have q5 : wc.cell? ⟨r, 2, none⟩ = some (.int .i64 (0)) := blk_cell hbc 2
 have hpz := put3 hbc (.int .i64 (0)) (.int .i64 (0)) (.int .i64 (0))
 go_wp2
 refine bodyPost_ret (results_cell_row3 rfl _ _ r 89 #[.int .i64 (0), .int .i64 (0), .int .i64 (0)] (0, 0) _ rfl hpz.1 Try.underlying89 rfl (by kernel_rfl)) rfl ?_
 have hBz := hpz.2 _ hB hgr.out
 exact .none (v := ⟨0, 0, 0⟩) (h.step hBz) (h.ko hBz)
theorem touch_any (w0 : World) (p : SProg) (mb : Nat) (W : World) (s : VSt) (fs : List (Nat × Nat)) (sv ev hv : Value) (S : Nat → Prop) (h : CM w0 p mb W s fs sv ev hv S) (hp : Aside0 (HeapP s.heap)) (hl : s.heap.length ≤ 100000) (x : SIns) (A : Option Addr) (c : Nat) (a b : SVal) (ha : 0 ≤ a.f1 ∧ a.f1 ≤ s.heap.length) (hb : 0 ≤ b.f1 ∧ b.f1 ≤ s.heap.length) (hx : x.f0 = 10 → (0 ≤ x.f4 ∧ x.f4 ≤ 8) ∧ 0 ≤ x.f5 ∧ x.f5 ≤ 8) :
  Calls Try.prog 61 #[.pointer (some ⟨mb, 0, none⟩), insV x A c, valV a, valV b] W (TouchIs w0 p mb s fs sv ev S W (touchL x a b s.heap)) := by
 obtain ⟨op, d, xa, xb, n, m, args⟩ := x
 by_cases e : op = 10
 ·subst e
  obtain ⟨⟨n0, n1⟩, m0, m1⟩ := hx rfl
  simp only at n0 n1 m0 m1
  obtain ⟨n, rfl⟩ : ∃ k : Nat, n = (k : Int) := ⟨n.toNat, by omega⟩
  obtain ⟨m, rfl⟩ : ∃ k : Nat, m = (k : Int) := ⟨m.toNat, by omega⟩
  exact touch10 w0 p mb W s fs sv ev hv S h hp hl d xa xb n m args A c a b (by omega) (by omega)
 by_cases e : op = 11
 ·subst e; exact touch11 w0 p mb W s fs sv ev hv S h hp hl d xa xb n m args A c a b ha
 by_cases e : op = 12
 ·subst e; exact touch12 w0 p mb W s fs sv ev hv S h hp hl d xa xb n m args A c a b ha
 by_cases e : op = 13
 ·subst e; exact touch13 w0 p mb W s fs sv ev hv S h hp hl d xa xb n m args A c a b ha
 by_cases e : op = 14
 ·subst e; exact touch14 w0 p mb W s fs sv ev hv S h hp hl d xa xb n m args A c a b ha hb
 by_cases e : op = 15
 ·subst e; exact touch15 w0 p mb W s fs sv ev hv S h d xa xb n m args A c a b
 by_cases e : op = 17
 ·subst e; exact touch17 w0 p mb W s fs sv ev hv S h hp hl d xa xb n m args A c a b ha
 by_cases e : op = 18
 ·subst e; exact touch18 w0 p mb W s fs sv ev hv S h hp hl d xa xb n m args A c a b ha
 have e1 : touchL ⟨op, d, xa, xb, n, m, args⟩ a b s.heap = none := by
  unfold touchL
  dsimp only
  rw [if_neg (by assumption), if_neg (by assumption), if_neg (by assumption), if_neg (by assumption), if_neg (by assumption), if_neg (by assumption), if_neg (by assumption), if_neg (by assumption)]
 rw [e1]
 exact touch0 w0 p mb W s fs sv ev hv S h op d xa xb n m args A c a b (by assumption) (by assumption) (by assumption) (by assumption) (by assumption) (by assumption) (by assumption) (by assumption)
theorem trap_no (e : Int) (he : e = 0) (a : Value) (W : World) :
  Calls Try.prog 63 #[a, .int .i64 e] W fun r W' => r = .returned (.bool false) ∧ W' = W := by
 subst he
 go_enter Try.func63, Try.ntmps63
 go_wp2
 go_ret
 exact ⟨rfl, rfl⟩
set_option maxHeartbeats 4000000 in
theorem trap_yes (w0 : World) (p : SProg) (mb : Nat) (W : World) (s : VSt) (fs : List (Nat × Nat)) (sv ev hv : Value) (S : Nat → Prop) (h : CM w0 p mb W s fs sv ev hv S) (e : Int) (he : e ≠ 0) :
  Calls Try.prog 63 #[.pointer (some ⟨mb, 0, none⟩), .int .i64 e] W fun r W' => r = .returned (.bool true) ∧ CM w0 p mb W' { s with fin := 2, code := e } fs sv ev hv S := by
 have b1 : (e == 0) = false := by simpa using he
 replace he := Aside0.mk he
 obtain ⟨PA, pc, hm, _⟩ := h.blk
 have q0 := blk_frozen hm 4
 have q1 := blk_frozen hm 6
 have q2 : W.cell? ⟨mb, 4, none⟩ = some (.int .i64 s.fin) := blk_cell hm 4
 have q3 : W.cell? ⟨mb, 6, none⟩ = some (.int .i64 s.code) := blk_cell hm 6
 go_enter Try.func63, Try.ntmps63
 go_wp2
 go_ret
 have hk := (KO.set mb 4 W (.int .i64 2)).trans (KO.set mb 6 _ (.int .i64 e))
 refine ⟨rfl, h.setM hk rfl rfl (s1 := { s with fin := 2, code := e }) (hv1 := hv) (h.heap.ko hk h.sm) (fun PA' pc' hm0 => ?_)⟩
 have := (blk_set (blk_set hm0 4 (.int .i64 2)) 6 (.int .i64 e)).trans rfl
 exact this
theorem CM.ptr {w0 : World} {p : SProg} {mb : Nat} {W : World} {s : VSt} {fs : List (Nat × Nat)} {fb vb : Nat} {sv ev hv : Value} {S : Nat → Prop} (h : CM w0 p mb W s ((fb, vb) :: fs) sv ev hv S) : ∃ g c, sv = .slice (some ⟨g, 0, none⟩) (fs.length + 1) c ∧ fs.length + 1 ≤ c ∧ W.cell? ⟨g, fs.length, none⟩ = some (.pointer (some ⟨fb, 0, none⟩)) := by
 obtain ⟨A, c, rfl, hc, _⟩ := h.stack.reads
 obtain ⟨g, cap, hg, _⟩ := Kd.R_form h.stack.out (by simp)
 injection hg with h1 h2 h3
 subst h1
 have hl : (((fb, vb) :: fs).reverse.map fun b => b.1).length = fs.length + 1 := by simp
 rw [hl] at hc
 refine ⟨g, c, by rw [hl], hc, ?_⟩
 obtain ⟨cc, hcl, hM, hcc, _⟩ := Kd.R_elem h.stack.out 0 (fs.length : Int) (by omega) (by rw [hl]; omega)
 have e : (((fb, vb) :: fs).reverse.map fun b => b.1).getD ((fs.length : Int)).toNat 0 = fb := by simp
 rw [e] at hM
 have hM : cc = [.pointer (some ⟨fb, 0, none⟩)] := hM
 subst hM
 have := hcc 0 _ rfl
 simpa [kPtr, Kd.scalar] using this
set_option maxHeartbeats 4000000 in
theorem leave_any (w0 : World) (p : SProg) (mb : Nat) (W : World) (s : VSt) (f : VFr) (r : List VFr) (fb vb : Nat) (fs : List (Nat × Nat)) (sv ev hv : Value) (S : Nat → Prop) (h : CM w0 p mb W s ((fb, vb) :: fs) sv ev hv S) (hst : s.stack = f :: r) (hn : r.length < 60) (hw : Aside0 (∀ g ∈ r, g.want < g.vars.length ∧ g.vars.length ≤ 48)) (v : SVal) :
  Calls Try.prog 79 #[.pointer (some ⟨mb, 0, none⟩), valV v] W fun e W' => e = .returned (.tuple #[]) ∧ ∃ fs1 sv1, CM w0 p mb W' (leaveL s v r) fs1 sv1 ev hv S := by
 obtain ⟨g, c, rfl, hc, hp⟩ := h.ptr
 have hlen : fs.length = r.length := by have := h.len; rw [hst] at this; simpa using this
 obtain ⟨n, hfn⟩ : ∃ n, fs.length = n := ⟨_, rfl⟩
 have hn60 : n < 60 := by omega
 have hsub : IntKind.i64.wrap (((n + 1 : Nat) : Int) - 1) = (n : Int) := by rw [IntKind.wrap_i64]; omega
 have hB := (Bel.refl W).alloc (.cells #[.int .i64 v.f0, .int .i64 v.f1, .int .i64 v.f2] 89)
 have hb0 := heap_alloc_new W (.cells #[.int .i64 v.f0, .int .i64 v.f1, .int .i64 v.f2] 89)
 obtain ⟨b, hb⟩ : ∃ b, W.heap.size = b := ⟨_, rfl⟩
 rw [hb] at hb0
 have hC := h.step hB
 go_enter Try.func79, Try.ntmps79
 go_upto_region 1 with (fail)
 generalize W.alloc (.cells #[.int .i64 v.f0, .int .i64 v.f1, .int .i64 v.f2] 89) = wa at hB hb0 hC ⊢
 obtain ⟨PA, pc, hm, _⟩ := hC.blk
 rw [hfn] at hm hc hp
 have hwn : IntKind.i64.wrap (n : Int) = (n : Int) := by rw [IntKind.wrap_i64]; omega
 have hnc : (n : Int) ≤ (c : Int) := by omega
 have h0n : (0 : Int) ≤ (n : Int) := by omega
 have hBd : Bel wa wa.drew := (Bel.refl wa).drewN 1
 have hm1 := hBd.blk hm
 have q0 := blk_frozen hm1 1
 have q1 : wa.drew.cell? ⟨mb, 1, none⟩ = some (.slice (some ⟨g, 0, none⟩) (n + 1) c) := blk_cell hm1 1
 refine wp_region_last_drew (S := fun w' => w'.cell? ⟨mb, 1, none⟩ = some (.slice (some ⟨g, 0, none⟩) (n + 1) c)) (ds := [14]) (by kernel_rfl) q1 (fun hHeld => ?_)
 refine takeL [0, 1, 2, 3, 4, 5, 6, 7, 8, 9, 10, 11, 12, 13] (by kernel_rfl) (by kernel_rfl) hHeld ?_
 iterate 14 (refine takeI (v := ?_) rfl rfl (fun _ _ _ h => h) (Or.inl ⟨by kernel_rfl, ?_⟩) ?_; rotate_left 1; focus (intro w hSw; (try dsimp only at hSw); go_simp; (try with_reducible rfl); done); try simp only [Act.put, z1, z2, z3, z4, z5, z6])
 refine takeE ?_
 try dsimp only
 refine wpAnyLast_ready (rs := [14]) (by kernel_rfl) (by simp) ?_
 refine AllReadyL.cons_last rfl (by decide) (fun K hK => ?_) AllReadyL.nil
 go_simp
 refine hK.out _ _ ?_
 clear hK K
 try simp only [Act.put, z1, z2, z3, z4, z5, z6]
 refine wpAnyLast_done (by kernel_rfl) ?_ _
 subst hfn
 have hBs : Bel (wa.setCell ⟨mb, 1, none⟩ (.slice (some ⟨g, 0, none⟩) fs.length c)) (wa.setCell ⟨mb, 1, none⟩ (.slice (some ⟨g, 0, none⟩) fs.length c)).drew := (Bel.refl _).drewN 1
 have hP := (hC.pop hst (KO.set mb 1 wa (.slice (some ⟨g, 0, none⟩) fs.length c)) (fun PA' pc' hm0 => (blk_set hm0 1 _).trans rfl)).step hBs
 have hb1 := hBs.blk (blk_far hb0 (p := ⟨mb, 1, none⟩) (two_types hb0 hm (by decide)) (.slice (some ⟨g, 0, none⟩) fs.length c))
 clear hC hBd hm hm1 q0 q1 hHeld hb0 hp hBs
 generalize (wa.setCell ⟨mb, 1, none⟩ (.slice (some ⟨g, 0, none⟩) fs.length c)).drew = wc at hP hb1 ⊢
 obtain ⟨PA1, pc1, hm, _⟩ := hP.blk
 have z1 : wc.cell? ⟨mb, 1, none⟩ = some (.slice (some ⟨g, 0, none⟩) fs.length c) := blk_cell hm 1
 cases r with
 | nil =>
  obtain rfl : fs = [] := List.eq_nil_of_length_eq_zero hlen
  go_upto_region 3 with (fail)
  have q5 := blk_frozen hm 4
  have q6 := blk_frozen hm 5
  have q7 : wc.cell? ⟨mb, 4, none⟩ = some (.int .i64 s.fin) := blk_cell hm 4
  have q8 : wc.cell? ⟨mb, 5, none⟩ = some (.int .i64 s.val) := blk_cell hm 5
  have q4 : wc.cell? ⟨b, 0, none⟩ = some (.int .i64 v.f0) := blk_cell hb1 0
  have hbm : b ≠ mb := two_types hb1 hm (by decide)
  have hmb : mb ≠ b := fun e => hbm e.symm
  go_region_law (fail)
  all_goals
   go_wp2
   refine bodyPost_ret (v := .tuple #[]) (by simp [results, Try.results79, go_sem]) rfl ⟨rfl, [], .slice (some ⟨g, 0, none⟩) 0 c, ?_⟩
   have hk := (KO.set mb 4 wc (.int .i64 1)).trans (KO.set mb 5 _ (.int .i64 v.f0))
   refine CM.step (W := (wc.setCell ⟨mb, 4, none⟩ (.int .i64 1)).setCell ⟨mb, 5, none⟩ (.int .i64 v.f0)) ?_ ((Bel.refl _).drewN _)
   refine hP.setM hk rfl rfl (s1 := leaveL s v []) (hv1 := hv) (hP.heap.ko hk hP.sm) (fun PA' pc' hm0 => ?_)
   have := (blk_set (blk_set hm0 4 (.int .i64 1)) 5 (.int .i64 v.f0)).trans rfl
   exact this
 | cons g0 r0 =>
  obtain ⟨fb1, vb1, fs1, rfl, hfr⟩ := hP.top rfl
  obtain ⟨g', c', hsv, hc', hpt⟩ := hP.ptr
  injection hsv with e1 e2 e3
  injection e1 with e1
  injection e1 with e1
  subst e1 e3
  clear e2
  obtain ⟨⟨hw1, hw2⟩, -⟩ : (g0.want < g0.vars.length ∧ g0.vars.length ≤ 48) ∧ True := ⟨hw.out g0 (List.mem_cons_self ..), trivial⟩
  have hl1 : ((fb1, vb1) :: fs1).length = fs1.length + 1 := rfl
  rw [hl1] at z1 ⊢
  obtain ⟨n, hnn⟩ : ∃ n, fs1.length = n := ⟨_, rfl⟩
  have hn61 : n < 60 := by rw [hl1] at hlen; simp at hn hlen; omega
  rw [hnn] at z1 hpt ⊢
  have hsub1 : IntKind.i64.wrap (((n + 1 : Nat) : Int) - 1) = (n : Int) := by rw [IntKind.wrap_i64]; omega
  have hlt1 : (n : Int) < ((n + 1 : Nat) : Int) := by omega
  obtain ⟨k0, k1, k2, k3, A4, c4, hfr0, _⟩ := hfr.frame
  have z2 : wc.cell? ⟨fb1, 5, none⟩ = some (.slice (some ⟨vb1, 0, none⟩) g0.vars.length g0.vars.length) := blk_cell hfr0 5
  have z3 : wc.cell? ⟨fb1, 8, none⟩ = some (.int .i64 g0.want) := blk_cell hfr0 8
  go_upto_region 4 with (fail)
  go_quiet (fail)
  have hBn : Bel wc (wc.drewN nq) := (Bel.refl wc).drewN nq
  have hP1 := hP.step hBn
  have hb2 := hBn.blk hb1
  clear z1 z2 z3 hpt hm hb1 hfr hfr0 hP
  generalize wc.drewN nq = wd at hP1 hb2 ⊢
  go_upto_region 5 with (fail)
  obtain ⟨_, _, _, q0, hf⟩ := hP1.top rfl
  injection q0 with q0 q1
  cases q0
  obtain ⟨k0, k1, k2, k3, A4, c4, hfr0, _⟩ := hf.frame
  have hv0 := hf.vars
  have hbv : b ≠ vb1 := fun e => by
   have h1 := h.sf (fb1, vb1) (List.mem_cons_of_mem _ (List.mem_cons_self ..))
   have h2 := h.sb _ h1.2
   have h2 : vb1 < W.heap.size := h2
   omega
  have hBd : Bel wd wd.drew := (Bel.refl wd).drewN 1
  have u0 : wd.drew.cell? ⟨fb1, 5, none⟩ = some (.slice (some ⟨vb1, 0, none⟩) g0.vars.length g0.vars.length) := blk_cell (hBd.blk hfr0) 5
  have u1 : wd.drew.cell? ⟨fb1, 8, none⟩ = some (.int .i64 g0.want) := blk_cell (hBd.blk hfr0) 8
  have u2 : wd.drew.cell? ⟨b, 0, none⟩ = some (.int .i64 v.f0) := blk_cell (hBd.blk hb2) 0
  have u3 : wd.drew.cell? ⟨b, 1, none⟩ = some (.int .i64 v.f1) := blk_cell (hBd.blk hb2) 1
  have u4 : wd.drew.cell? ⟨b, 2, none⟩ = some (.int .i64 v.f2) := blk_cell (hBd.blk hb2) 2
  obtain ⟨y0, y1, y2⟩ := hv0.at_ g0.want hw1
  have x0 := blk_frozen hv0 (g0.want * 3)
  have x1 := blk_frozen hv0 (g0.want * 3 + 1)
  have x2 := blk_frozen hv0 (g0.want * 3 + 2)
  have hwl : (g0.want : Int) < (g0.vars.length : Int) := by omega
  have hww : IntKind.i64.wrap (g0.want : Int) = (g0.want : Int) := by rw [IntKind.wrap_i64]; omega
  refine wp_region_last_drew (S := fun w' => w'.cell? ⟨fb1, 5, none⟩ = some (.slice (some ⟨vb1, 0, none⟩) g0.vars.length g0.vars.length) ∧ w'.cell? ⟨fb1, 8, none⟩ = some (.int .i64 g0.want) ∧ w'.cell? ⟨b, 0, none⟩ = some (.int .i64 v.f0) ∧ w'.cell? ⟨b, 1, none⟩ = some (.int .i64 v.f1) ∧ w'.cell? ⟨b, 2, none⟩ = some (.int .i64 v.f2)) (ds := [10]) (by kernel_rfl) ⟨u0, u1, u2, u3, u4⟩ (fun hHeld => ?_)
  refine takeL [0, 1, 2, 3, 4, 5, 6, 7, 8, 9] (by kernel_rfl) (by kernel_rfl) hHeld ?_
  iterate 10 (refine takeI (v := ?_) rfl rfl (fun _ _ _ h => h) (Or.inl ⟨by kernel_rfl, ?_⟩) ?_; rotate_left 1; focus (intro w hSw; (try dsimp only at hSw); go_simp; (try with_reducible rfl); done); try simp only [Act.put, z1, z2, z3, z4, z5, z6])
  refine takeE ?_
  try dsimp only
  refine wpAnyLast_ready (rs := [10]) (by kernel_rfl) (by simp) ?_
  refine AllReadyL.cons_last rfl (by decide) (fun K hK => ?_) AllReadyL.nil
  go_simp
  refine hK.out _ _ ?_
  clear hK K
  try simp only [Act.put, z1, z2, z3, z4, z5, z6]
  refine wpAnyLast_done (by kernel_rfl) ?_ _
  go_wp2
  go_end0
  exact ⟨rfl, (fb1, vb1) :: fs1, _, CM.step (hP1.setV (f := g0) (r := r0) rfl (by simp) (KO.set3 vb1 _ _ _ wd _ _ _) (hv0.put g0.want hw1 v)) ((Bel.refl _).drewN 1)⟩
theorem info_Val : (Try.prog.info? 89).map (fun i => (i.zero, i.size, i.bytes)) = some (some (.agg #[.int .i64 0, .int .i64 0, .int .i64 0]), 3, 24) := by kernel_rfl
theorem zeros_cells (n : Nat) : valCells (List.replicate n zVal) = List.replicate (n * 3) (.int .i64 0) := by
 induction n with
 | zero => rfl
 | succ n ih =>
  have e : valCells (zVal :: List.replicate n zVal) = .int .i64 0 :: .int .i64 0 :: .int .i64 0 :: valCells (List.replicate n zVal) := rfl
  rw [List.replicate_succ, e, ih, show (n + 1) * 3 = n * 3 + 1 + 1 + 1 by omega]
  rfl
theorem make_vals (n : Nat) (hn : n ≤ 1000000) (W : World) : (Instr.makeSlice 60 (.int .i64 (n : Int)) (.int .i64 (n : Int))).run Try.prog W = .ok (.slice (some ⟨W.heap.size, 0, none⟩) n n) (W.alloc (.cells (valCells (List.replicate n zVal)).toArray 89)) := by
 obtain ⟨i0, hi, hz0, hz1, hz2⟩ := info_parts info_Val
 have h := run_make (P := Try.prog) W 60 89 i0 (.agg #[.int .i64 0, .int .i64 0, .int .i64 0]) Try.underlying60 hi hz0 .i64 .i64 (n : Int) (n : Int) (by omega) (by omega) (by rw [hz2]; omega) (by omega)
 rw [h, hz1, zeros_cells]
 have e : madeCells (Value.agg #[.int .i64 0, .int .i64 0, .int .i64 0]).cells ((n : Int).toNat * 3) = (List.replicate (n * 3) (Value.int .i64 0)).toArray := by
  have hc : (Value.agg #[.int .i64 0, .int .i64 0, .int .i64 0]).cells = #[.int .i64 0, .int .i64 0, .int .i64 0] := by simp [Value.cells]
  rw [hc]
  refine Array.ext (by simp [madeCells]) fun j h1 h2 => ?_
  simp only [madeCells, Array.getElem_map, Array.getElem_range, List.getElem_toArray, List.getElem_replicate]
  have h3 : j % (#[Value.int .i64 0, .int .i64 0, .int .i64 0] : Array Value).size < 3 := Nat.mod_lt _ (by decide)
  generalize j % (#[Value.int .i64 0, .int .i64 0, .int .i64 0] : Array Value).size = k at h3
  match k, h3 with
  | 0, _ => rfl
  | 1, _ => rfl
  | 2, _ => rfl
 rw [e]
 rfl
theorem vals_read {w : World} {ad : Addr} {n : Nat} {xs : List SVal} (h : Kd.C kVal w (some ad) n xs) : ∀ j v, (valCells xs)[j]? = some v → w.cell? (ad.add j) = some v := by
 intro j v hj
 have hlt : j < 3 * xs.length := by
  obtain ⟨hl, _⟩ := List.getElem?_eq_some_iff.1 hj
  rwa [valCells_len] at hl
 have hn := h.1
 obtain ⟨i, k, hi, hk, rfl⟩ : ∃ i k, i < xs.length ∧ k < 3 ∧ j = i * 3 + k := ⟨j / 3, j % 3, by omega, by omega, by omega⟩
 obtain ⟨ad', c, e', hl, hK, hc⟩ := Kd.C_get h zVal (i : Int) (by omega) (by omega)
 injection e' with e'
 subst e'
 rw [show (i : Int).toNat = i from rfl, List.getD_eq_getElem?_getD, List.getElem?_eq_getElem hi, Option.getD_some] at hK
 rw [show (i : Int).toNat = i from rfl] at hc
 have hk2 := kVal_open hK
 subst hk2
 obtain ⟨h0, h1, h2⟩ := valCells_at xs i hi
 rw [show kVal.sz = 3 from rfl] at hc
 match k, hk with
 | 0, _ => rw [show i * 3 + 0 = i * 3 from rfl, h0] at hj; injection hj with hj; rw [← hj]; exact hc 0 _ rfl
 | 1, _ => rw [h1] at hj; injection hj with hj; rw [← hj]; exact hc 1 _ rfl
 | 2, _ => rw [h2] at hj; injection hj with hj; rw [← hj]; exact hc 2 _ rfl
theorem KO.row (g : Nat) (w : World) (cs : Array Value) : KO g w (w.setRow g cs) :=
 ⟨fun i _ hn => setRow_other w g i cs hn, below_setRow (Below.refl g w) (Nat.le_refl g) cs⟩
theorem valCells_one (vs : List SVal) : ∀ v ∈ valCells vs, v.oneCell' = true := by
 intro v hv
 unfold valCells at hv
 obtain ⟨u, _, hu⟩ := List.mem_flatMap.1 hv
 simp only [List.mem_cons, List.not_mem_nil, or_false] at hu
 rcases hu with rfl | rfl | rfl <;> rfl
theorem valCells_app (vs us : List SVal) : valCells (vs ++ us) = valCells vs ++ valCells us := by simp [valCells]
theorem valCells_drop (vs : List SVal) : ∀ k, (valCells vs).drop (3 * k) = valCells (vs.drop k) := by
 induction vs with
 | nil => intro k; simp [valCells]
 | cons v r ih =>
  intro k
  cases k with
  | zero => rfl
  | succ k =>
   have e : valCells (v :: r) = .int .i64 v.f0 :: .int .i64 v.f1 :: .int .i64 v.f2 :: valCells r := rfl
   rw [e, show 3 * (k + 1) = 3 * k + 1 + 1 + 1 by omega]
   simpa using ih k
theorem copy_vals (w : World) (g : Nat) (dvs args : List SVal) (hg : ValsAt w g dvs) (A : Option Addr) (c : Nat) (hR : Rd kVal w A args) (hle : args.length ≤ dvs.length) :
  ∃ w1, (∀ ty, (Builtin.copy_ #[60, 60] ty #[.slice (some ⟨g, 0, none⟩) dvs.length dvs.length, .slice A args.length c]).run Try.prog w = .ok (.int .i64 (args.length : Int)) w1) ∧ ValsAt w1 g (args ++ dvs.drop args.length) ∧ KO g w w1 := by
 obtain ⟨i0, hi, hz0, hz1, hz2⟩ := info_parts info_Val
 have hmin : Nat.min args.length dvs.length = args.length := Nat.min_eq_left hle
 cases args with
 | nil =>
  refine ⟨w, fun ty => ?_, hg, KO.refl _ _⟩
  have hl : ∀ (x : Addr), (loadCells x 0).run Try.prog w = .ok #[] w := fun x => by simpa using run_loadCells_list (P := Try.prog) w x [] (by simp)
  cases A <;> simp [Builtin.copy_, run_underlying Try.underlying60, Builtin.lenOf, Builtin.firstCells, sizeOf, typeInfo, hi, hz1, storeCells, hl, goInt]
 | cons a r =>
  obtain ⟨ad, rfl, _⟩ := hR.out.2.2 (by simp)
  have hl := run_loadCells_list (P := Try.prog) w ad (valCells (a :: r)) (vals_read hR.out)
  have hst := run_storeCells_at Try.prog g 0 89 (valCells (a :: r)) 0 _ w hg (by simp only [valCells_len, List.size_toArray]; omega) (valCells_one _)
  have e1 : ((valCells dvs).toArray.toList.take (0 + 0) ++ valCells (a :: r) ++ (valCells dvs).toArray.toList.drop (0 + 0 + (valCells (a :: r)).length)) = valCells ((a :: r) ++ dvs.drop (a :: r).length) := by
   simp only [List.take_zero, List.nil_append, valCells_len, Nat.zero_add, valCells_drop, valCells_app]
  rw [e1] at hst
  refine ⟨w.setRow g (valCells ((a :: r) ++ dvs.drop (a :: r).length)).toArray, fun ty => ?_, setRow_heap w g _ _ _ (0, 0) hg, KO.row g w _⟩
  rw [valCells_len] at hl
  rw [Nat.mul_comm] at hl
  generalize a :: r = l at *
  simp [Builtin.copy_, run_underlying Try.underlying60, Builtin.lenOf, Builtin.firstCells, sizeOf, typeInfo, hi, hz1, hmin, hl, hst, goInt]
theorem ins_at {W : World} {A : Option Addr} {l : List SIns} (h : Rd kIns W A l) (k : Nat) (hk : k < l.length) : ∃ ad A6 c6, A = some ad ∧ W.cell? (ad.add (k * 7)) = some (.int .i64 (l[k]).f0) ∧ W.cell? ⟨(ad.add (k * 7)).block, (ad.add (k * 7)).off + 1, none⟩ = some (.int .i64 (l[k]).f1) ∧ W.cell? ⟨(ad.add (k * 7)).block, (ad.add (k * 7)).off + 2, none⟩ = some (.int .i64 (l[k]).f2) ∧ W.cell? ⟨(ad.add (k * 7)).block, (ad.add (k * 7)).off + 3, none⟩ = some (.int .i64 (l[k]).f3) ∧ W.cell? ⟨(ad.add (k * 7)).block, (ad.add (k * 7)).off + 4, none⟩ = some (.int .i64 (l[k]).f4) ∧ W.cell? ⟨(ad.add (k * 7)).block, (ad.add (k * 7)).off + 5, none⟩ = some (.int .i64 (l[k]).f5) ∧ W.cell? ⟨(ad.add (k * 7)).block, (ad.add (k * 7)).off + 6, none⟩ = some (.slice A6 (l[k]).f6.length c6) ∧ (l[k]).f6.length ≤ c6 ∧ RdI W A6 (l[k]).f6 := by
 obtain ⟨ad, A6, c6, e, h0, h1, h2, h3, h4, h5, h6, hl, hR⟩ := at_TIns h.out (k : Int) (by omega) (by omega)
 have e1 : rd_TIns l (k : Int) = l[k] := by simp [rd_TIns, List.getD_eq_getElem?_getD, List.getElem?_eq_getElem hk]
 rw [e1] at h0 h1 h2 h3 h4 h5 h6 hl hR
 simp only [Int.toNat_natCast] at h0 h1 h2 h3 h4 h5 h6
 exact ⟨ad, A6, c6, e, h0, h1, h2, h3, h4, h5, h6, hl, ⟨hR⟩⟩
theorem block_at {W : World} {A : Option Addr} {l : List SBlock} (h : Rd kBlock W A l) (k : Nat) (hk : k < l.length) : ∃ ad A0 c0, A = some ad ∧ W.cell? (ad.add k) = some (.slice A0 (l[k]).f0.length c0) ∧ (l[k]).f0.length ≤ c0 ∧ Rd kIns W A0 (l[k]).f0 := by
 obtain ⟨ad, A0, c0, e, h0, hl, hR⟩ := at_TBlock h.out (k : Int) (by omega) (by omega)
 have e1 : rd_TBlock l (k : Int) = l[k] := by simp [rd_TBlock, List.getD_eq_getElem?_getD, List.getElem?_eq_getElem hk]
 rw [e1] at h0 hl hR
 simp only [Int.toNat_natCast] at h0
 exact ⟨ad, A0, c0, e, h0, hl, ⟨hR⟩⟩
theorem func_at {W : World} {A : Option Addr} {l : List SFunc} (h : Rd kFunc W A l) (k : Nat) (hk : k < l.length) : ∃ ad A0 A1 A4 c0 c1 c4, A = some ad ∧ W.cell? (ad.add (k * 5)) = some (.slice A0 (l[k]).f0.length c0) ∧ W.cell? ⟨(ad.add (k * 5)).block, (ad.add (k * 5)).off + 1, none⟩ = some (.slice A1 (l[k]).f1.length c1) ∧ W.cell? ⟨(ad.add (k * 5)).block, (ad.add (k * 5)).off + 2, none⟩ = some (.int .i64 (l[k]).f2) ∧ W.cell? ⟨(ad.add (k * 5)).block, (ad.add (k * 5)).off + 3, none⟩ = some (.int .i64 (l[k]).f3) ∧ W.cell? ⟨(ad.add (k * 5)).block, (ad.add (k * 5)).off + 4, none⟩ = some (.slice A4 (l[k]).f4.length c4) ∧ RdI W A0 (l[k]).f0 ∧ RdI W A1 (l[k]).f1 ∧ Rd kBlock W A4 (l[k]).f4 ∧ (l[k]).f0.length ≤ c0 ∧ (l[k]).f1.length ≤ c1 ∧ (l[k]).f4.length ≤ c4 := by
 obtain ⟨ad, A0, c0, A1, c1, A4, c4, hh⟩ := at_TFunc h.out (k : Int) (by omega) (by omega)
 have e1 : rd_TFunc l (k : Int) = l[k] := by simp [rd_TFunc, List.getD_eq_getElem?_getD, List.getElem?_eq_getElem hk]
 rw [e1] at hh
 simp only [Int.toNat_natCast] at hh
 obtain ⟨e, h0, h1, h2, h3, h4, l0, g0, l1, g1, l4, g4⟩ := hh
 exact ⟨ad, A0, A1, A4, c0, c1, c4, e, h0, h1, h2, h3, h4, ⟨g0⟩, ⟨g1⟩, ⟨g4⟩, l0, l1, l4⟩
theorem info_ptr : (Try.prog.info? 120).map (fun i => (i.zero, i.size, i.bytes)) = some (some (.pointer none), 1, 8) := by kernel_rfl
section
variable {ops : Array Oper} {rest : List Oper} {o : Oper} {a : Act} {Q : Exit → Act → World → Prop}
theorem app_ptr {base : Nat} {W : World} {v : Value} {xs : List Nat} (b : Nat) (HO : OwnAt kPtr 120 base W v xs) (hbase : base ≤ W.heap.size) (hgd : o.guard = none) (s x : Operand)
  (ho : o.op = .call { callee := .builtin .append, args := #[s, x], argTypes := #[65, 65] })
  (hl : xs.length ≤ 100000) (hs : a.eval s = v) (hx : a.eval x = .slice (some ⟨W.heap.size, 0, none⟩) 1 1)
  (h : ∀ v1 w1, OwnAt kPtr 120 base w1 v1 (xs ++ [b]) → W.grownBy w1 v.ownBlock → (v1.ownBlock = v.ownBlock ∨ ∃ b, v1.ownBlock = some b ∧ W.heap.size ≤ b) → wpList Try.prog ops Q rest (a.put o.dst v1) w1) :
  wpList Try.prog ops Q (o :: rest) a (W.alloc (.cells #[.pointer (some ⟨b, 0, none⟩)] 120)) := by
 refine Kd.R_append kPtr (w0 := W) base hgd s x 65 120 (.pointer none) 8 ho Try.underlying65 info_ptr rfl (by decide) (by omega) v xs b [.pointer (some ⟨b, 0, none⟩)] (fun _ => True) (fun _ => False) hs hx rfl (fun _ hk => hk.elim) (fun _ _ => trivial) HO.out (Below.refl _ _) hbase (by omega) ?_
 intro v1 w1 ho hb hg hat
 exact h v1 w1 ⟨ho⟩ hg hat
end
set_option maxHeartbeats 4000000 in
theorem enter_any (w0 : World) (p : SProg) (mb : Nat) (W : World) (s : VSt) (fs : List (Nat × Nat)) (sv ev hv : Value) (S : Nat → Prop) (h : CM w0 p mb W s fs sv ev hv S) (fn : Nat) (hfn : fn < p.f0.length) (hf8 : p.f0.length ≤ 100) (args : List SVal) (A : Option Addr) (c : Nat) (hR : Rd kVal W A args)
  (hl : args.length ≤ (fnAt p fn).f0.length) (h48 : (fnAt p fn).f0.length ≤ 48) (hn : s.stack.length ≤ 100) :
  Calls Try.prog 41 #[.pointer (some ⟨mb, 0, none⟩), .int .i64 fn, .slice A args.length c] W fun e W' => e = .returned (.tuple #[]) ∧ ∃ fs1 sv1 S1, CM w0 p mb W' { s with stack := beginL p fn args :: s.stack } fs1 sv1 ev hv S1 := by
 obtain ⟨PA, pc, hm, hP⟩ := h.blk
 obtain ⟨ad, A0, A1, A4, c0, c1, c4, rfl, y0, y1, y2, y3, y4, r0, r1, r4, l0, l1, l4⟩ := func_at hP fn hfn
 replace y0 := Bel.cell h.bel y0
 replace y1 := Bel.cell h.bel y1
 replace y2 := Bel.cell h.bel y2
 replace y3 := Bel.cell h.bel y3
 replace y4 := Bel.cell h.bel y4
 have hlen := h.len
 have ef : p.f0[fn] = fnAt p fn := by unfold fnAt; rw [List.getD_eq_getElem?_getD, List.getElem?_eq_getElem hfn]; rfl
 rw [ef] at y0 y1 y2 y3 y4 r0 r1 r4 l0 l1 l4
 have z0 : W.cell? ⟨mb, 0, none⟩ = some (.slice (some ad) p.f0.length pc) := blk_cell hm 0
 have hlt : (fn : Int) < (p.f0.length : Int) := by omega
 obtain ⟨nv, hnv⟩ : ∃ nv, (fnAt p fn).f0.length = nv := ⟨_, rfl⟩
 obtain ⟨b, hb⟩ : ∃ b, W.heap.size = b := ⟨_, rfl⟩
 have hB := (Bel.refl W).alloc (.cells #[.slice A0 nv c0, .slice A1 (fnAt p fn).f1.length c1, .int .i64 (fnAt p fn).f2, .int .i64 (fnAt p fn).f3, .slice A4 (fnAt p fn).f4.length c4] 52)
 have hb0 : (W.alloc (.cells #[.slice A0 nv c0, .slice A1 (fnAt p fn).f1.length c1, .int .i64 (fnAt p fn).f2, .int .i64 (fnAt p fn).f3, .slice A4 (fnAt p fn).f4.length c4] 52)).heap[b]? = some (.cells #[.slice A0 nv c0, .slice A1 (fnAt p fn).f1.length c1, .int .i64 (fnAt p fn).f2, .int .i64 (fnAt p fn).f3, .slice A4 (fnAt p fn).f4.length c4] 52 (0, 0)) := heap_new' hb.symm
 go_enter Try.func41, Try.ntmps41
 go_upto_region 1 with (fail)
 generalize W.alloc (.cells #[.slice A0 nv c0, .slice A1 (fnAt p fn).f1.length c1, .int .i64 (fnAt p fn).f2, .int .i64 (fnAt p fn).f3, .slice A4 (fnAt p fn).f4.length c4] 52) = wa at hB hb0 ⊢
 clear y0 y1 y2 y3 y4 z0
 have hmv := make_vals nv (by omega)
 have z0 : wa.cell? ⟨b, 0, none⟩ = some (.slice A0 nv c0) := blk_cell hb0 0
 have z1 : wa.cell? ⟨b, 1, none⟩ = some (.slice A1 (fnAt p fn).f1.length c1) := blk_cell hb0 1
 have z2 : wa.cell? ⟨b, 2, none⟩ = some (.int .i64 (fnAt p fn).f2) := blk_cell hb0 2
 have z3 : wa.cell? ⟨b, 3, none⟩ = some (.int .i64 (fnAt p fn).f3) := blk_cell hb0 3
 have z4 : wa.cell? ⟨b, 4, none⟩ = some (.slice A4 (fnAt p fn).f4.length c4) := blk_cell hb0 4
 obtain ⟨g, hg⟩ : ∃ g, wa.heap.size = g := ⟨_, rfl⟩
 have x0 : ∀ o, (wa.alloc o).cell? ⟨b, 0, none⟩ = some (.slice A0 nv c0) := fun o => Bel.cell ((Bel.refl wa).alloc o) z0
 have x1 : ∀ o, (wa.alloc o).cell? ⟨b, 1, none⟩ = some (.slice A1 (fnAt p fn).f1.length c1) := fun o => Bel.cell ((Bel.refl wa).alloc o) z1
 have x2 : ∀ o, (wa.alloc o).cell? ⟨b, 2, none⟩ = some (.int .i64 (fnAt p fn).f2) := fun o => Bel.cell ((Bel.refl wa).alloc o) z2
 have x3 : ∀ o, (wa.alloc o).cell? ⟨b, 3, none⟩ = some (.int .i64 (fnAt p fn).f3) := fun o => Bel.cell ((Bel.refl wa).alloc o) z3
 have x4 : ∀ o, (wa.alloc o).cell? ⟨b, 4, none⟩ = some (.slice A4 (fnAt p fn).f4.length c4) := fun o => Bel.cell ((Bel.refl wa).alloc o) z4
 go_cut [7, 16, 17, 18, 19, 20, 21, 22] (fun v7 _ _ _ _ _ _ _ W1 => v7 = .pointer (some ⟨g + 1, 0, none⟩) ∧ W1.heap[g + 1]? = some (.cells #[.slice A0 nv c0, .slice A1 (fnAt p fn).f1.length c1, .int .i64 (fnAt p fn).f2, .int .i64 (fnAt p fn).f3, .slice A4 (fnAt p fn).f4.length c4, .slice (some ⟨g, 0, none⟩) nv nv, .int .i64 0, .int .i64 0, .int .i64 0] 122 (0, 0)) ∧ ValsAt W1 g (List.replicate nv zVal) ∧ Bel wa W1)
 case first =>
  go_region_law (fail)
  all_goals
   go_wp2
   go_meet
  all_goals
   case rel =>
    have hBq := (((Bel.refl wa).alloc (.cells (valCells (List.replicate nv zVal)).toArray 89)).alloc (.cells #[.slice A0 nv c0, .slice A1 (fnAt p fn).f1.length c1, .int .i64 (fnAt p fn).f2, .int .i64 (fnAt p fn).f3, .slice A4 (fnAt p fn).f4.length c4, .slice (some ⟨g, 0, none⟩) nv nv, .int .i64 0, .int .i64 0, .int .i64 0] 122)).drewN 1
    exact ⟨rfl, heap_new' (by simp [hg]), heap_old (heap_new' hg.symm), hBq⟩
 case rest =>
  obtain ⟨rfl, hfr, hvs, hBc⟩ := hcut
  clear hmv x0 x1 x2 x3 x4 z0 z1 z2 z3 z4
  have hBW := hB.trans hBc
  obtain ⟨w1, hcp, hv1, hK1⟩ := copy_vals wc g (List.replicate nv zVal) args hvs A c (hR.step hBW) (by simp; omega)
  rw [List.length_replicate] at hcp
  have hgW : W.heap.size ≤ g := by have := hB.size; omega
  have hB1 : Bel W w1 := hK1.bel hBW hgW
  have hC1 := h.step hB1
  have hfr1 := hK1.blk hfr (by omega)
  obtain ⟨PA', pc', hm1, _⟩ := hC1.blk
  have z0 : wc.cell? ⟨g + 1, 5, none⟩ = some (.slice (some ⟨g, 0, none⟩) nv nv) := blk_cell hfr 5
  have z1 : w1.cell? ⟨mb, 1, none⟩ = some sv := blk_cell hm1 1
  have hst := hC1.stack
  have hbase := hC1.bel.size
  have hl1 : (fs.reverse.map fun b => b.1).length ≤ 100000 := by simp; omega
  have hnm := hst.ne hm1 (by decide)
  go_wp2_with (refine app_ptr (g + 1) hst hbase rfl _ _ rfl hl1 rfl rfl ?_; intro v1 w2 ho2 hg2 hat2; obtain ⟨A9, c9, rfl, _, _⟩ := ho2.reads; have hm2 := (hg2.block mb (blk_lt hm1) (fun e => hnm e.symm)).trans hm1; have q0 := blk_frozen hm2 1; have q1 : w2.cell? ⟨mb, 1, none⟩ = some sv := blk_cell hm2 1)
  go_end0
  have hvl : (beginL p fn args).vars = args ++ (List.replicate nv zVal).drop args.length := by
   show args ++ List.replicate ((fnAt p fn).f0.length - args.length) zVal = _
   rw [hnv, List.drop_replicate]
  have hvn : (beginL p fn args).vars.length = nv := by rw [hvl]; simp; omega
  have hFr : FrAt w0 p w1 (g + 1, g) (beginL p fn args) := ⟨⟨_, _, _, _, A4, c4, by rw [hvn]; exact hfr1, r4⟩, by rw [hvl]; exact hv1⟩
  obtain ⟨S1, hz⟩ := h.push (f := beginL p fn args) hB1 hFr (Nat.le_succ_of_le hgW) hgW ho2 hg2 hat2 (KO.set mb 1 w2 _) (fun PA2 pc2 hm0 => (blk_set hm0 1 _).trans rfl)
  have e9 : ((fs.reverse.map fun b => b.1) ++ [g + 1]).length = s.stack.length + 1 := by simp [hlen]
  rw [e9] at hz
  exact ⟨rfl, _, _, S1, hz⟩
end Go.Proofs.Ytodjpbidjldblaa.H
