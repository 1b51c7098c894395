/- Texts of this work, joined. Conditions: each stands with its theorem. -/
import Derived.Test.YtodjpbidjldblaaX06
/- Layer 1, law10, run: instructions of the heap, all of them. -/
namespace Go.Proofs.Ytodjpbidjldblaa.H
open Go.RowKit Go.Proofs.YtodjpbidjldblaaW.PrintWords Go.Proofs.YtodjpbidjldblaaW.PrintLast
set_option linter.unusedVariables false
set_option linter.unusedSimpArgs false
set_option maxRecDepth 100000
set_option maxHeartbeats 4000000 in
theorem touch10 (w0 : World) (p : SProg) (mb : Nat) (W : World) (s : VSt) (fs : List (Nat × Nat)) (sv ev hv : Value) (S : Nat → Prop) (h : CM w0 p mb W s fs sv ev hv S) (hp : Aside0 (HeapP s.heap)) (hl : s.heap.length ≤ 100000) (d xa xb : Int) (n m : Nat) (args : List Int) (A : Option Addr) (c : Nat) (a b : SVal) (hn : n ≤ 8) (hm8 : m ≤ 8) :
    Calls Try.prog 61 #[.pointer (some ⟨mb, 0, none⟩), insV ⟨10, d, xa, xb, n, m, args⟩ A c, valV a, valV b] W (TouchIs w0 p mb s fs sv ev S W (some (s.heap ++ [⟨List.replicate n 0, List.replicate m 0⟩], ⟨0, s.heap.length + 1, 0⟩, 0))) := by
  have hS0 := Aside0.mk h.sb
  have hB : Bel W ((((W.alloc (.cells #[.int .i64 10, .int .i64 d, .int .i64 xa, .int .i64 xb, .int .i64 n, .int .i64 m, .slice A args.length c] 57)).alloc (.cells #[.int .i64 a.f0, .int .i64 a.f1, .int .i64 a.f2] 89)).alloc (.cells #[.int .i64 b.f0, .int .i64 b.f1, .int .i64 b.f2] 89)).alloc (.cells #[.int .i64 0, .int .i64 0, .int .i64 0] 89)) := ((((Bel.refl W).alloc _).alloc _).alloc _).alloc _
  obtain ⟨g, hg⟩ : ∃ g, W.heap.size = g := ⟨_, rfl⟩
  have hb0 : ((((W.alloc (.cells #[.int .i64 10, .int .i64 d, .int .i64 xa, .int .i64 xb, .int .i64 n, .int .i64 m, .slice A args.length c] 57)).alloc (.cells #[.int .i64 a.f0, .int .i64 a.f1, .int .i64 a.f2] 89)).alloc (.cells #[.int .i64 b.f0, .int .i64 b.f1, .int .i64 b.f2] 89)).alloc (.cells #[.int .i64 0, .int .i64 0, .int .i64 0] 89)).heap[g]? = some (.cells #[.int .i64 10, .int .i64 d, .int .i64 xa, .int .i64 xb, .int .i64 n, .int .i64 m, .slice A args.length c] 57 (0, 0)) := heap_old (heap_old (heap_old (heap_new' hg.symm)))
  have hb1 : ((((W.alloc (.cells #[.int .i64 10, .int .i64 d, .int .i64 xa, .int .i64 xb, .int .i64 n, .int .i64 m, .slice A args.length c] 57)).alloc (.cells #[.int .i64 a.f0, .int .i64 a.f1, .int .i64 a.f2] 89)).alloc (.cells #[.int .i64 b.f0, .int .i64 b.f1, .int .i64 b.f2] 89)).alloc (.cells #[.int .i64 0, .int .i64 0, .int .i64 0] 89)).heap[g + 1]? = some (.cells #[.int .i64 a.f0, .int .i64 a.f1, .int .i64 a.f2] 89 (0, 0)) := heap_old (heap_old (heap_new' (by simp [hg])))
  have hbb : ((((W.alloc (.cells #[.int .i64 10, .int .i64 d, .int .i64 xa, .int .i64 xb, .int .i64 n, .int .i64 m, .slice A args.length c] 57)).alloc (.cells #[.int .i64 a.f0, .int .i64 a.f1, .int .i64 a.f2] 89)).alloc (.cells #[.int .i64 b.f0, .int .i64 b.f1, .int .i64 b.f2] 89)).alloc (.cells #[.int .i64 0, .int .i64 0, .int .i64 0] 89)).heap[g + 1 + 1]? = some (.cells #[.int .i64 b.f0, .int .i64 b.f1, .int .i64 b.f2] 89 (0, 0)) := heap_old (heap_new' (by simp [hg]))
  have hb2 : ((((W.alloc (.cells #[.int .i64 10, .int .i64 d, .int .i64 xa, .int .i64 xb, .int .i64 n, .int .i64 m, .slice A args.length c] 57)).alloc (.cells #[.int .i64 a.f0, .int .i64 a.f1, .int .i64 a.f2] 89)).alloc (.cells #[.int .i64 b.f0, .int .i64 b.f1, .int .i64 b.f2] 89)).alloc (.cells #[.int .i64 0, .int .i64 0, .int .i64 0] 89)).heap[g + 1 + 1 + 1]? = some (.cells #[.int .i64 0, .int .i64 0, .int .i64 0] 89 (0, 0)) := heap_new' (by simp [hg])
  have hC := h.step hB
  go_enter Try.func61, Try.ntmps61
  go_upto_region 1 with (fail)
  generalize ((((W.alloc (.cells #[.int .i64 10, .int .i64 d, .int .i64 xa, .int .i64 xb, .int .i64 n, .int .i64 m, .slice A args.length c] 57)).alloc (.cells #[.int .i64 a.f0, .int .i64 a.f1, .int .i64 a.f2] 89)).alloc (.cells #[.int .i64 b.f0, .int .i64 b.f1, .int .i64 b.f2] 89)).alloc (.cells #[.int .i64 0, .int .i64 0, .int .i64 0] 89)) = wa at hB hb0 hb1 hbb hb2 hC ⊢
  obtain ⟨r, hr⟩ : ∃ r, g + 1 + 1 + 1 = r := ⟨_, rfl⟩
  rw [hr] at hb2 ⊢
  have hgr : Aside0 (W.heap.size ≤ r) := ⟨by omega⟩
  obtain ⟨PA, pc, hm, _⟩ := hC.blk
  obtain ⟨A1, c1, hve, hc1, hF0⟩ := h.heap.reads
  subst hve
  have hF1 := hF0.step hB
  replace hr := Aside0.mk hr
  replace hg := Aside0.mk hg
  have z0 : wa.cell? ⟨g, 0, none⟩ = some (.int .i64 10) := blk_cell hb0 0
  have y2 : wa.cell? ⟨mb, 2, none⟩ = some (.slice A1 s.heap.length c1) := blk_cell hm 2
  have z1 : wa.cell? ⟨g, 4, none⟩ = some (.int .i64 (n : Int)) := blk_cell hb0 4
  have z3 : wa.cell? ⟨g, 5, none⟩ = some (.int .i64 (m : Int)) := blk_cell hb0 5
  obtain ⟨S1, hS1⟩ := more_out S g 4
  have H1 : RdF S1 W A1 s.heap := ⟨Kd.F_mono (Kd.F_bound hF0.out) (fun k hk q => by rcases (hS1 k).1 q with q | q; exact hk.1 q; have := hk.2; have := hg.out; omega)⟩
  have hS2 : Aside0 (∀ k, S1 k → k < wa.heap.size) := ⟨fun k hk => by
    have h3 := blk_lt hb2
    have h4 := hr.out
    rcases (hS1 k).1 hk with q | q
    · have := hS0.out k q
      have := hB.size
      omega
    · omega⟩
  replace hS1 := Aside0.mk hS1
  have hcl := Aside0.mk (fun X (q : Bel wa X) => Alloc_ok S1 A1 c1 s.heap n m X ⟨fun k hk => Nat.lt_of_lt_of_le (hS2.out k hk) q.size⟩ ((H1.step hB).step q) hc1 hp (by omega) hn hm8)
  have hmr : mb ≠ r := two_types hm hb2 (by decide)
  obtain ⟨l1, hl1⟩ : ∃ l1, s.heap ++ [(⟨List.replicate n 0, List.replicate m 0⟩ : SObj)] = l1 := ⟨_, rfl⟩
  obtain ⟨N, hN⟩ : ∃ N : Int, ((s.heap.length + 1 : Nat) : Int) = N := ⟨_, rfl⟩
  simp only [hl1, hN] at hcl
  replace hl1 := Aside0.mk hl1
  replace hN := Aside0.mk hN
  go_upto_region 4 with (fail)
  have hBd : Bel wa wa.drew := (Bel.refl wa).drewN 1
  have hS := Aside0.mk (fun (X : World) (q : Bel wa X) => And.intro (Bel.cell q y2) (And.intro (Bel.cell q z1) (Bel.cell q z3)))
  clear y2 z1 z3 z0 H1 hF1
  refine wp_region_last_drew (S := fun w' => w'.cell? ⟨mb, 2, none⟩ = some (.slice A1 s.heap.length c1) ∧ w'.cell? ⟨g, 4, none⟩ = some (.int .i64 (n : Int)) ∧ w'.cell? ⟨g, 5, none⟩ = some (.int .i64 (m : Int))) (ds := [16, 18]) (by kernel_rfl) (hS.out _ hBd) (fun hHeld => ?_)
  refine wpAnyLast_take (i := 0) (v := ?_) rfl (by kernel_rfl) (by kernel_rfl) (by kernel_rfl) (by kernel_rfl) (by kernel_rfl) (fun _ _ _ h => h) (Or.inl ⟨by kernel_rfl, ?_⟩) hHeld ?_
  rotate_left 1
  focus (intro w hSw; (try dsimp only at hSw); go_simp; (try with_reducible rfl); done)
  try simp only [Act.put, List.getElem_toArray, List.getElem_cons_zero, List.getElem_cons_succ, List.setIfInBounds_toArray, List.set_cons_zero, List.set_cons_succ]
  refine wpAnyLast_take (i := 1) (v := ?_) rfl (by kernel_rfl) (by kernel_rfl) (by kernel_rfl) (by kernel_rfl) (by kernel_rfl) (fun _ _ _ h => h) (Or.inl ⟨by kernel_rfl, ?_⟩) hHeld ?_
  rotate_left 1
  focus (intro w hSw; (try dsimp only at hSw); go_simp; (try with_reducible rfl); done)
  try simp only [Act.put, List.getElem_toArray, List.getElem_cons_zero, List.getElem_cons_succ, List.setIfInBounds_toArray, List.set_cons_zero, List.set_cons_succ]
  refine wpAnyLast_take (i := 2) (v := ?_) rfl (by kernel_rfl) (by kernel_rfl) (by kernel_rfl) (by kernel_rfl) (by kernel_rfl) (fun _ _ _ h => h) (Or.inl ⟨by kernel_rfl, ?_⟩) hHeld ?_
  rotate_left 1
  focus (intro w hSw; (try dsimp only at hSw); go_simp; (try with_reducible rfl); done)
  try simp only [Act.put, List.getElem_toArray, List.getElem_cons_zero, List.getElem_cons_succ, List.setIfInBounds_toArray, List.set_cons_zero, List.set_cons_succ]
  refine wpAnyLast_take (i := 3) (v := ?_) rfl (by kernel_rfl) (by kernel_rfl) (by kernel_rfl) (by kernel_rfl) (by kernel_rfl) (fun _ _ _ h => h) (Or.inl ⟨by kernel_rfl, ?_⟩) hHeld ?_
  rotate_left 1
  focus (intro w hSw; (try dsimp only at hSw); go_simp; (try with_reducible rfl); done)
  try simp only [Act.put, List.getElem_toArray, List.getElem_cons_zero, List.getElem_cons_succ, List.setIfInBounds_toArray, List.set_cons_zero, List.set_cons_succ]
  refine wpAnyLast_take (i := 4) (v := ?_) rfl (by kernel_rfl) (by kernel_rfl) (by kernel_rfl) (by kernel_rfl) (by kernel_rfl) (fun _ _ _ h => h) (Or.inl ⟨by kernel_rfl, ?_⟩) hHeld ?_
  rotate_left 1
  focus (intro w hSw; (try dsimp only at hSw); go_simp; (try with_reducible rfl); done)
  try simp only [Act.put, List.getElem_toArray, List.getElem_cons_zero, List.getElem_cons_succ, List.setIfInBounds_toArray, List.set_cons_zero, List.set_cons_succ]
  refine wpAnyLast_take (i := 5) (v := ?_) rfl (by kernel_rfl) (by kernel_rfl) (by kernel_rfl) (by kernel_rfl) (by kernel_rfl) (fun _ _ _ h => h) (Or.inl ⟨by kernel_rfl, ?_⟩) hHeld ?_
  rotate_left 1
  focus (intro w hSw; (try dsimp only at hSw); go_simp; (try with_reducible rfl); done)
  try simp only [Act.put, List.getElem_toArray, List.getElem_cons_zero, List.getElem_cons_succ, List.setIfInBounds_toArray, List.set_cons_zero, List.set_cons_succ]
  refine wpAnyLast_take (i := 6) (v := ?_) rfl (by kernel_rfl) (by kernel_rfl) (by kernel_rfl) (by kernel_rfl) (by kernel_rfl) (fun _ _ _ h => h) (Or.inl ⟨by kernel_rfl, ?_⟩) hHeld ?_
  rotate_left 1
  focus (intro w hSw; (try dsimp only at hSw); go_simp; (try with_reducible rfl); done)
  try simp only [Act.put, List.getElem_toArray, List.getElem_cons_zero, List.getElem_cons_succ, List.setIfInBounds_toArray, List.set_cons_zero, List.set_cons_succ]
  refine wpAnyLast_take (i := 7) (v := ?_) rfl (by kernel_rfl) (by kernel_rfl) (by kernel_rfl) (by kernel_rfl) (by kernel_rfl) (fun _ _ _ h => h) (Or.inl ⟨by kernel_rfl, ?_⟩) hHeld ?_
  rotate_left 1
  focus (intro w hSw; (try dsimp only at hSw); go_simp; (try with_reducible rfl); done)
  try simp only [Act.put, List.getElem_toArray, List.getElem_cons_zero, List.getElem_cons_succ, List.setIfInBounds_toArray, List.set_cons_zero, List.set_cons_succ]
  refine wpAnyLast_take (i := 8) (v := ?_) rfl (by kernel_rfl) (by kernel_rfl) (by kernel_rfl) (by kernel_rfl) (by kernel_rfl) (fun _ _ _ h => h) (Or.inl ⟨by kernel_rfl, ?_⟩) hHeld ?_
  rotate_left 1
  focus (intro w hSw; (try dsimp only at hSw); go_simp; (try with_reducible rfl); done)
  try simp only [Act.put, List.getElem_toArray, List.getElem_cons_zero, List.getElem_cons_succ, List.setIfInBounds_toArray, List.set_cons_zero, List.set_cons_succ]
  refine wpAnyLast_ready (rs := [9]) (by kernel_rfl) (by simp) ?_
  refine AllReadyL.cons rfl (by decide) (fun K hK => ?_) AllReadyL.nil
  go_simp
  (go_at_call 74; refine (hcl.out _ hBd).mono ?_; rintro ex w2 ⟨v8, rfl, hV8, hB2⟩; obtain ⟨A8, c8, rfl, hc8, hF8⟩ := hV8.reads)
  refine hK.out _ _ ?_ (fun hHeld => ?_)
  rotate_left 1
  clear hK K
  try simp only [Act.put, List.getElem_toArray, List.getElem_cons_zero, List.getElem_cons_succ, List.setIfInBounds_toArray, List.set_cons_zero, List.set_cons_succ]
  rotate_left 1
  · exact hS.out _ (hBd.trans hB2)
  have hm2 := hB2.blk hm
  have q0 := blk_frozen hm2 2
  have q1 : w2.cell? ⟨mb, 2, none⟩ = some (.slice A1 s.heap.length c1) := blk_cell hm2 2
  refine wpAnyLast_any (i := 10) (v := ?_) rfl (Region.noSelect_spec (by kernel_rfl)) (fun _ _ _ h => h) _ _ _ _ (Region.free_spec rfl (by kernel_rfl)) (mem_of_contains (by kernel_rfl)) (Or.inl ⟨by kernel_rfl, ?_⟩) ?_
  rotate_left 1
  focus (intro w; go_simp; (try with_reducible rfl); done)
  try simp only [Act.put, List.getElem_toArray, List.getElem_cons_zero, List.getElem_cons_succ, List.setIfInBounds_toArray, List.set_cons_zero, List.set_cons_succ]
  refine wpAnyLast_any (i := 11) (v := ?_) rfl (Region.noSelect_spec (by kernel_rfl)) (fun _ _ _ h => h) _ _ _ _ (Region.free_spec rfl (by kernel_rfl)) (mem_of_contains (by kernel_rfl)) (Or.inl ⟨by kernel_rfl, ?_⟩) ?_
  rotate_left 1
  focus (intro w; go_simp; (try with_reducible rfl); done)
  try simp only [Act.put, List.getElem_toArray, List.getElem_cons_zero, List.getElem_cons_succ, List.setIfInBounds_toArray, List.set_cons_zero, List.set_cons_succ]
  refine wpAnyLast_any (i := 12) (v := ?_) rfl (Region.noSelect_spec (by kernel_rfl)) (fun _ _ _ h => h) _ _ _ _ (Region.free_spec rfl (by kernel_rfl)) (mem_of_contains (by kernel_rfl)) (Or.inl ⟨by kernel_rfl, ?_⟩) ?_
  rotate_left 1
  focus (intro w; go_simp; (try with_reducible rfl); done)
  try simp only [Act.put, List.getElem_toArray, List.getElem_cons_zero, List.getElem_cons_succ, List.setIfInBounds_toArray, List.set_cons_zero, List.set_cons_succ]
  refine wpAnyLast_any (i := 13) (v := ?_) rfl (Region.noSelect_spec (by kernel_rfl)) (fun _ _ _ h => h) _ _ _ _ (Region.free_spec rfl (by kernel_rfl)) (mem_of_contains (by kernel_rfl)) (Or.inl ⟨by kernel_rfl, ?_⟩) ?_
  rotate_left 1
  focus (intro w; go_simp; (try with_reducible rfl); done)
  try simp only [Act.put, List.getElem_toArray, List.getElem_cons_zero, List.getElem_cons_succ, List.setIfInBounds_toArray, List.set_cons_zero, List.set_cons_succ]
  refine wpAnyLast_any (i := 14) (v := ?_) rfl (Region.noSelect_spec (by kernel_rfl)) (fun _ _ _ h => h) _ _ _ _ (Region.free_spec rfl (by kernel_rfl)) (mem_of_contains (by kernel_rfl)) (Or.inl ⟨by kernel_rfl, ?_⟩) ?_
  rotate_left 1
  focus (intro w; go_simp; (try with_reducible rfl); done)
  try simp only [Act.put, List.getElem_toArray, List.getElem_cons_zero, List.getElem_cons_succ, List.setIfInBounds_toArray, List.set_cons_zero, List.set_cons_succ]
  refine wpAnyLast_any (i := 15) (v := ?_) rfl (Region.noSelect_spec (by kernel_rfl)) (fun _ _ _ h => h) _ _ _ _ (Region.free_spec rfl (by kernel_rfl)) (mem_of_contains (by kernel_rfl)) (Or.inl ⟨by kernel_rfl, ?_⟩) ?_
  rotate_left 1
  focus (intro w; go_simp; (try with_reducible rfl); done)
  try simp only [Act.put, List.getElem_toArray, List.getElem_cons_zero, List.getElem_cons_succ, List.setIfInBounds_toArray, List.set_cons_zero, List.set_cons_succ]
  refine wpAnyLast_ready (rs := [16]) (by kernel_rfl) (by simp) ?_
  refine AllReadyL.cons_last rfl (by decide) (fun K hK => ?_) AllReadyL.nil
  go_simp
  refine hK.out _ _ ?_
  clear hK K
  try simp only [Act.put, List.getElem_toArray, List.getElem_cons_zero, List.getElem_cons_succ, List.setIfInBounds_toArray, List.set_cons_zero, List.set_cons_succ]
  have hB3 := hB.trans (hBd.trans hB2)
  have hbc := blk_far (hB2.blk hb2) (p := ⟨mb, 2, none⟩) (fun e => hmr e.symm) (.slice A8 l1.length c8)
  have hmc := (blk_set hm2 2 (.slice A8 l1.length c8)).trans rfl
  have hmb := blk_lt hm
  have hmW : mb ≤ W.heap.size := by
    obtain ⟨_, _, hm0, _⟩ := h.blk
    exact Nat.le_of_lt (blk_lt hm0)
  have hKc : KO mb W (w2.setCell ⟨mb, 2, none⟩ (.slice A8 l1.length c8)) := (KO.of_bel hB3 hmW).trans (KO.set mb 2 _ _)
  have hVc := Kd.F_far hF8.out (p := ⟨mb, 2, none⟩) (fun j hj q => hj ((hS1.out j).2 (.inl (by have q : j = mb := q; rw [q]; exact h.sm)))) (.slice A8 l1.length c8)
  generalize w2.setCell ⟨mb, 2, none⟩ (.slice A8 l1.length c8) = wc at hbc hmc hKc hVc ⊢
  clear q0 q1
  have q0 := blk_frozen hbc 1
  have q1 : wc.cell? ⟨r, 1, none⟩ = some (.int .i64 0) := blk_cell hbc 1
  refine wpAnyLast_any (i := 17) (v := ?_) rfl (Region.noSelect_spec (by kernel_rfl)) (fun _ _ _ h => h) _ _ _ _ (Region.free_spec rfl (by kernel_rfl)) (mem_of_contains (by kernel_rfl)) (Or.inl ⟨by kernel_rfl, ?_⟩) ?_
  rotate_left 1
  focus (intro w; go_simp; (try with_reducible rfl); done)
  try simp only [Act.put, List.getElem_toArray, List.getElem_cons_zero, List.getElem_cons_succ, List.setIfInBounds_toArray, List.set_cons_zero, List.set_cons_succ]
  refine wpAnyLast_ready (rs := [18]) (by kernel_rfl) (by simp) ?_
  refine AllReadyL.cons_last rfl (by decide) (fun K hK => ?_) AllReadyL.nil
  go_simp
  refine hK.out _ _ ?_
  clear hK K
  try simp only [Act.put, List.getElem_toArray, List.getElem_cons_zero, List.getElem_cons_succ, List.setIfInBounds_toArray, List.set_cons_zero, List.set_cons_succ]
  refine wpAnyLast_any (i := 19) (v := ?_) rfl (Region.noSelect_spec (by kernel_rfl)) (fun _ _ _ h => h) _ _ _ _ (Region.free_spec rfl (by kernel_rfl)) (mem_of_contains (by kernel_rfl)) (Or.inl ⟨by kernel_rfl, ?_⟩) ?_
  rotate_left 1
  focus (intro w; go_simp; (try with_reducible rfl); done)
  try simp only [Act.put, List.getElem_toArray, List.getElem_cons_zero, List.getElem_cons_succ, List.setIfInBounds_toArray, List.set_cons_zero, List.set_cons_succ]
  refine wpAnyLast_done (by kernel_rfl) ?_ _
  have hnr : ∀ j, ¬ S1 j → j ≠ r := fun j hj q => hj ((hS1.out j).2 (.inr (by have := hr.out; omega)))
  have hbd := (blk_set hbc 1 (.int .i64 N)).trans rfl
  have hmd := blk_far hmc (p := ⟨r, 1, none⟩) hmr (.int .i64 N)
  have hKd := hKc.new hmW hgr.out 1 (.int .i64 N)
  have hVd := Kd.F_far hVc (p := ⟨r, 1, none⟩) hnr (.int .i64 N)
  clear hbc hmc hKc hVc q0 q1
  generalize wc.setCell ⟨r, 1, none⟩ (.int .i64 N) = wc at hbd hmd hKd hVd ⊢
  have hbc := hbd
  have q0 := blk_frozen hbc 0
  have q1 := blk_frozen hbc 1
  have q2 := blk_frozen hbc 2
  have q3 : wc.cell? ⟨r, 0, none⟩ = some (.int .i64 (0)) := blk_cell hbc 0
  have q4 : wc.cell? ⟨r, 1, none⟩ = some (.int .i64 (N)) := blk_cell hbc 1
  have q5 : wc.cell? ⟨r, 2, none⟩ = some (.int .i64 (0)) := blk_cell hbc 2
  have hpz := put3 hbc (.int .i64 (0)) (.int .i64 (N)) (.int .i64 (0))
  go_wp2
  refine bodyPost_ret (results_cell_row3 rfl _ _ r 89 #[.int .i64 (0), .int .i64 (N), .int .i64 (0)] (0, 0) _ rfl hpz.1 Try.underlying89 rfl (by kernel_rfl)) rfl ?_
  have hVz := Kd.F_mono (Kd.F_far (Kd.F_far (Kd.F_far hVd (p := ⟨r, 0, none⟩) hnr (.int .i64 0)) (p := ⟨r, 1, none⟩) hnr (.int .i64 N)) (p := ⟨r, 2, none⟩) hnr (.int .i64 0)) (fun j hj (q : S j) => hj ((hS1.out j).2 (.inl q)))
  have hKz := ((hKd.new hmW hgr.out 0 (.int .i64 0)).new hmW hgr.out 1 (.int .i64 N)).new hmW hgr.out 2 (.int .i64 0)
  rw [hl1.out, show ((s.heap.length : Int) + 1) = N from hN.out]
  refine .some (h.setM hKz rfl rfl (s1 := { s with heap := l1 }) (hv1 := .slice A8 l1.length c8) (HV.mk ⟨hVz⟩ hc8) (fun PA' pc' hm0 => ?_)) hKz
  have e2 := (hB.blk hm0).symm.trans hm
  injection e2 with e2
  injection e2 with e2
  have e3 : (Value.slice PA' p.f0.length pc') = .slice PA p.f0.length pc := by
    have := congrArg (fun x : Array Value => x[0]?) e2
    simpa using this
  rw [e3]
  exact blk_far (blk_far (blk_far hmd (p := ⟨r, 0, none⟩) hmr (.int .i64 0)) (p := ⟨r, 1, none⟩) hmr (.int .i64 N)) (p := ⟨r, 2, none⟩) hmr (.int .i64 0)
set_option maxHeartbeats 4000000 in
theorem touch15 (w0 : World) (p : SProg) (mb : Nat) (W : World) (s : VSt) (fs : List (Nat × Nat)) (sv ev hv : Value) (S : Nat → Prop) (h : CM w0 p mb W s fs sv ev hv S) (d xa xb n m : Int) (args : List Int) (A : Option Addr) (c : Nat) (a b : SVal) :
    Calls Try.prog 61 #[.pointer (some ⟨mb, 0, none⟩), insV ⟨15, d, xa, xb, n, m, args⟩ A c, valV a, valV b] W (TouchIs w0 p mb s fs sv ev S W (some (s.heap, ⟨0, a.f1, n⟩, derE a.f1))) := by
  by_cases he : a.f1 = 0
  · have e1 : derE a.f1 = 14 := by unfold derE; rw [if_pos he]
    have b1 : (a.f1 == 0) = true := by simp [he]
    rw [e1]
    replace he := Aside0.mk he
    have hB : Bel W ((((W.alloc (.cells #[.int .i64 15, .int .i64 d, .int .i64 xa, .int .i64 xb, .int .i64 n, .int .i64 m, .slice A args.length c] 57)).alloc (.cells #[.int .i64 a.f0, .int .i64 a.f1, .int .i64 a.f2] 89)).alloc (.cells #[.int .i64 b.f0, .int .i64 b.f1, .int .i64 b.f2] 89)).alloc (.cells #[.int .i64 0, .int .i64 0, .int .i64 0] 89)) := ((((Bel.refl W).alloc _).alloc _).alloc _).alloc _
    obtain ⟨g, hg⟩ : ∃ g, W.heap.size = g := ⟨_, rfl⟩
    have hb0 : ((((W.alloc (.cells #[.int .i64 15, .int .i64 d, .int .i64 xa, .int .i64 xb, .int .i64 n, .int .i64 m, .slice A args.length c] 57)).alloc (.cells #[.int .i64 a.f0, .int .i64 a.f1, .int .i64 a.f2] 89)).alloc (.cells #[.int .i64 b.f0, .int .i64 b.f1, .int .i64 b.f2] 89)).alloc (.cells #[.int .i64 0, .int .i64 0, .int .i64 0] 89)).heap[g]? = some (.cells #[.int .i64 15, .int .i64 d, .int .i64 xa, .int .i64 xb, .int .i64 n, .int .i64 m, .slice A args.length c] 57 (0, 0)) := heap_old (heap_old (heap_old (heap_new' hg.symm)))
    have hb1 : ((((W.alloc (.cells #[.int .i64 15, .int .i64 d, .int .i64 xa, .int .i64 xb, .int .i64 n, .int .i64 m, .slice A args.length c] 57)).alloc (.cells #[.int .i64 a.f0, .int .i64 a.f1, .int .i64 a.f2] 89)).alloc (.cells #[.int .i64 b.f0, .int .i64 b.f1, .int .i64 b.f2] 89)).alloc (.cells #[.int .i64 0, .int .i64 0, .int .i64 0] 89)).heap[g + 1]? = some (.cells #[.int .i64 a.f0, .int .i64 a.f1, .int .i64 a.f2] 89 (0, 0)) := heap_old (heap_old (heap_new' (by simp [hg])))
    have hbb : ((((W.alloc (.cells #[.int .i64 15, .int .i64 d, .int .i64 xa, .int .i64 xb, .int .i64 n, .int .i64 m, .slice A args.length c] 57)).alloc (.cells #[.int .i64 a.f0, .int .i64 a.f1, .int .i64 a.f2] 89)).alloc (.cells #[.int .i64 b.f0, .int .i64 b.f1, .int .i64 b.f2] 89)).alloc (.cells #[.int .i64 0, .int .i64 0, .int .i64 0] 89)).heap[g + 1 + 1]? = some (.cells #[.int .i64 b.f0, .int .i64 b.f1, .int .i64 b.f2] 89 (0, 0)) := heap_old (heap_new' (by simp [hg]))
    have hb2 : ((((W.alloc (.cells #[.int .i64 15, .int .i64 d, .int .i64 xa, .int .i64 xb, .int .i64 n, .int .i64 m, .slice A args.length c] 57)).alloc (.cells #[.int .i64 a.f0, .int .i64 a.f1, .int .i64 a.f2] 89)).alloc (.cells #[.int .i64 b.f0, .int .i64 b.f1, .int .i64 b.f2] 89)).alloc (.cells #[.int .i64 0, .int .i64 0, .int .i64 0] 89)).heap[g + 1 + 1 + 1]? = some (.cells #[.int .i64 0, .int .i64 0, .int .i64 0] 89 (0, 0)) := heap_new' (by simp [hg])
    have hC := h.step hB
    go_enter Try.func61, Try.ntmps61
    go_upto_region 1 with (fail)
    generalize ((((W.alloc (.cells #[.int .i64 15, .int .i64 d, .int .i64 xa, .int .i64 xb, .int .i64 n, .int .i64 m, .slice A args.length c] 57)).alloc (.cells #[.int .i64 a.f0, .int .i64 a.f1, .int .i64 a.f2] 89)).alloc (.cells #[.int .i64 b.f0, .int .i64 b.f1, .int .i64 b.f2] 89)).alloc (.cells #[.int .i64 0, .int .i64 0, .int .i64 0] 89)) = wa at hB hb0 hb1 hbb hb2 hC ⊢
    obtain ⟨r, hr⟩ : ∃ r, g + 1 + 1 + 1 = r := ⟨_, rfl⟩
    rw [hr] at hb2 ⊢
    have hgr : Aside0 (W.heap.size ≤ r) := ⟨by omega⟩
    obtain ⟨PA, pc, hm, _⟩ := hC.blk
    obtain ⟨A1, c1, hve, hc1, hF0⟩ := h.heap.reads
    subst hve
    have hF1 := hF0.step hB
    replace hr := Aside0.mk hr
    replace hg := Aside0.mk hg
    have z0 : wa.cell? ⟨g, 0, none⟩ = some (.int .i64 15) := blk_cell hb0 0
    have z1 : wa.cell? ⟨g, 4, none⟩ = some (.int .i64 n) := blk_cell hb0 4
    have z3 : wa.cell? ⟨g + 1, 1, none⟩ = some (.int .i64 a.f1) := blk_cell hb1 1
    have u0 := blk_frozen hb2 0
    have u1 := blk_frozen hb2 1
    have u2 := blk_frozen hb2 2
    have u3 : wa.cell? ⟨r, 0, none⟩ = some (.int .i64 0) := blk_cell hb2 0
    have u4 : wa.cell? ⟨r, 1, none⟩ = some (.int .i64 0) := blk_cell hb2 1
    have u5 : wa.cell? ⟨r, 2, none⟩ = some (.int .i64 0) := blk_cell hb2 2
    go_upto_region 15 with (fail)
    have hpa := put3 hb2 (.int .i64 0) (.int .i64 a.f1) (.int .i64 n)
    have hbc := hpa.1
    have hBc := hpa.2 _ hB hgr.out
    have hgr1 : g + 1 ≠ r := by have := hr.out; omega
    have hb1c := blk_far (blk_far (blk_far hb1 (p := ⟨r, 0, none⟩) hgr1 (.int .i64 0)) (p := ⟨r, 1, none⟩) hgr1 (.int .i64 a.f1)) (p := ⟨r, 2, none⟩) hgr1 (.int .i64 n)
    generalize ((wa.setCell ⟨r, 0, none⟩ (.int .i64 0)).setCell ⟨r, 1, none⟩ (.int .i64 a.f1)).setCell ⟨r, 2, none⟩ (.int .i64 n) = wc at hbc hBc hb1c ⊢
    clear z0 z1 z3 u0 u1 u2 u3 u4 u5 hpa
    have z3 : wc.cell? ⟨g + 1, 1, none⟩ = some (.int .i64 a.f1) := blk_cell hb1c 1
    have q0 := blk_frozen hbc 0
    have q1 := blk_frozen hbc 1
    have q2 := blk_frozen hbc 2
    have q3 : wc.cell? ⟨r, 0, none⟩ = some (.int .i64 (0)) := blk_cell hbc 0
    have q4 : wc.cell? ⟨r, 1, none⟩ = some (.int .i64 (a.f1)) := blk_cell hbc 1
    have q5 : wc.cell? ⟨r, 2, none⟩ = some (.int .i64 (n)) := blk_cell hbc 2
    have hpz := put3 hbc (.int .i64 (0)) (.int .i64 (a.f1)) (.int .i64 (n))
    go_wp2
    refine bodyPost_ret (results_cell_row3 rfl _ _ r 89 #[.int .i64 (0), .int .i64 (a.f1), .int .i64 (n)] (0, 0) _ rfl hpz.1 Try.underlying89 rfl (by kernel_rfl)) rfl ?_
    have hBz := hpz.2 _ hBc hgr.out
    exact .some (h.step hBz) (h.ko hBz)
  · have e1 : derE a.f1 = 0 := by unfold derE; rw [if_neg he]
    have b1 : (a.f1 == 0) = false := by simp [he]
    rw [e1]
    replace he := Aside0.mk he
    have hB : Bel W ((((W.alloc (.cells #[.int .i64 15, .int .i64 d, .int .i64 xa, .int .i64 xb, .int .i64 n, .int .i64 m, .slice A args.length c] 57)).alloc (.cells #[.int .i64 a.f0, .int .i64 a.f1, .int .i64 a.f2] 89)).alloc (.cells #[.int .i64 b.f0, .int .i64 b.f1, .int .i64 b.f2] 89)).alloc (.cells #[.int .i64 0, .int .i64 0, .int .i64 0] 89)) := ((((Bel.refl W).alloc _).alloc _).alloc _).alloc _
    obtain ⟨g, hg⟩ : ∃ g, W.heap.size = g := ⟨_, rfl⟩
    have hb0 : ((((W.alloc (.cells #[.int .i64 15, .int .i64 d, .int .i64 xa, .int .i64 xb, .int .i64 n, .int .i64 m, .slice A args.length c] 57)).alloc (.cells #[.int .i64 a.f0, .int .i64 a.f1, .int .i64 a.f2] 89)).alloc (.cells #[.int .i64 b.f0, .int .i64 b.f1, .int .i64 b.f2] 89)).alloc (.cells #[.int .i64 0, .int .i64 0, .int .i64 0] 89)).heap[g]? = some (.cells #[.int .i64 15, .int .i64 d, .int .i64 xa, .int .i64 xb, .int .i64 n, .int .i64 m, .slice A args.length c] 57 (0, 0)) := heap_old (heap_old (heap_old (heap_new' hg.symm)))
    have hb1 : ((((W.alloc (.cells #[.int .i64 15, .int .i64 d, .int .i64 xa, .int .i64 xb, .int .i64 n, .int .i64 m, .slice A args.length c] 57)).alloc (.cells #[.int .i64 a.f0, .int .i64 a.f1, .int .i64 a.f2] 89)).alloc (.cells #[.int .i64 b.f0, .int .i64 b.f1, .int .i64 b.f2] 89)).alloc (.cells #[.int .i64 0, .int .i64 0, .int .i64 0] 89)).heap[g + 1]? = some (.cells #[.int .i64 a.f0, .int .i64 a.f1, .int .i64 a.f2] 89 (0, 0)) := heap_old (heap_old (heap_new' (by simp [hg])))
    have hbb : ((((W.alloc (.cells #[.int .i64 15, .int .i64 d, .int .i64 xa, .int .i64 xb, .int .i64 n, .int .i64 m, .slice A args.length c] 57)).alloc (.cells #[.int .i64 a.f0, .int .i64 a.f1, .int .i64 a.f2] 89)).alloc (.cells #[.int .i64 b.f0, .int .i64 b.f1, .int .i64 b.f2] 89)).alloc (.cells #[.int .i64 0, .int .i64 0, .int .i64 0] 89)).heap[g + 1 + 1]? = some (.cells #[.int .i64 b.f0, .int .i64 b.f1, .int .i64 b.f2] 89 (0, 0)) := heap_old (heap_new' (by simp [hg]))
    have hb2 : ((((W.alloc (.cells #[.int .i64 15, .int .i64 d, .int .i64 xa, .int .i64 xb, .int .i64 n, .int .i64 m, .slice A args.length c] 57)).alloc (.cells #[.int .i64 a.f0, .int .i64 a.f1, .int .i64 a.f2] 89)).alloc (.cells #[.int .i64 b.f0, .int .i64 b.f1, .int .i64 b.f2] 89)).alloc (.cells #[.int .i64 0, .int .i64 0, .int .i64 0] 89)).heap[g + 1 + 1 + 1]? = some (.cells #[.int .i64 0, .int .i64 0, .int .i64 0] 89 (0, 0)) := heap_new' (by simp [hg])
    have hC := h.step hB
    go_enter Try.func61, Try.ntmps61
    go_upto_region 1 with (fail)
    generalize ((((W.alloc (.cells #[.int .i64 15, .int .i64 d, .int .i64 xa, .int .i64 xb, .int .i64 n, .int .i64 m, .slice A args.length c] 57)).alloc (.cells #[.int .i64 a.f0, .int .i64 a.f1, .int .i64 a.f2] 89)).alloc (.cells #[.int .i64 b.f0, .int .i64 b.f1, .int .i64 b.f2] 89)).alloc (.cells #[.int .i64 0, .int .i64 0, .int .i64 0] 89)) = wa at hB hb0 hb1 hbb hb2 hC ⊢
    obtain ⟨r, hr⟩ : ∃ r, g + 1 + 1 + 1 = r := ⟨_, rfl⟩
    rw [hr] at hb2 ⊢
    have hgr : Aside0 (W.heap.size ≤ r) := ⟨by omega⟩
    obtain ⟨PA, pc, hm, _⟩ := hC.blk
    obtain ⟨A1, c1, hve, hc1, hF0⟩ := h.heap.reads
    subst hve
    have hF1 := hF0.step hB
    replace hr := Aside0.mk hr
    replace hg := Aside0.mk hg
    have z0 : wa.cell? ⟨g, 0, none⟩ = some (.int .i64 15) := blk_cell hb0 0
    have z1 : wa.cell? ⟨g, 4, none⟩ = some (.int .i64 n) := blk_cell hb0 4
    have z3 : wa.cell? ⟨g + 1, 1, none⟩ = some (.int .i64 a.f1) := blk_cell hb1 1
    have u0 := blk_frozen hb2 0
    have u1 := blk_frozen hb2 1
    have u2 := blk_frozen hb2 2
    have u3 : wa.cell? ⟨r, 0, none⟩ = some (.int .i64 0) := blk_cell hb2 0
    have u4 : wa.cell? ⟨r, 1, none⟩ = some (.int .i64 0) := blk_cell hb2 1
    have u5 : wa.cell? ⟨r, 2, none⟩ = some (.int .i64 0) := blk_cell hb2 2
    go_upto_region 15 with (fail)
    have hpa := put3 hb2 (.int .i64 0) (.int .i64 a.f1) (.int .i64 n)
    have hbc := hpa.1
    have hBc := hpa.2 _ hB hgr.out
    have hgr1 : g + 1 ≠ r := by have := hr.out; omega
    have hb1c := blk_far (blk_far (blk_far hb1 (p := ⟨r, 0, none⟩) hgr1 (.int .i64 0)) (p := ⟨r, 1, none⟩) hgr1 (.int .i64 a.f1)) (p := ⟨r, 2, none⟩) hgr1 (.int .i64 n)
    generalize ((wa.setCell ⟨r, 0, none⟩ (.int .i64 0)).setCell ⟨r, 1, none⟩ (.int .i64 a.f1)).setCell ⟨r, 2, none⟩ (.int .i64 n) = wc at hbc hBc hb1c ⊢
    clear z0 z1 z3 u0 u1 u2 u3 u4 u5 hpa
    have z3 : wc.cell? ⟨g + 1, 1, none⟩ = some (.int .i64 a.f1) := blk_cell hb1c 1
    have q0 := blk_frozen hbc 0
    have q1 := blk_frozen hbc 1
    have q2 := blk_frozen hbc 2
    have q3 : wc.cell? ⟨r, 0, none⟩ = some (.int .i64 (0)) := blk_cell hbc 0
    have q4 : wc.cell? ⟨r, 1, none⟩ = some (.int .i64 (a.f1)) := blk_cell hbc 1
    have q5 : wc.cell? ⟨r, 2, none⟩ = some (.int .i64 (n)) := blk_cell hbc 2
    have hpz := put3 hbc (.int .i64 (0)) (.int .i64 (a.f1)) (.int .i64 (n))
    go_wp2
    refine bodyPost_ret (results_cell_row3 rfl _ _ r 89 #[.int .i64 (0), .int .i64 (a.f1), .int .i64 (n)] (0, 0) _ rfl hpz.1 Try.underlying89 rfl (by kernel_rfl)) rfl ?_
    have hBz := hpz.2 _ hBc hgr.out
    exact .some (h.step hBz) (h.ko hBz)
set_option maxHeartbeats 4000000 in
theorem touch0 (w0 : World) (p : SProg) (mb : Nat) (W : World) (s : VSt) (fs : List (Nat × Nat)) (sv ev hv : Value) (S : Nat → Prop) (h : CM w0 p mb W s fs sv ev hv S) (op d xa xb n m : Int) (args : List Int) (A : Option Addr) (c : Nat) (a b : SVal) (h10 : op ≠ 10) (h11 : op ≠ 11) (h12 : op ≠ 12) (h13 : op ≠ 13) (h14 : op ≠ 14) (h15 : op ≠ 15) (h17 : op ≠ 17) (h18 : op ≠ 18) :
    Calls Try.prog 61 #[.pointer (some ⟨mb, 0, none⟩), insV ⟨op, d, xa, xb, n, m, args⟩ A c, valV a, valV b] W (TouchIs w0 p mb s fs sv ev S W none) := by
  have b10 : (op == 10) = false := by simpa using h10
  have b11 : (op == 11) = false := by simpa using h11
  have b12 : (op == 12) = false := by simpa using h12
  have b13 : (op == 13) = false := by simpa using h13
  have b14 : (op == 14) = false := by simpa using h14
  have b15 : (op == 15) = false := by simpa using h15
  have b17 : (op == 17) = false := by simpa using h17
  have b18 : (op == 18) = false := by simpa using h18
  clear h10 h11 h12 h13 h14 h15 h17 h18
  have hB : Bel W ((((W.alloc (.cells #[.int .i64 op, .int .i64 d, .int .i64 xa, .int .i64 xb, .int .i64 n, .int .i64 m, .slice A args.length c] 57)).alloc (.cells #[.int .i64 a.f0, .int .i64 a.f1, .int .i64 a.f2] 89)).alloc (.cells #[.int .i64 b.f0, .int .i64 b.f1, .int .i64 b.f2] 89)).alloc (.cells #[.int .i64 0, .int .i64 0, .int .i64 0] 89)) := ((((Bel.refl W).alloc _).alloc _).alloc _).alloc _
  obtain ⟨g, hg⟩ : ∃ g, W.heap.size = g := ⟨_, rfl⟩
  have hb0 : ((((W.alloc (.cells #[.int .i64 op, .int .i64 d, .int .i64 xa, .int .i64 xb, .int .i64 n, .int .i64 m, .slice A args.length c] 57)).alloc (.cells #[.int .i64 a.f0, .int .i64 a.f1, .int .i64 a.f2] 89)).alloc (.cells #[.int .i64 b.f0, .int .i64 b.f1, .int .i64 b.f2] 89)).alloc (.cells #[.int .i64 0, .int .i64 0, .int .i64 0] 89)).heap[g]? = some (.cells #[.int .i64 op, .int .i64 d, .int .i64 xa, .int .i64 xb, .int .i64 n, .int .i64 m, .slice A args.length c] 57 (0, 0)) := heap_old (heap_old (heap_old (heap_new' hg.symm)))
  have hb1 : ((((W.alloc (.cells #[.int .i64 op, .int .i64 d, .int .i64 xa, .int .i64 xb, .int .i64 n, .int .i64 m, .slice A args.length c] 57)).alloc (.cells #[.int .i64 a.f0, .int .i64 a.f1, .int .i64 a.f2] 89)).alloc (.cells #[.int .i64 b.f0, .int .i64 b.f1, .int .i64 b.f2] 89)).alloc (.cells #[.int .i64 0, .int .i64 0, .int .i64 0] 89)).heap[g + 1]? = some (.cells #[.int .i64 a.f0, .int .i64 a.f1, .int .i64 a.f2] 89 (0, 0)) := heap_old (heap_old (heap_new' (by simp [hg])))
  have hbb : ((((W.alloc (.cells #[.int .i64 op, .int .i64 d, .int .i64 xa, .int .i64 xb, .int .i64 n, .int .i64 m, .slice A args.length c] 57)).alloc (.cells #[.int .i64 a.f0, .int .i64 a.f1, .int .i64 a.f2] 89)).alloc (.cells #[.int .i64 b.f0, .int .i64 b.f1, .int .i64 b.f2] 89)).alloc (.cells #[.int .i64 0, .int .i64 0, .int .i64 0] 89)).heap[g + 1 + 1]? = some (.cells #[.int .i64 b.f0, .int .i64 b.f1, .int .i64 b.f2] 89 (0, 0)) := heap_old (heap_new' (by simp [hg]))
  have hb2 : ((((W.alloc (.cells #[.int .i64 op, .int .i64 d, .int .i64 xa, .int .i64 xb, .int .i64 n, .int .i64 m, .slice A args.length c] 57)).alloc (.cells #[.int .i64 a.f0, .int .i64 a.f1, .int .i64 a.f2] 89)).alloc (.cells #[.int .i64 b.f0, .int .i64 b.f1, .int .i64 b.f2] 89)).alloc (.cells #[.int .i64 0, .int .i64 0, .int .i64 0] 89)).heap[g + 1 + 1 + 1]? = some (.cells #[.int .i64 0, .int .i64 0, .int .i64 0] 89 (0, 0)) := heap_new' (by simp [hg])
  have hC := h.step hB
  go_enter Try.func61, Try.ntmps61
  go_upto_region 1 with (fail)
  generalize ((((W.alloc (.cells #[.int .i64 op, .int .i64 d, .int .i64 xa, .int .i64 xb, .int .i64 n, .int .i64 m, .slice A args.length c] 57)).alloc (.cells #[.int .i64 a.f0, .int .i64 a.f1, .int .i64 a.f2] 89)).alloc (.cells #[.int .i64 b.f0, .int .i64 b.f1, .int .i64 b.f2] 89)).alloc (.cells #[.int .i64 0, .int .i64 0, .int .i64 0] 89)) = wa at hB hb0 hb1 hbb hb2 hC ⊢
  obtain ⟨r, hr⟩ : ∃ r, g + 1 + 1 + 1 = r := ⟨_, rfl⟩
  rw [hr] at hb2 ⊢
  have hgr : Aside0 (W.heap.size ≤ r) := ⟨by omega⟩
  obtain ⟨PA, pc, hm, _⟩ := hC.blk
  obtain ⟨A1, c1, hve, hc1, hF0⟩ := h.heap.reads
  subst hve
  have hF1 := hF0.step hB
  replace hr := Aside0.mk hr
  replace hg := Aside0.mk hg
  have z0 : wa.cell? ⟨g, 0, none⟩ = some (.int .i64 op) := blk_cell hb0 0
  generalize wa = wc at hb2 hB z0 ⊢
  have hbc := hb2
  have q0 := blk_frozen hbc 0
  have q1 := blk_frozen hbc 1
  have q2 := blk_frozen hbc 2
  have q3 : wc.cell? ⟨r, 0, none⟩ = some (.int .i64 (0)) := blk_cell hbc 0
  have q4 : wc.cell? ⟨r, 1, none⟩ = some (.int .i64 (0)) := blk_cell hbc 1
  have q5 : wc.cell? ⟨r, 2, none⟩ = some (.int .i64 (0)) := blk_cell hbc 2
  have hpz := put3 hbc (.int .i64 (0)) (.int .i64 (0)) (.int .i64 (0))
  go_wp2
  refine bodyPost_ret (results_cell_row3 rfl _ _ r 89 #[.int .i64 (0), .int .i64 (0), .int .i64 (0)] (0, 0) _ rfl hpz.1 Try.underlying89 rfl (by kernel_rfl)) rfl ?_
  have hBz := hpz.2 _ hB hgr.out
  exact .none (v := ⟨0, 0, 0⟩) (h.step hBz) (h.ko hBz)
theorem touch_any (w0 : World) (p : SProg) (mb : Nat) (W : World) (s : VSt) (fs : List (Nat × Nat)) (sv ev hv : Value) (S : Nat → Prop) (h : CM w0 p mb W s fs sv ev hv S) (hp : Aside0 (HeapP s.heap)) (hl : s.heap.length ≤ 100000) (x : SIns) (A : Option Addr) (c : Nat) (a b : SVal) (ha : 0 ≤ a.f1 ∧ a.f1 ≤ s.heap.length) (hb : 0 ≤ b.f1 ∧ b.f1 ≤ s.heap.length) (hx : x.f0 = 10 → (0 ≤ x.f4 ∧ x.f4 ≤ 8) ∧ 0 ≤ x.f5 ∧ x.f5 ≤ 8) :
    Calls Try.prog 61 #[.pointer (some ⟨mb, 0, none⟩), insV x A c, valV a, valV b] W (TouchIs w0 p mb s fs sv ev S W (touchL x a b s.heap)) := by
  obtain ⟨op, d, xa, xb, n, m, args⟩ := x
  by_cases e : op = 10
  · subst e
    obtain ⟨⟨n0, n1⟩, m0, m1⟩ := hx rfl
    simp only at n0 n1 m0 m1
    obtain ⟨n, rfl⟩ : ∃ k : Nat, n = (k : Int) := ⟨n.toNat, by omega⟩
    obtain ⟨m, rfl⟩ : ∃ k : Nat, m = (k : Int) := ⟨m.toNat, by omega⟩
    exact touch10 w0 p mb W s fs sv ev hv S h hp hl d xa xb n m args A c a b (by omega) (by omega)
  by_cases e : op = 11
  · subst e; exact touch11 w0 p mb W s fs sv ev hv S h hp hl d xa xb n m args A c a b ha
  by_cases e : op = 12
  · subst e; exact touch12 w0 p mb W s fs sv ev hv S h hp hl d xa xb n m args A c a b ha
  by_cases e : op = 13
  · subst e; exact touch13 w0 p mb W s fs sv ev hv S h hp hl d xa xb n m args A c a b ha
  by_cases e : op = 14
  · subst e; exact touch14 w0 p mb W s fs sv ev hv S h hp hl d xa xb n m args A c a b ha hb
  by_cases e : op = 15
  · subst e; exact touch15 w0 p mb W s fs sv ev hv S h d xa xb n m args A c a b
  by_cases e : op = 17
  · subst e; exact touch17 w0 p mb W s fs sv ev hv S h hp hl d xa xb n m args A c a b ha
  by_cases e : op = 18
  · subst e; exact touch18 w0 p mb W s fs sv ev hv S h hp hl d xa xb n m args A c a b ha
  have e1 : touchL ⟨op, d, xa, xb, n, m, args⟩ a b s.heap = none := by
    unfold touchL
    dsimp only
    rw [if_neg (by assumption), if_neg (by assumption), if_neg (by assumption), if_neg (by assumption), if_neg (by assumption), if_neg (by assumption), if_neg (by assumption), if_neg (by assumption)]
  rw [e1]
  exact touch0 w0 p mb W s fs sv ev hv S h op d xa xb n m args A c a b (by assumption) (by assumption) (by assumption) (by assumption) (by assumption) (by assumption) (by assumption) (by assumption)
end Go.Proofs.Ytodjpbidjldblaa.H

/- Layer 1, law10, run: a run that ends; a function that is left. -/
namespace Go.Proofs.Ytodjpbidjldblaa.H
open Go.RowKit Go.Proofs.YtodjpbidjldblaaW.PrintWords Go.Proofs.YtodjpbidjldblaaW.PrintLast
set_option linter.unusedVariables false
set_option linter.unusedSimpArgs false
set_option maxRecDepth 100000
theorem trap_no (e : Int) (he : e = 0) (a : Value) (W : World) :
    Calls Try.prog 63 #[a, .int .i64 e] W fun r W' => r = .returned (.bool false) ∧ W' = W := by
  subst he
  go_enter Try.func63, Try.ntmps63
  go_wp2
  go_ret
  exact ⟨rfl, rfl⟩
set_option maxHeartbeats 4000000 in
theorem trap_yes (w0 : World) (p : SProg) (mb : Nat) (W : World) (s : VSt) (fs : List (Nat × Nat)) (sv ev hv : Value) (S : Nat → Prop) (h : CM w0 p mb W s fs sv ev hv S) (e : Int) (he : e ≠ 0) :
    Calls Try.prog 63 #[.pointer (some ⟨mb, 0, none⟩), .int .i64 e] W fun r W' => r = .returned (.bool true) ∧ CM w0 p mb W' { s with fin := 2, code := e } fs sv ev hv S := by
  have b1 : (e == 0) = false := by simpa using he
  replace he := Aside0.mk he
  obtain ⟨PA, pc, hm, _⟩ := h.blk
  have q0 := blk_frozen hm 4
  have q1 := blk_frozen hm 6
  have q2 : W.cell? ⟨mb, 4, none⟩ = some (.int .i64 s.fin) := blk_cell hm 4
  have q3 : W.cell? ⟨mb, 6, none⟩ = some (.int .i64 s.code) := blk_cell hm 6
  go_enter Try.func63, Try.ntmps63
  go_wp2
  go_ret
  have hk := (KO.set mb 4 W (.int .i64 2)).trans (KO.set mb 6 _ (.int .i64 e))
  refine ⟨rfl, h.setM hk rfl rfl (s1 := { s with fin := 2, code := e }) (hv1 := hv) (h.heap.ko hk h.sm) (fun PA' pc' hm0 => ?_)⟩
  have := (blk_set (blk_set hm0 4 (.int .i64 2)) 6 (.int .i64 e)).trans rfl
  exact this
/-- the last frame's pointer -/
theorem CM.ptr {w0 : World} {p : SProg} {mb : Nat} {W : World} {s : VSt} {fs : List (Nat × Nat)} {fb vb : Nat} {sv ev hv : Value} {S : Nat → Prop} (h : CM w0 p mb W s ((fb, vb) :: fs) sv ev hv S) : ∃ g c, sv = .slice (some ⟨g, 0, none⟩) (fs.length + 1) c ∧ fs.length + 1 ≤ c ∧ W.cell? ⟨g, fs.length, none⟩ = some (.pointer (some ⟨fb, 0, none⟩)) := by
  obtain ⟨A, c, rfl, hc, _⟩ := h.stack.reads
  obtain ⟨g, cap, hg, _⟩ := Kd.R_form h.stack.out (by simp)
  injection hg with h1 h2 h3
  subst h1
  have hl : (((fb, vb) :: fs).reverse.map fun b => b.1).length = fs.length + 1 := by simp
  rw [hl] at hc
  refine ⟨g, c, by rw [hl], hc, ?_⟩
  obtain ⟨cc, hcl, hM, hcc, _⟩ := Kd.R_elem h.stack.out 0 (fs.length : Int) (by omega) (by rw [hl]; omega)
  have e : (((fb, vb) :: fs).reverse.map fun b => b.1).getD ((fs.length : Int)).toNat 0 = fb := by simp
  rw [e] at hM
  have hM : cc = [.pointer (some ⟨fb, 0, none⟩)] := hM
  subst hM
  have := hcc 0 _ rfl
  simpa [kPtr, Kd.scalar] using this
set_option maxHeartbeats 4000000 in
theorem leave_any (w0 : World) (p : SProg) (mb : Nat) (W : World) (s : VSt) (f : VFr) (r : List VFr) (fb vb : Nat) (fs : List (Nat × Nat)) (sv ev hv : Value) (S : Nat → Prop) (h : CM w0 p mb W s ((fb, vb) :: fs) sv ev hv S) (hst : s.stack = f :: r) (hn : r.length < 60) (hw : Aside0 (∀ g ∈ r, g.want < g.vars.length ∧ g.vars.length ≤ 48)) (v : SVal) :
    Calls Try.prog 79 #[.pointer (some ⟨mb, 0, none⟩), valV v] W fun e W' => e = .returned (.tuple #[]) ∧ ∃ fs1 sv1, CM w0 p mb W' (leaveL s v r) fs1 sv1 ev hv S := by
  obtain ⟨g, c, rfl, hc, hp⟩ := h.ptr
  have hlen : fs.length = r.length := by have := h.len; rw [hst] at this; simpa using this
  obtain ⟨n, hfn⟩ : ∃ n, fs.length = n := ⟨_, rfl⟩
  have hn60 : n < 60 := by omega
  have hsub : IntKind.i64.wrap (((n + 1 : Nat) : Int) - 1) = (n : Int) := by rw [IntKind.wrap_i64]; omega
  have hB := (Bel.refl W).alloc (.cells #[.int .i64 v.f0, .int .i64 v.f1, .int .i64 v.f2] 89)
  have hb0 := heap_alloc_new W (.cells #[.int .i64 v.f0, .int .i64 v.f1, .int .i64 v.f2] 89)
  obtain ⟨b, hb⟩ : ∃ b, W.heap.size = b := ⟨_, rfl⟩
  rw [hb] at hb0
  have hC := h.step hB
  go_enter Try.func79, Try.ntmps79
  go_upto_region 1 with (fail)
  generalize W.alloc (.cells #[.int .i64 v.f0, .int .i64 v.f1, .int .i64 v.f2] 89) = wa at hB hb0 hC ⊢
  obtain ⟨PA, pc, hm, _⟩ := hC.blk
  rw [hfn] at hm hc hp
  have hwn : IntKind.i64.wrap (n : Int) = (n : Int) := by rw [IntKind.wrap_i64]; omega
  have hnc : (n : Int) ≤ (c : Int) := by omega
  have h0n : (0 : Int) ≤ (n : Int) := by omega
  have hBd : Bel wa wa.drew := (Bel.refl wa).drewN 1
  have hm1 := hBd.blk hm
  have q0 := blk_frozen hm1 1
  have q1 : wa.drew.cell? ⟨mb, 1, none⟩ = some (.slice (some ⟨g, 0, none⟩) (n + 1) c) := blk_cell hm1 1
  refine wp_region_last_drew (S := fun w' => w'.cell? ⟨mb, 1, none⟩ = some (.slice (some ⟨g, 0, none⟩) (n + 1) c)) (ds := [14]) (by kernel_rfl) q1 (fun hHeld => ?_)
  refine wpAnyLast_take (i := 0) (v := ?_) rfl (by kernel_rfl) (by kernel_rfl) (by kernel_rfl) (by kernel_rfl) (by kernel_rfl) (fun _ _ _ h => h) (Or.inl ⟨by kernel_rfl, ?_⟩) hHeld ?_
  rotate_left 1
  focus (intro w hSw; (try dsimp only at hSw); go_simp; (try with_reducible rfl); done)
  try simp only [Act.put, List.getElem_toArray, List.getElem_cons_zero, List.getElem_cons_succ, List.setIfInBounds_toArray, List.set_cons_zero, List.set_cons_succ]
  refine wpAnyLast_take (i := 1) (v := ?_) rfl (by kernel_rfl) (by kernel_rfl) (by kernel_rfl) (by kernel_rfl) (by kernel_rfl) (fun _ _ _ h => h) (Or.inl ⟨by kernel_rfl, ?_⟩) hHeld ?_
  rotate_left 1
  focus (intro w hSw; (try dsimp only at hSw); go_simp; (try with_reducible rfl); done)
  try simp only [Act.put, List.getElem_toArray, List.getElem_cons_zero, List.getElem_cons_succ, List.setIfInBounds_toArray, List.set_cons_zero, List.set_cons_succ]
  refine wpAnyLast_take (i := 2) (v := ?_) rfl (by kernel_rfl) (by kernel_rfl) (by kernel_rfl) (by kernel_rfl) (by kernel_rfl) (fun _ _ _ h => h) (Or.inl ⟨by kernel_rfl, ?_⟩) hHeld ?_
  rotate_left 1
  focus (intro w hSw; (try dsimp only at hSw); go_simp; (try with_reducible rfl); done)
  try simp only [Act.put, List.getElem_toArray, List.getElem_cons_zero, List.getElem_cons_succ, List.setIfInBounds_toArray, List.set_cons_zero, List.set_cons_succ]
  refine wpAnyLast_take (i := 3) (v := ?_) rfl (by kernel_rfl) (by kernel_rfl) (by kernel_rfl) (by kernel_rfl) (by kernel_rfl) (fun _ _ _ h => h) (Or.inl ⟨by kernel_rfl, ?_⟩) hHeld ?_
  rotate_left 1
  focus (intro w hSw; (try dsimp only at hSw); go_simp; (try with_reducible rfl); done)
  try simp only [Act.put, List.getElem_toArray, List.getElem_cons_zero, List.getElem_cons_succ, List.setIfInBounds_toArray, List.set_cons_zero, List.set_cons_succ]
  refine wpAnyLast_take (i := 4) (v := ?_) rfl (by kernel_rfl) (by kernel_rfl) (by kernel_rfl) (by kernel_rfl) (by kernel_rfl) (fun _ _ _ h => h) (Or.inl ⟨by kernel_rfl, ?_⟩) hHeld ?_
  rotate_left 1
  focus (intro w hSw; (try dsimp only at hSw); go_simp; (try with_reducible rfl); done)
  try simp only [Act.put, List.getElem_toArray, List.getElem_cons_zero, List.getElem_cons_succ, List.setIfInBounds_toArray, List.set_cons_zero, List.set_cons_succ]
  refine wpAnyLast_take (i := 5) (v := ?_) rfl (by kernel_rfl) (by kernel_rfl) (by kernel_rfl) (by kernel_rfl) (by kernel_rfl) (fun _ _ _ h => h) (Or.inl ⟨by kernel_rfl, ?_⟩) hHeld ?_
  rotate_left 1
  focus (intro w hSw; (try dsimp only at hSw); go_simp; (try with_reducible rfl); done)
  try simp only [Act.put, List.getElem_toArray, List.getElem_cons_zero, List.getElem_cons_succ, List.setIfInBounds_toArray, List.set_cons_zero, List.set_cons_succ]
  refine wpAnyLast_take (i := 6) (v := ?_) rfl (by kernel_rfl) (by kernel_rfl) (by kernel_rfl) (by kernel_rfl) (by kernel_rfl) (fun _ _ _ h => h) (Or.inl ⟨by kernel_rfl, ?_⟩) hHeld ?_
  rotate_left 1
  focus (intro w hSw; (try dsimp only at hSw); go_simp; (try with_reducible rfl); done)
  try simp only [Act.put, List.getElem_toArray, List.getElem_cons_zero, List.getElem_cons_succ, List.setIfInBounds_toArray, List.set_cons_zero, List.set_cons_succ]
  refine wpAnyLast_take (i := 7) (v := ?_) rfl (by kernel_rfl) (by kernel_rfl) (by kernel_rfl) (by kernel_rfl) (by kernel_rfl) (fun _ _ _ h => h) (Or.inl ⟨by kernel_rfl, ?_⟩) hHeld ?_
  rotate_left 1
  focus (intro w hSw; (try dsimp only at hSw); go_simp; (try with_reducible rfl); done)
  try simp only [Act.put, List.getElem_toArray, List.getElem_cons_zero, List.getElem_cons_succ, List.setIfInBounds_toArray, List.set_cons_zero, List.set_cons_succ]
  refine wpAnyLast_take (i := 8) (v := ?_) rfl (by kernel_rfl) (by kernel_rfl) (by kernel_rfl) (by kernel_rfl) (by kernel_rfl) (fun _ _ _ h => h) (Or.inl ⟨by kernel_rfl, ?_⟩) hHeld ?_
  rotate_left 1
  focus (intro w hSw; (try dsimp only at hSw); go_simp; (try with_reducible rfl); done)
  try simp only [Act.put, List.getElem_toArray, List.getElem_cons_zero, List.getElem_cons_succ, List.setIfInBounds_toArray, List.set_cons_zero, List.set_cons_succ]
  refine wpAnyLast_take (i := 9) (v := ?_) rfl (by kernel_rfl) (by kernel_rfl) (by kernel_rfl) (by kernel_rfl) (by kernel_rfl) (fun _ _ _ h => h) (Or.inl ⟨by kernel_rfl, ?_⟩) hHeld ?_
  rotate_left 1
  focus (intro w hSw; (try dsimp only at hSw); go_simp; (try with_reducible rfl); done)
  try simp only [Act.put, List.getElem_toArray, List.getElem_cons_zero, List.getElem_cons_succ, List.setIfInBounds_toArray, List.set_cons_zero, List.set_cons_succ]
  refine wpAnyLast_take (i := 10) (v := ?_) rfl (by kernel_rfl) (by kernel_rfl) (by kernel_rfl) (by kernel_rfl) (by kernel_rfl) (fun _ _ _ h => h) (Or.inl ⟨by kernel_rfl, ?_⟩) hHeld ?_
  rotate_left 1
  focus (intro w hSw; (try dsimp only at hSw); go_simp; (try with_reducible rfl); done)
  try simp only [Act.put, List.getElem_toArray, List.getElem_cons_zero, List.getElem_cons_succ, List.setIfInBounds_toArray, List.set_cons_zero, List.set_cons_succ]
  refine wpAnyLast_take (i := 11) (v := ?_) rfl (by kernel_rfl) (by kernel_rfl) (by kernel_rfl) (by kernel_rfl) (by kernel_rfl) (fun _ _ _ h => h) (Or.inl ⟨by kernel_rfl, ?_⟩) hHeld ?_
  rotate_left 1
  focus (intro w hSw; (try dsimp only at hSw); go_simp; (try with_reducible rfl); done)
  try simp only [Act.put, List.getElem_toArray, List.getElem_cons_zero, List.getElem_cons_succ, List.setIfInBounds_toArray, List.set_cons_zero, List.set_cons_succ]
  refine wpAnyLast_take (i := 12) (v := ?_) rfl (by kernel_rfl) (by kernel_rfl) (by kernel_rfl) (by kernel_rfl) (by kernel_rfl) (fun _ _ _ h => h) (Or.inl ⟨by kernel_rfl, ?_⟩) hHeld ?_
  rotate_left 1
  focus (intro w hSw; (try dsimp only at hSw); go_simp; (try with_reducible rfl); done)
  try simp only [Act.put, List.getElem_toArray, List.getElem_cons_zero, List.getElem_cons_succ, List.setIfInBounds_toArray, List.set_cons_zero, List.set_cons_succ]
  refine wpAnyLast_take (i := 13) (v := ?_) rfl (by kernel_rfl) (by kernel_rfl) (by kernel_rfl) (by kernel_rfl) (by kernel_rfl) (fun _ _ _ h => h) (Or.inl ⟨by kernel_rfl, ?_⟩) hHeld ?_
  rotate_left 1
  focus (intro w hSw; (try dsimp only at hSw); go_simp; (try with_reducible rfl); done)
  try simp only [Act.put, List.getElem_toArray, List.getElem_cons_zero, List.getElem_cons_succ, List.setIfInBounds_toArray, List.set_cons_zero, List.set_cons_succ]
  refine wpAnyLast_ready (rs := [14]) (by kernel_rfl) (by simp) ?_
  refine AllReadyL.cons_last rfl (by decide) (fun K hK => ?_) AllReadyL.nil
  go_simp
  refine hK.out _ _ ?_
  clear hK K
  try simp only [Act.put, List.getElem_toArray, List.getElem_cons_zero, List.getElem_cons_succ, List.setIfInBounds_toArray, List.set_cons_zero, List.set_cons_succ]
  refine wpAnyLast_done (by kernel_rfl) ?_ _
  subst hfn
  have hBs : Bel (wa.setCell ⟨mb, 1, none⟩ (.slice (some ⟨g, 0, none⟩) fs.length c)) (wa.setCell ⟨mb, 1, none⟩ (.slice (some ⟨g, 0, none⟩) fs.length c)).drew := (Bel.refl _).drewN 1
  have hP := (hC.pop hst (KO.set mb 1 wa (.slice (some ⟨g, 0, none⟩) fs.length c)) (fun PA' pc' hm0 => (blk_set hm0 1 _).trans rfl)).step hBs
  have hb1 := hBs.blk (blk_far hb0 (p := ⟨mb, 1, none⟩) (two_types hb0 hm (by decide)) (.slice (some ⟨g, 0, none⟩) fs.length c))
  clear hC hBd hm hm1 q0 q1 hHeld hb0 hp hBs
  generalize (wa.setCell ⟨mb, 1, none⟩ (.slice (some ⟨g, 0, none⟩) fs.length c)).drew = wc at hP hb1 ⊢
  obtain ⟨PA1, pc1, hm, _⟩ := hP.blk
  have z1 : wc.cell? ⟨mb, 1, none⟩ = some (.slice (some ⟨g, 0, none⟩) fs.length c) := blk_cell hm 1
  cases r with
  | nil =>
    obtain rfl : fs = [] := List.eq_nil_of_length_eq_zero hlen
    go_upto_region 3 with (fail)
    have q5 := blk_frozen hm 4
    have q6 := blk_frozen hm 5
    have q7 : wc.cell? ⟨mb, 4, none⟩ = some (.int .i64 s.fin) := blk_cell hm 4
    have q8 : wc.cell? ⟨mb, 5, none⟩ = some (.int .i64 s.val) := blk_cell hm 5
    have q4 : wc.cell? ⟨b, 0, none⟩ = some (.int .i64 v.f0) := blk_cell hb1 0
    have hbm : b ≠ mb := two_types hb1 hm (by decide)
    have hmb : mb ≠ b := fun e => hbm e.symm
    go_region_law (fail)
    all_goals
      go_wp2
      refine bodyPost_ret (v := .tuple #[]) (by simp [results, Try.results79, go_sem]) rfl ⟨rfl, [], .slice (some ⟨g, 0, none⟩) 0 c, ?_⟩
      have hk := (KO.set mb 4 wc (.int .i64 1)).trans (KO.set mb 5 _ (.int .i64 v.f0))
      refine CM.step (W := (wc.setCell ⟨mb, 4, none⟩ (.int .i64 1)).setCell ⟨mb, 5, none⟩ (.int .i64 v.f0)) ?_ ((Bel.refl _).drewN _)
      refine hP.setM hk rfl rfl (s1 := leaveL s v []) (hv1 := hv) (hP.heap.ko hk hP.sm) (fun PA' pc' hm0 => ?_)
      have := (blk_set (blk_set hm0 4 (.int .i64 1)) 5 (.int .i64 v.f0)).trans rfl
      exact this
  | cons g0 r0 =>
    obtain ⟨fb1, vb1, fs1, rfl, hfr⟩ := hP.top rfl
    obtain ⟨g', c', hsv, hc', hpt⟩ := hP.ptr
    injection hsv with e1 e2 e3
    injection e1 with e1
    injection e1 with e1
    subst e1 e3
    clear e2
    obtain ⟨⟨hw1, hw2⟩, -⟩ : (g0.want < g0.vars.length ∧ g0.vars.length ≤ 48) ∧ True := ⟨hw.out g0 (List.mem_cons_self ..), trivial⟩
    have hl1 : ((fb1, vb1) :: fs1).length = fs1.length + 1 := rfl
    rw [hl1] at z1 ⊢
    obtain ⟨n, hnn⟩ : ∃ n, fs1.length = n := ⟨_, rfl⟩
    have hn61 : n < 60 := by rw [hl1] at hlen; simp at hn hlen; omega
    rw [hnn] at z1 hpt ⊢
    have hsub1 : IntKind.i64.wrap (((n + 1 : Nat) : Int) - 1) = (n : Int) := by rw [IntKind.wrap_i64]; omega
    have hlt1 : (n : Int) < ((n + 1 : Nat) : Int) := by omega
    obtain ⟨k0, k1, k2, k3, A4, c4, hfr0, _⟩ := hfr.frame
    have z2 : wc.cell? ⟨fb1, 5, none⟩ = some (.slice (some ⟨vb1, 0, none⟩) g0.vars.length g0.vars.length) := blk_cell hfr0 5
    have z3 : wc.cell? ⟨fb1, 8, none⟩ = some (.int .i64 g0.want) := blk_cell hfr0 8
    go_upto_region 4 with (fail)
    go_quiet (fail)
    have hBn : Bel wc (wc.drewN nq) := (Bel.refl wc).drewN nq
    have hP1 := hP.step hBn
    have hb2 := hBn.blk hb1
    clear z1 z2 z3 hpt hm hb1 hfr hfr0 hP
    generalize wc.drewN nq = wd at hP1 hb2 ⊢
    go_upto_region 5 with (fail)
    obtain ⟨_, _, _, q0, hf⟩ := hP1.top rfl
    injection q0 with q0 q1
    cases q0
    obtain ⟨k0, k1, k2, k3, A4, c4, hfr0, _⟩ := hf.frame
    have hv0 := hf.vars
    have hbv : b ≠ vb1 := fun e => by
      have h1 := h.sf (fb1, vb1) (List.mem_cons_of_mem _ (List.mem_cons_self ..))
      have h2 := h.sb _ h1.2
      have h2 : vb1 < W.heap.size := h2
      omega
    have hBd : Bel wd wd.drew := (Bel.refl wd).drewN 1
    have u0 : wd.drew.cell? ⟨fb1, 5, none⟩ = some (.slice (some ⟨vb1, 0, none⟩) g0.vars.length g0.vars.length) := blk_cell (hBd.blk hfr0) 5
    have u1 : wd.drew.cell? ⟨fb1, 8, none⟩ = some (.int .i64 g0.want) := blk_cell (hBd.blk hfr0) 8
    have u2 : wd.drew.cell? ⟨b, 0, none⟩ = some (.int .i64 v.f0) := blk_cell (hBd.blk hb2) 0
    have u3 : wd.drew.cell? ⟨b, 1, none⟩ = some (.int .i64 v.f1) := blk_cell (hBd.blk hb2) 1
    have u4 : wd.drew.cell? ⟨b, 2, none⟩ = some (.int .i64 v.f2) := blk_cell (hBd.blk hb2) 2
    obtain ⟨y0, y1, y2⟩ := hv0.at_ g0.want hw1
    have x0 := blk_frozen hv0 (g0.want * 3)
    have x1 := blk_frozen hv0 (g0.want * 3 + 1)
    have x2 := blk_frozen hv0 (g0.want * 3 + 2)
    have hwl : (g0.want : Int) < (g0.vars.length : Int) := by omega
    have hww : IntKind.i64.wrap (g0.want : Int) = (g0.want : Int) := by rw [IntKind.wrap_i64]; omega
    refine wp_region_last_drew (S := fun w' => w'.cell? ⟨fb1, 5, none⟩ = some (.slice (some ⟨vb1, 0, none⟩) g0.vars.length g0.vars.length) ∧ w'.cell? ⟨fb1, 8, none⟩ = some (.int .i64 g0.want) ∧ w'.cell? ⟨b, 0, none⟩ = some (.int .i64 v.f0) ∧ w'.cell? ⟨b, 1, none⟩ = some (.int .i64 v.f1) ∧ w'.cell? ⟨b, 2, none⟩ = some (.int .i64 v.f2)) (ds := [10]) (by kernel_rfl) ⟨u0, u1, u2, u3, u4⟩ (fun hHeld => ?_)
    refine wpAnyLast_take (i := 0) (v := ?_) rfl (by kernel_rfl) (by kernel_rfl) (by kernel_rfl) (by kernel_rfl) (by kernel_rfl) (fun _ _ _ h => h) (Or.inl ⟨by kernel_rfl, ?_⟩) hHeld ?_
    rotate_left 1
    focus (intro w hSw; (try dsimp only at hSw); go_simp; (try with_reducible rfl); done)
    try simp only [Act.put, List.getElem_toArray, List.getElem_cons_zero, List.getElem_cons_succ, List.setIfInBounds_toArray, List.set_cons_zero, List.set_cons_succ]
    refine wpAnyLast_take (i := 1) (v := ?_) rfl (by kernel_rfl) (by kernel_rfl) (by kernel_rfl) (by kernel_rfl) (by kernel_rfl) (fun _ _ _ h => h) (Or.inl ⟨by kernel_rfl, ?_⟩) hHeld ?_
    rotate_left 1
    focus (intro w hSw; (try dsimp only at hSw); go_simp; (try with_reducible rfl); done)
    try simp only [Act.put, List.getElem_toArray, List.getElem_cons_zero, List.getElem_cons_succ, List.setIfInBounds_toArray, List.set_cons_zero, List.set_cons_succ]
    refine wpAnyLast_take (i := 2) (v := ?_) rfl (by kernel_rfl) (by kernel_rfl) (by kernel_rfl) (by kernel_rfl) (by kernel_rfl) (fun _ _ _ h => h) (Or.inl ⟨by kernel_rfl, ?_⟩) hHeld ?_
    rotate_left 1
    focus (intro w hSw; (try dsimp only at hSw); go_simp; (try with_reducible rfl); done)
    try simp only [Act.put, List.getElem_toArray, List.getElem_cons_zero, List.getElem_cons_succ, List.setIfInBounds_toArray, List.set_cons_zero, List.set_cons_succ]
    refine wpAnyLast_take (i := 3) (v := ?_) rfl (by kernel_rfl) (by kernel_rfl) (by kernel_rfl) (by kernel_rfl) (by kernel_rfl) (fun _ _ _ h => h) (Or.inl ⟨by kernel_rfl, ?_⟩) hHeld ?_
    rotate_left 1
    focus (intro w hSw; (try dsimp only at hSw); go_simp; (try with_reducible rfl); done)
    try simp only [Act.put, List.getElem_toArray, List.getElem_cons_zero, List.getElem_cons_succ, List.setIfInBounds_toArray, List.set_cons_zero, List.set_cons_succ]
    refine wpAnyLast_take (i := 4) (v := ?_) rfl (by kernel_rfl) (by kernel_rfl) (by kernel_rfl) (by kernel_rfl) (by kernel_rfl) (fun _ _ _ h => h) (Or.inl ⟨by kernel_rfl, ?_⟩) hHeld ?_
    rotate_left 1
    focus (intro w hSw; (try dsimp only at hSw); go_simp; (try with_reducible rfl); done)
    try simp only [Act.put, List.getElem_toArray, List.getElem_cons_zero, List.getElem_cons_succ, List.setIfInBounds_toArray, List.set_cons_zero, List.set_cons_succ]
    refine wpAnyLast_take (i := 5) (v := ?_) rfl (by kernel_rfl) (by kernel_rfl) (by kernel_rfl) (by kernel_rfl) (by kernel_rfl) (fun _ _ _ h => h) (Or.inl ⟨by kernel_rfl, ?_⟩) hHeld ?_
    rotate_left 1
    focus (intro w hSw; (try dsimp only at hSw); go_simp; (try with_reducible rfl); done)
    try simp only [Act.put, List.getElem_toArray, List.getElem_cons_zero, List.getElem_cons_succ, List.setIfInBounds_toArray, List.set_cons_zero, List.set_cons_succ]
    refine wpAnyLast_take (i := 6) (v := ?_) rfl (by kernel_rfl) (by kernel_rfl) (by kernel_rfl) (by kernel_rfl) (by kernel_rfl) (fun _ _ _ h => h) (Or.inl ⟨by kernel_rfl, ?_⟩) hHeld ?_
    rotate_left 1
    focus (intro w hSw; (try dsimp only at hSw); go_simp; (try with_reducible rfl); done)
    try simp only [Act.put, List.getElem_toArray, List.getElem_cons_zero, List.getElem_cons_succ, List.setIfInBounds_toArray, List.set_cons_zero, List.set_cons_succ]
    refine wpAnyLast_take (i := 7) (v := ?_) rfl (by kernel_rfl) (by kernel_rfl) (by kernel_rfl) (by kernel_rfl) (by kernel_rfl) (fun _ _ _ h => h) (Or.inl ⟨by kernel_rfl, ?_⟩) hHeld ?_
    rotate_left 1
    focus (intro w hSw; (try dsimp only at hSw); go_simp; (try with_reducible rfl); done)
    try simp only [Act.put, List.getElem_toArray, List.getElem_cons_zero, List.getElem_cons_succ, List.setIfInBounds_toArray, List.set_cons_zero, List.set_cons_succ]
    refine wpAnyLast_take (i := 8) (v := ?_) rfl (by kernel_rfl) (by kernel_rfl) (by kernel_rfl) (by kernel_rfl) (by kernel_rfl) (fun _ _ _ h => h) (Or.inl ⟨by kernel_rfl, ?_⟩) hHeld ?_
    rotate_left 1
    focus (intro w hSw; (try dsimp only at hSw); go_simp; (try with_reducible rfl); done)
    try simp only [Act.put, List.getElem_toArray, List.getElem_cons_zero, List.getElem_cons_succ, List.setIfInBounds_toArray, List.set_cons_zero, List.set_cons_succ]
    refine wpAnyLast_take (i := 9) (v := ?_) rfl (by kernel_rfl) (by kernel_rfl) (by kernel_rfl) (by kernel_rfl) (by kernel_rfl) (fun _ _ _ h => h) (Or.inl ⟨by kernel_rfl, ?_⟩) hHeld ?_
    rotate_left 1
    focus (intro w hSw; (try dsimp only at hSw); go_simp; (try with_reducible rfl); done)
    try simp only [Act.put, List.getElem_toArray, List.getElem_cons_zero, List.getElem_cons_succ, List.setIfInBounds_toArray, List.set_cons_zero, List.set_cons_succ]
    refine wpAnyLast_ready (rs := [10]) (by kernel_rfl) (by simp) ?_
    refine AllReadyL.cons_last rfl (by decide) (fun K hK => ?_) AllReadyL.nil
    go_simp
    refine hK.out _ _ ?_
    clear hK K
    try simp only [Act.put, List.getElem_toArray, List.getElem_cons_zero, List.getElem_cons_succ, List.setIfInBounds_toArray, List.set_cons_zero, List.set_cons_succ]
    refine wpAnyLast_done (by kernel_rfl) ?_ _
    go_wp2
    go_end0
    exact ⟨rfl, (fb1, vb1) :: fs1, _, CM.step (hP1.setV (f := g0) (r := r0) rfl (by simp) (KO.set3 vb1 _ _ _ wd _ _ _) (hv0.put g0.want hw1 v)) ((Bel.refl _).drewN 1)⟩
end Go.Proofs.Ytodjpbidjldblaa.H
