/- Texts joined. Conditions: each stands with its theorem. -/
import Derived.Test.YtodjpbidjldblaaX00
import Derived.Test.YtodjpbidjldblaaZ01
import Derived.Test.YtodjpbidjldblaaX13
import Derived.StillTailTactics
namespace Go.Proofs.Ytodjpbidjldblaa.H
open Go.RowKit Go.Proofs.YtodjpbidjldblaaW.PrintWords Go.Proofs.YtodjpbidjldblaaW.PrintLast
set_option linter.unusedVariables false
set_option linter.unusedSimpArgs false
set_option linter.unusedSectionVars false
set_option maxRecDepth 100000
section
variable (w0 : World) (p : SProg) (sb : Nat) (W : World) (s : VSt) (fs : List Nat) (os : List (Nat × Nat)) (sv ev hv : Value) (PA : Option Addr) (pc : Nat) (hP : Rd kFunc w0 PA p.f0) (h : RM w0 sb W s fs os sv ev hv) (hp : Aside0 (ProgP p)) (hr : Aside0 (RunP p s)) (f : VFr) (r : List VFr) (hG : GoP p s f r) (hs4 : s.steps ≤ 4000)
include hP h hp hr hG hs4
set_option maxHeartbeats 4000000 in
theorem rstep4 (hop : (insAt p f).f0 = 4) : Calls Try.prog 23 #[.pointer (some ⟨sb, 0, none⟩), .agg #[.slice PA p.f0.length pc]] W (RStepIs w0 sb (stepL p s)) := by
 have hstep := stepL_some (p := p) hG.stack (v := ⟨wr64 ((varAt f.vars (insAt p f).f2).f0 - (varAt f.vars (insAt p f).f3).f0), 0, 0⟩) (by simp [reckonL, hop])
 obtain ⟨g, sc, vb, nn, b1, c4, d4, c6, cl, bl, pl, fs, adp, ad4, ad5, A6, x, rfl, rfl, rfl, hn60, e7, e1, l1, h, hB0, hb1, hY, hR6, lpos, lblk, lfn, ep, hpb, hi, hfi, hlen, hnn, hst, hx, hpl', hb1n, hT⟩ := rpre w0 p sb W s fs os sv ev hv PA pc hP h hp f r hG hs4
 rw [hx.out] at hop
 rw [hop] at hY
 replace hY := Aside0.mk hY
 rw [hpl'.out]
 replace hop := Aside0.mk hop
 replace hG := Aside0.mk hG
 go_enter Try.func23, Try.ntmps23
 go_upto_region 1 with (fail)
 rw [hb1n.out]
 have h := h.step hB0
 generalize W.alloc (.cells #[.slice (some adp) pl pc] 24) = wa at hB0 hb1 h ⊢
 have hm := h.blk
 have q0 := blk_frozen hm 6
 have q1 : wa.cell? ⟨sb, 6, none⟩ = some (.int .i64 s.steps) := blk_cell hm 6
 go_upto_region 2 with (fail)
 have hKs := KO.set sb 6 wa (.int .i64 ((s.steps : Int) + 1))
 have h := h.setS (s1 := { s with steps := s.steps + 1 }) hKs rfl rfl rfl ((blk_set hm 6 _).trans rfl)
 have hsb1 : b1 ≠ sb := two_types hb1 hm (by decide)
 replace hb1 := hKs.blk hb1 hsb1
 clear q0 q1 hm hKs hB0
 generalize wa.setCell ⟨sb, 6, none⟩ (.int .i64 ((s.steps : Int) + 1)) = wb at hb1 h ⊢
 have z0 : wb.cell? ⟨sb, 0, none⟩ = some (.slice (some ⟨g, 0, none⟩) (nn + 1) sc) := blk_cell h.blk 0
 go_quiet (fail)
 clear z0
 have hBn : Bel wb (wb.drewN nq) := (Bel.refl wb).drewN nq
 have h := h.step hBn
 replace hb1 := hBn.blk hb1
 generalize wb.drewN nq = wc at h hb1 ⊢
 clear hBn
 go_upto_region 3 with (fail)
 obtain ⟨u0, u1, u2, u3, -⟩ := h.top (f := f) (r := r) hst.out hnn.out
 have ub : wc.cell? ⟨b1, 0, none⟩ = some (.slice (some adp) pl pc) := blk_cell hb1 0
 have hS := Aside0.mk (fun (X : World) (q : Bel wc X) => hY.out wc X h.bel q ub u0 u2 u3)
 have hBd : Bel wc wc.drew := (Bel.refl wc).drewN 1
 clear u0 u1 u2 u3 ub hY
 refine wp_region_held_drew (S := SR b1 g nn f adp pl pc ad4 ad5 A6 bl c4 cl d4 c6 4 x) (by kernel_rfl) (hS.out _ hBd) (fun hHeld => ?_)
 refine takeH [0, 1, 2, 3, 4, 5, 6, 7, 8, 9, 10, 11, 12, 13, 14, 15, 16, 17, 18, 19, 20, 21] (by kernel_rfl) (by kernel_rfl) hHeld ?_
 iterate 22 (refine takeI (v := ?_) rfl rfl (fun _ _ _ h => h) (Or.inl ⟨by kernel_rfl, ?_⟩) ?_; rotate_left 1; focus (intro w hSw; (try dsimp only at hSw); go_simp; (try with_reducible rfl); done); try simp only [Act.put, z1, z2, z3, z4, z5, z6])
 refine takeE ?_
 try dsimp only
 refine wpAnyH_ready (rs := [22]) (by kernel_rfl) (by simp) ?_
 refine AllReadyH.cons rfl (fun K hK => ?_) AllReadyH.nil
 go_simp
 refine hK.out _ _ ?_ (fun hHeld => ?_)
 rotate_left 1
 clear hK K
 try simp only [Act.put, z1, z2, z3, z4, z5, z6]
 rotate_left 1
 ·exact hS.out _ (hBd.alloc _)
 refine wpAnyH_ready (rs := [23]) (by kernel_rfl) (by simp) ?_
 refine AllReadyH.cons rfl (fun K hK => ?_) AllReadyH.nil
 go_simp
 refine hK.out _ _ ?_ (fun hHeld => ?_)
 rotate_left 1
 clear hK K
 try simp only [Act.put, z1, z2, z3, z4, z5, z6]
 rotate_left 1
 ·exact hS.out _ (((Bel.refl wc).alloc _).drewN 1)
 refine wpAnyH_done (by kernel_rfl) ?_ _
 clear hS hHeld hBd
 obtain ⟨X, hX⟩ : ∃ X, wc.heap.size = X := ⟨_, rfl⟩
 have hBc : Bel wc (wc.alloc (.cells #[.int .i64 4, .int .i64 x.f1, .int .i64 x.f2, .int .i64 x.f3, .int .i64 x.f4, .int .i64 x.f5, .slice A6 x.f6.length c6] 57)).drew := ((Bel.refl wc).alloc _).drewN 1
 have hbX : (wc.alloc (.cells #[.int .i64 4, .int .i64 x.f1, .int .i64 x.f2, .int .i64 x.f3, .int .i64 x.f4, .int .i64 x.f5, .slice A6 x.f6.length c6] 57)).drew.heap[X]? = some (.cells #[.int .i64 4, .int .i64 x.f1, .int .i64 x.f2, .int .i64 x.f3, .int .i64 x.f4, .int .i64 x.f5, .slice A6 x.f6.length c6] 57 (0, 0)) := heap_new' (W := wc) hX.symm
 rw [hX]
 have h := h.step hBc
 replace hb1 := hBc.blk hb1
 generalize (wc.alloc (.cells #[.int .i64 4, .int .i64 x.f1, .int .i64 x.f2, .int .i64 x.f3, .int .i64 x.f4, .int .i64 x.f5, .slice A6 x.f6.length c6] 57)).drew = wd at hBc hbX h hb1 ⊢
 replace hX := Aside0.mk hX
 clear hBc
 obtain ⟨u0, u1, u2, u3, hz⟩ := h.top (f := f) (r := r) hst.out hnn.out
 have q0 := hz (nn * 4 + 3)
 clear u0 u1 u2 hz
 go_upto_region 5 with (fail)
 have hkg := KO.set g (nn * 4 + 3) wd (.int .i64 ((f.pos : Int) + 1))
 have hbg := h.neG hb1 (by decide)
 have hXg := h.neG hbX (by decide)
 replace hb1 := hkg.blk hb1 hbg
 replace hbX := hkg.blk hbX hXg
 have h := h.setPos (f := f) (r := r) hst.out hnn.out (f.pos + 1)
 rw [show (((f.pos + 1 : Nat) : Int)) = (f.pos : Int) + 1 by omega] at h
 clear hkg q0 u3
 generalize wd.setCell ⟨g, nn * 4 + 3, none⟩ (.int .i64 ((f.pos : Int) + 1)) = we at hb1 hbX h ⊢
 obtain ⟨u1, hfz, x0, x4, x5, x6, hvs⟩ := rpost (s := s) (f := f) (r := r) h hnn.out hbX
 rw [hx.out] at hstep
 replace hstep := Aside0.mk hstep
 have hvl := Aside0.mk hT.out.vars
 have hdd := hi.out.d (by rw [hop.out]; decide)
 obtain ⟨kd, hkd⟩ : ∃ k : Nat, x.f1 = (k : Int) := ⟨x.f1.toNat, by omega⟩
 have lkd : kd < f.vars.length := by have := hvl.out; omega
 have lkd' : (kd : Int) < (f.vars.length : Int) := by omega
 have x1 : we.cell? ⟨X, 1, none⟩ = some (.int .i64 kd) := by rw [← hkd]; exact blk_cell hbX 1
 have hkt : x.f1.toNat = kd := by omega
 clear hdd
 replace hkd := Aside0.mk hkd
 replace hkt := Aside0.mk hkt
 have hda := hi.out.a (by rw [hop.out]; decide)
 obtain ⟨ka, hka⟩ : ∃ k : Nat, x.f2 = (k : Int) := ⟨x.f2.toNat, by omega⟩
 have lka : ka < f.vars.length := by have := hT.out.vars; omega
 have lka' : (ka : Int) < (f.vars.length : Int) := by omega
 have x2 : we.cell? ⟨X, 2, none⟩ = some (.int .i64 ka) := by rw [← hka]; exact blk_cell hbX 2
 obtain ⟨va, hva⟩ : ∃ v, varAt f.vars x.f2 = v := ⟨_, rfl⟩
 obtain ⟨a0, a1, a2⟩ := vals_at hvs ka lka
 rw [← hka, hva] at a0 a1 a2
 clear hda
 replace hka := Aside0.mk hka
 replace hva := Aside0.mk hva
 have hdb := hi.out.b (by rw [hop.out]; decide)
 obtain ⟨kb, hkb⟩ : ∃ k : Nat, x.f3 = (k : Int) := ⟨x.f3.toNat, by omega⟩
 have lkb : kb < f.vars.length := by have := hT.out.vars; omega
 have lkb' : (kb : Int) < (f.vars.length : Int) := by omega
 have x3 : we.cell? ⟨X, 3, none⟩ = some (.int .i64 kb) := by rw [← hkb]; exact blk_cell hbX 3
 obtain ⟨vb', hvb⟩ : ∃ v, varAt f.vars x.f3 = v := ⟨_, rfl⟩
 obtain ⟨z0, z1, z2⟩ := vals_at hvs kb lkb
 rw [← hkb, hvb] at z0 z1 z2
 clear hdb
 replace hkb := Aside0.mk hkb
 replace hvb := Aside0.mk hvb
 go_upto_region 14 with (fail)
 go_still_tail 18, (by kernel_rfl)
 have hBd : Bel we we.drew := (Bel.refl we).drewN 1
 have h := h.step hBd
 replace hvs : ValsAt we.drew vb f.vars := hBd.blk hvs
 change wpList _ _ _ _ _ we.drew
 generalize we.drew = we at h hvs ⊢
 obtain ⟨y0, y1, y2⟩ := ValsAt.at_ hvs kd lkd
 have w0' := blk_frozen hvs (kd * 3)
 have w1' := blk_frozen hvs (kd * 3 + 1)
 have w2' := blk_frozen hvs (kd * 3 + 2)
 go_wp2
 go_end0
 have h := h.setV (f := { f with pos := f.pos + 1 }) (r := r) rfl (vs := f.vars.set kd ⟨wr64 (va.f0 - vb'.f0), 0, 0⟩) (by simp) (KO.set3 vb _ _ _ _ _ _ _) (ValsAt.put hvs kd lkd ⟨wr64 (va.f0 - vb'.f0), 0, 0⟩)
 refine .of h ?_
 rw [hstep.out, hkt.out]
 try rw [hva.out]
 try rw [hvb.out]
 all_goals rfl
set_option maxHeartbeats 4000000 in
theorem rstep5 (hop : (insAt p f).f0 = 5) : Calls Try.prog 23 #[.pointer (some ⟨sb, 0, none⟩), .agg #[.slice PA p.f0.length pc]] W (RStepIs w0 sb (stepL p s)) := by
 have hstep := stepL_some (p := p) hG.stack (v := ⟨wr64 ((varAt f.vars (insAt p f).f2).f0 * (varAt f.vars (insAt p f).f3).f0), 0, 0⟩) (by simp [reckonL, hop])
 obtain ⟨g, sc, vb, nn, b1, c4, d4, c6, cl, bl, pl, fs, adp, ad4, ad5, A6, x, rfl, rfl, rfl, hn60, e7, e1, l1, h, hB0, hb1, hY, hR6, lpos, lblk, lfn, ep, hpb, hi, hfi, hlen, hnn, hst, hx, hpl', hb1n, hT⟩ := rpre w0 p sb W s fs os sv ev hv PA pc hP h hp f r hG hs4
 rw [hx.out] at hop
 rw [hop] at hY
 replace hY := Aside0.mk hY
 rw [hpl'.out]
 replace hop := Aside0.mk hop
 replace hG := Aside0.mk hG
 go_enter Try.func23, Try.ntmps23
 go_upto_region 1 with (fail)
 rw [hb1n.out]
 have h := h.step hB0
 generalize W.alloc (.cells #[.slice (some adp) pl pc] 24) = wa at hB0 hb1 h ⊢
 have hm := h.blk
 have q0 := blk_frozen hm 6
 have q1 : wa.cell? ⟨sb, 6, none⟩ = some (.int .i64 s.steps) := blk_cell hm 6
 go_upto_region 2 with (fail)
 have hKs := KO.set sb 6 wa (.int .i64 ((s.steps : Int) + 1))
 have h := h.setS (s1 := { s with steps := s.steps + 1 }) hKs rfl rfl rfl ((blk_set hm 6 _).trans rfl)
 have hsb1 : b1 ≠ sb := two_types hb1 hm (by decide)
 replace hb1 := hKs.blk hb1 hsb1
 clear q0 q1 hm hKs hB0
 generalize wa.setCell ⟨sb, 6, none⟩ (.int .i64 ((s.steps : Int) + 1)) = wb at hb1 h ⊢
 have z0 : wb.cell? ⟨sb, 0, none⟩ = some (.slice (some ⟨g, 0, none⟩) (nn + 1) sc) := blk_cell h.blk 0
 go_quiet (fail)
 clear z0
 have hBn : Bel wb (wb.drewN nq) := (Bel.refl wb).drewN nq
 have h := h.step hBn
 replace hb1 := hBn.blk hb1
 generalize wb.drewN nq = wc at h hb1 ⊢
 clear hBn
 go_upto_region 3 with (fail)
 obtain ⟨u0, u1, u2, u3, -⟩ := h.top (f := f) (r := r) hst.out hnn.out
 have ub : wc.cell? ⟨b1, 0, none⟩ = some (.slice (some adp) pl pc) := blk_cell hb1 0
 have hS := Aside0.mk (fun (X : World) (q : Bel wc X) => hY.out wc X h.bel q ub u0 u2 u3)
 have hBd : Bel wc wc.drew := (Bel.refl wc).drewN 1
 clear u0 u1 u2 u3 ub hY
 refine wp_region_held_drew (S := SR b1 g nn f adp pl pc ad4 ad5 A6 bl c4 cl d4 c6 5 x) (by kernel_rfl) (hS.out _ hBd) (fun hHeld => ?_)
 refine takeH [0, 1, 2, 3, 4, 5, 6, 7, 8, 9, 10, 11, 12, 13, 14, 15, 16, 17, 18, 19, 20, 21] (by kernel_rfl) (by kernel_rfl) hHeld ?_
 iterate 22 (refine takeI (v := ?_) rfl rfl (fun _ _ _ h => h) (Or.inl ⟨by kernel_rfl, ?_⟩) ?_; rotate_left 1; focus (intro w hSw; (try dsimp only at hSw); go_simp; (try with_reducible rfl); done); try simp only [Act.put, z1, z2, z3, z4, z5, z6])
 refine takeE ?_
 try dsimp only
 refine wpAnyH_ready (rs := [22]) (by kernel_rfl) (by simp) ?_
 refine AllReadyH.cons rfl (fun K hK => ?_) AllReadyH.nil
 go_simp
 refine hK.out _ _ ?_ (fun hHeld => ?_)
 rotate_left 1
 clear hK K
 try simp only [Act.put, z1, z2, z3, z4, z5, z6]
 rotate_left 1
 ·exact hS.out _ (hBd.alloc _)
 refine wpAnyH_ready (rs := [23]) (by kernel_rfl) (by simp) ?_
 refine AllReadyH.cons rfl (fun K hK => ?_) AllReadyH.nil
 go_simp
 refine hK.out _ _ ?_ (fun hHeld => ?_)
 rotate_left 1
 clear hK K
 try simp only [Act.put, z1, z2, z3, z4, z5, z6]
 rotate_left 1
 ·exact hS.out _ (((Bel.refl wc).alloc _).drewN 1)
 refine wpAnyH_done (by kernel_rfl) ?_ _
 clear hS hHeld hBd
 obtain ⟨X, hX⟩ : ∃ X, wc.heap.size = X := ⟨_, rfl⟩
 have hBc : Bel wc (wc.alloc (.cells #[.int .i64 5, .int .i64 x.f1, .int .i64 x.f2, .int .i64 x.f3, .int .i64 x.f4, .int .i64 x.f5, .slice A6 x.f6.length c6] 57)).drew := ((Bel.refl wc).alloc _).drewN 1
 have hbX : (wc.alloc (.cells #[.int .i64 5, .int .i64 x.f1, .int .i64 x.f2, .int .i64 x.f3, .int .i64 x.f4, .int .i64 x.f5, .slice A6 x.f6.length c6] 57)).drew.heap[X]? = some (.cells #[.int .i64 5, .int .i64 x.f1, .int .i64 x.f2, .int .i64 x.f3, .int .i64 x.f4, .int .i64 x.f5, .slice A6 x.f6.length c6] 57 (0, 0)) := heap_new' (W := wc) hX.symm
 rw [hX]
 have h := h.step hBc
 replace hb1 := hBc.blk hb1
 generalize (wc.alloc (.cells #[.int .i64 5, .int .i64 x.f1, .int .i64 x.f2, .int .i64 x.f3, .int .i64 x.f4, .int .i64 x.f5, .slice A6 x.f6.length c6] 57)).drew = wd at hBc hbX h hb1 ⊢
 replace hX := Aside0.mk hX
 clear hBc
 obtain ⟨u0, u1, u2, u3, hz⟩ := h.top (f := f) (r := r) hst.out hnn.out
 have q0 := hz (nn * 4 + 3)
 clear u0 u1 u2 hz
 go_upto_region 5 with (fail)
 have hkg := KO.set g (nn * 4 + 3) wd (.int .i64 ((f.pos : Int) + 1))
 have hbg := h.neG hb1 (by decide)
 have hXg := h.neG hbX (by decide)
 replace hb1 := hkg.blk hb1 hbg
 replace hbX := hkg.blk hbX hXg
 have h := h.setPos (f := f) (r := r) hst.out hnn.out (f.pos + 1)
 rw [show (((f.pos + 1 : Nat) : Int)) = (f.pos : Int) + 1 by omega] at h
 clear hkg q0 u3
 generalize wd.setCell ⟨g, nn * 4 + 3, none⟩ (.int .i64 ((f.pos : Int) + 1)) = we at hb1 hbX h ⊢
 obtain ⟨u1, hfz, x0, x4, x5, x6, hvs⟩ := rpost (s := s) (f := f) (r := r) h hnn.out hbX
 rw [hx.out] at hstep
 replace hstep := Aside0.mk hstep
 have hvl := Aside0.mk hT.out.vars
 have hdd := hi.out.d (by rw [hop.out]; decide)
 obtain ⟨kd, hkd⟩ : ∃ k : Nat, x.f1 = (k : Int) := ⟨x.f1.toNat, by omega⟩
 have lkd : kd < f.vars.length := by have := hvl.out; omega
 have lkd' : (kd : Int) < (f.vars.length : Int) := by omega
 have x1 : we.cell? ⟨X, 1, none⟩ = some (.int .i64 kd) := by rw [← hkd]; exact blk_cell hbX 1
 have hkt : x.f1.toNat = kd := by omega
 clear hdd
 replace hkd := Aside0.mk hkd
 replace hkt := Aside0.mk hkt
 have hda := hi.out.a (by rw [hop.out]; decide)
 obtain ⟨ka, hka⟩ : ∃ k : Nat, x.f2 = (k : Int) := ⟨x.f2.toNat, by omega⟩
 have lka : ka < f.vars.length := by have := hT.out.vars; omega
 have lka' : (ka : Int) < (f.vars.length : Int) := by omega
 have x2 : we.cell? ⟨X, 2, none⟩ = some (.int .i64 ka) := by rw [← hka]; exact blk_cell hbX 2
 obtain ⟨va, hva⟩ : ∃ v, varAt f.vars x.f2 = v := ⟨_, rfl⟩
 obtain ⟨a0, a1, a2⟩ := vals_at hvs ka lka
 rw [← hka, hva] at a0 a1 a2
 clear hda
 replace hka := Aside0.mk hka
 replace hva := Aside0.mk hva
 have hdb := hi.out.b (by rw [hop.out]; decide)
 obtain ⟨kb, hkb⟩ : ∃ k : Nat, x.f3 = (k : Int) := ⟨x.f3.toNat, by omega⟩
 have lkb : kb < f.vars.length := by have := hT.out.vars; omega
 have lkb' : (kb : Int) < (f.vars.length : Int) := by omega
 have x3 : we.cell? ⟨X, 3, none⟩ = some (.int .i64 kb) := by rw [← hkb]; exact blk_cell hbX 3
 obtain ⟨vb', hvb⟩ : ∃ v, varAt f.vars x.f3 = v := ⟨_, rfl⟩
 obtain ⟨z0, z1, z2⟩ := vals_at hvs kb lkb
 rw [← hkb, hvb] at z0 z1 z2
 clear hdb
 replace hkb := Aside0.mk hkb
 replace hvb := Aside0.mk hvb
 go_upto_region 16 with (fail)
 go_still_tail 18, (by kernel_rfl)
 have hBd : Bel we we.drew := (Bel.refl we).drewN 1
 have h := h.step hBd
 replace hvs : ValsAt we.drew vb f.vars := hBd.blk hvs
 change wpList _ _ _ _ _ we.drew
 generalize we.drew = we at h hvs ⊢
 obtain ⟨y0, y1, y2⟩ := ValsAt.at_ hvs kd lkd
 have w0' := blk_frozen hvs (kd * 3)
 have w1' := blk_frozen hvs (kd * 3 + 1)
 have w2' := blk_frozen hvs (kd * 3 + 2)
 go_wp2
 go_end0
 have h := h.setV (f := { f with pos := f.pos + 1 }) (r := r) rfl (vs := f.vars.set kd ⟨wr64 (va.f0 * vb'.f0), 0, 0⟩) (by simp) (KO.set3 vb _ _ _ _ _ _ _) (ValsAt.put hvs kd lkd ⟨wr64 (va.f0 * vb'.f0), 0, 0⟩)
 refine .of h ?_
 rw [hstep.out, hkt.out]
 try rw [hva.out]
 try rw [hvb.out]
 all_goals rfl
set_option maxHeartbeats 4000000 in
theorem rstep6 (hop : (insAt p f).f0 = 6) : Calls Try.prog 23 #[.pointer (some ⟨sb, 0, none⟩), .agg #[.slice PA p.f0.length pc]] W (RStepIs w0 sb (stepL p s)) := by
 have hstep := stepL_some (p := p) hG.stack (v := bitV (decide ((varAt f.vars (insAt p f).f2).f0 < (varAt f.vars (insAt p f).f3).f0))) (by simp [reckonL, hop])
 obtain ⟨g, sc, vb, nn, b1, c4, d4, c6, cl, bl, pl, fs, adp, ad4, ad5, A6, x, rfl, rfl, rfl, hn60, e7, e1, l1, h, hB0, hb1, hY, hR6, lpos, lblk, lfn, ep, hpb, hi, hfi, hlen, hnn, hst, hx, hpl', hb1n, hT⟩ := rpre w0 p sb W s fs os sv ev hv PA pc hP h hp f r hG hs4
 rw [hx.out] at hop
 rw [hop] at hY
 replace hY := Aside0.mk hY
 rw [hpl'.out]
 replace hop := Aside0.mk hop
 replace hG := Aside0.mk hG
 go_enter Try.func23, Try.ntmps23
 go_upto_region 1 with (fail)
 rw [hb1n.out]
 have h := h.step hB0
 generalize W.alloc (.cells #[.slice (some adp) pl pc] 24) = wa at hB0 hb1 h ⊢
 have hm := h.blk
 have q0 := blk_frozen hm 6
 have q1 : wa.cell? ⟨sb, 6, none⟩ = some (.int .i64 s.steps) := blk_cell hm 6
 go_upto_region 2 with (fail)
 have hKs := KO.set sb 6 wa (.int .i64 ((s.steps : Int) + 1))
 have h := h.setS (s1 := { s with steps := s.steps + 1 }) hKs rfl rfl rfl ((blk_set hm 6 _).trans rfl)
 have hsb1 : b1 ≠ sb := two_types hb1 hm (by decide)
 replace hb1 := hKs.blk hb1 hsb1
 clear q0 q1 hm hKs hB0
 generalize wa.setCell ⟨sb, 6, none⟩ (.int .i64 ((s.steps : Int) + 1)) = wb at hb1 h ⊢
 have z0 : wb.cell? ⟨sb, 0, none⟩ = some (.slice (some ⟨g, 0, none⟩) (nn + 1) sc) := blk_cell h.blk 0
 go_quiet (fail)
 clear z0
 have hBn : Bel wb (wb.drewN nq) := (Bel.refl wb).drewN nq
 have h := h.step hBn
 replace hb1 := hBn.blk hb1
 generalize wb.drewN nq = wc at h hb1 ⊢
 clear hBn
 go_upto_region 3 with (fail)
 obtain ⟨u0, u1, u2, u3, -⟩ := h.top (f := f) (r := r) hst.out hnn.out
 have ub : wc.cell? ⟨b1, 0, none⟩ = some (.slice (some adp) pl pc) := blk_cell hb1 0
 have hS := Aside0.mk (fun (X : World) (q : Bel wc X) => hY.out wc X h.bel q ub u0 u2 u3)
 have hBd : Bel wc wc.drew := (Bel.refl wc).drewN 1
 clear u0 u1 u2 u3 ub hY
 refine wp_region_held_drew (S := SR b1 g nn f adp pl pc ad4 ad5 A6 bl c4 cl d4 c6 6 x) (by kernel_rfl) (hS.out _ hBd) (fun hHeld => ?_)
 refine takeH [0, 1, 2, 3, 4, 5, 6, 7, 8, 9, 10, 11, 12, 13, 14, 15, 16, 17, 18, 19, 20, 21] (by kernel_rfl) (by kernel_rfl) hHeld ?_
 iterate 22 (refine takeI (v := ?_) rfl rfl (fun _ _ _ h => h) (Or.inl ⟨by kernel_rfl, ?_⟩) ?_; rotate_left 1; focus (intro w hSw; (try dsimp only at hSw); go_simp; (try with_reducible rfl); done); try simp only [Act.put, z1, z2, z3, z4, z5, z6])
 refine takeE ?_
 try dsimp only
 refine wpAnyH_ready (rs := [22]) (by kernel_rfl) (by simp) ?_
 refine AllReadyH.cons rfl (fun K hK => ?_) AllReadyH.nil
 go_simp
 refine hK.out _ _ ?_ (fun hHeld => ?_)
 rotate_left 1
 clear hK K
 try simp only [Act.put, z1, z2, z3, z4, z5, z6]
 rotate_left 1
 ·exact hS.out _ (hBd.alloc _)
 refine wpAnyH_ready (rs := [23]) (by kernel_rfl) (by simp) ?_
 refine AllReadyH.cons rfl (fun K hK => ?_) AllReadyH.nil
 go_simp
 refine hK.out _ _ ?_ (fun hHeld => ?_)
 rotate_left 1
 clear hK K
 try simp only [Act.put, z1, z2, z3, z4, z5, z6]
 rotate_left 1
 ·exact hS.out _ (((Bel.refl wc).alloc _).drewN 1)
 refine wpAnyH_done (by kernel_rfl) ?_ _
 clear hS hHeld hBd
 obtain ⟨X, hX⟩ : ∃ X, wc.heap.size = X := ⟨_, rfl⟩
 have hBc : Bel wc (wc.alloc (.cells #[.int .i64 6, .int .i64 x.f1, .int .i64 x.f2, .int .i64 x.f3, .int .i64 x.f4, .int .i64 x.f5, .slice A6 x.f6.length c6] 57)).drew := ((Bel.refl wc).alloc _).drewN 1
 have hbX : (wc.alloc (.cells #[.int .i64 6, .int .i64 x.f1, .int .i64 x.f2, .int .i64 x.f3, .int .i64 x.f4, .int .i64 x.f5, .slice A6 x.f6.length c6] 57)).drew.heap[X]? = some (.cells #[.int .i64 6, .int .i64 x.f1, .int .i64 x.f2, .int .i64 x.f3, .int .i64 x.f4, .int .i64 x.f5, .slice A6 x.f6.length c6] 57 (0, 0)) := heap_new' (W := wc) hX.symm
 rw [hX]
 have h := h.step hBc
 replace hb1 := hBc.blk hb1
 generalize (wc.alloc (.cells #[.int .i64 6, .int .i64 x.f1, .int .i64 x.f2, .int .i64 x.f3, .int .i64 x.f4, .int .i64 x.f5, .slice A6 x.f6.length c6] 57)).drew = wd at hBc hbX h hb1 ⊢
 replace hX := Aside0.mk hX
 clear hBc
 obtain ⟨u0, u1, u2, u3, hz⟩ := h.top (f := f) (r := r) hst.out hnn.out
 have q0 := hz (nn * 4 + 3)
 clear u0 u1 u2 hz
 go_upto_region 5 with (fail)
 have hkg := KO.set g (nn * 4 + 3) wd (.int .i64 ((f.pos : Int) + 1))
 have hbg := h.neG hb1 (by decide)
 have hXg := h.neG hbX (by decide)
 replace hb1 := hkg.blk hb1 hbg
 replace hbX := hkg.blk hbX hXg
 have h := h.setPos (f := f) (r := r) hst.out hnn.out (f.pos + 1)
 rw [show (((f.pos + 1 : Nat) : Int)) = (f.pos : Int) + 1 by omega] at h
 clear hkg q0 u3
 generalize wd.setCell ⟨g, nn * 4 + 3, none⟩ (.int .i64 ((f.pos : Int) + 1)) = we at hb1 hbX h ⊢
 obtain ⟨u1, hfz, x0, x4, x5, x6, hvs⟩ := rpost (s := s) (f := f) (r := r) h hnn.out hbX
 rw [hx.out] at hstep
 replace hstep := Aside0.mk hstep
 have hvl := Aside0.mk hT.out.vars
 have hdd := hi.out.d (by rw [hop.out]; decide)
 obtain ⟨kd, hkd⟩ : ∃ k : Nat, x.f1 = (k : Int) := ⟨x.f1.toNat, by omega⟩
 have lkd : kd < f.vars.length := by have := hvl.out; omega
 have lkd' : (kd : Int) < (f.vars.length : Int) := by omega
 have x1 : we.cell? ⟨X, 1, none⟩ = some (.int .i64 kd) := by rw [← hkd]; exact blk_cell hbX 1
 have hkt : x.f1.toNat = kd := by omega
 clear hdd
 replace hkd := Aside0.mk hkd
 replace hkt := Aside0.mk hkt
 have hda := hi.out.a (by rw [hop.out]; decide)
 obtain ⟨ka, hka⟩ : ∃ k : Nat, x.f2 = (k : Int) := ⟨x.f2.toNat, by omega⟩
 have lka : ka < f.vars.length := by have := hT.out.vars; omega
 have lka' : (ka : Int) < (f.vars.length : Int) := by omega
 have x2 : we.cell? ⟨X, 2, none⟩ = some (.int .i64 ka) := by rw [← hka]; exact blk_cell hbX 2
 obtain ⟨va, hva⟩ : ∃ v, varAt f.vars x.f2 = v := ⟨_, rfl⟩
 obtain ⟨a0, a1, a2⟩ := vals_at hvs ka lka
 rw [← hka, hva] at a0 a1 a2
 clear hda
 replace hka := Aside0.mk hka
 replace hva := Aside0.mk hva
 have hdb := hi.out.b (by rw [hop.out]; decide)
 obtain ⟨kb, hkb⟩ : ∃ k : Nat, x.f3 = (k : Int) := ⟨x.f3.toNat, by omega⟩
 have lkb : kb < f.vars.length := by have := hT.out.vars; omega
 have lkb' : (kb : Int) < (f.vars.length : Int) := by omega
 have x3 : we.cell? ⟨X, 3, none⟩ = some (.int .i64 kb) := by rw [← hkb]; exact blk_cell hbX 3
 obtain ⟨vb', hvb⟩ : ∃ v, varAt f.vars x.f3 = v := ⟨_, rfl⟩
 obtain ⟨z0, z1, z2⟩ := vals_at hvs kb lkb
 rw [← hkb, hvb] at z0 z1 z2
 clear hdb
 replace hkb := Aside0.mk hkb
 replace hvb := Aside0.mk hvb
 go_upto_region 18 with (fail)
 have u1 := Bel.cell ((Bel.refl we).drewN 1) x1
 have u2 := Bel.cell ((Bel.refl we).drewN 1) x2
 have u3 := Bel.cell ((Bel.refl we).drewN 1) x3
 have v1 := Bel.cell ((Bel.refl we).drewN 1) a0
 have v3 := Bel.cell ((Bel.refl we).drewN 1) z0
 refine wp_region_last_drew (S := fun w' => w'.cell? ⟨X, 1, none⟩ = some (.int .i64 kd) ∧ w'.cell? ⟨X, 2, none⟩ = some (.int .i64 ka) ∧ w'.cell? ⟨vb, ka * 3, none⟩ = some (.int .i64 va.f0)∧ w'.cell? ⟨X, 3, none⟩ = some (.int .i64 kb) ∧ w'.cell? ⟨vb, kb * 3, none⟩ = some (.int .i64 vb'.f0)) (ds := [19]) (by kernel_rfl) ⟨u1, u2, v1, u3, v3⟩ (fun hHeld => ?_)
 refine takeL [0, 1, 2, 3, 4, 5, 6, 7, 8, 9, 10, 11, 12, 13, 14, 15] (by kernel_rfl) (by kernel_rfl) hHeld ?_
 iterate 16 (refine takeI (v := ?_) rfl rfl (fun _ _ _ h => h) (Or.inl ⟨by kernel_rfl, ?_⟩) ?_; rotate_left 1; focus (intro w hSw; (try dsimp only at hSw); go_simp; (try with_reducible rfl); done); try simp only [Act.put, z1, z2, z3, z4, z5, z6])
 refine takeE ?_
 try dsimp only
 refine wpAnyLast_ready (rs := [16]) (by kernel_rfl) (by simp) ?_
 refine AllReadyL.cons rfl (by decide) (fun K hK => ?_) AllReadyL.nil
 go_simp
 (go_at_call 37; refine (rbit_any _ _).mono ?_; rintro ex w2 ⟨rfl, rfl⟩)
 refine hK.out _ _ ?_ (fun hHeld => ?_)
 rotate_left 1
 clear hK K
 try simp only [Act.put, z1, z2, z3, z4, z5, z6]
 rotate_left 1
 ·exact ⟨u1, u2, v1, u3, v3⟩
 obtain ⟨y0, y1, y2⟩ := ValsAt.at_ hvs kd lkd
 have w0' := blk_frozen hvs (kd * 3)
 have w1' := blk_frozen hvs (kd * 3 + 1)
 have w2' := blk_frozen hvs (kd * 3 + 2)
 refine takeL [17, 18] (by kernel_rfl) (by kernel_rfl) hHeld ?_
 iterate 2 (refine takeI (v := ?_) rfl rfl (fun _ _ _ h => h) (Or.inl ⟨by kernel_rfl, ?_⟩) ?_; rotate_left 1; focus (intro w hSw; (try dsimp only at hSw); go_simp; (try with_reducible rfl); done); try simp only [Act.put, z1, z2, z3, z4, z5, z6])
 refine takeE ?_
 try dsimp only
 refine wpAnyLast_ready (rs := [19]) (by kernel_rfl) (by simp) ?_
 refine AllReadyL.cons_last rfl (by decide) (fun K hK => ?_) AllReadyL.nil
 go_simp
 refine hK.out _ _ ?_
 clear hK K
 try simp only [Act.put, z1, z2, z3, z4, z5, z6]
 refine wpAnyLast_done (by kernel_rfl) ?_ _
 go_wp2
 go_end0
 have h := (h.setV (f := { f with pos := f.pos + 1 }) (r := r) rfl (vs := f.vars.set kd (bitV (decide (va.f0 < vb'.f0)))) (by simp) (KO.set3 vb _ _ _ _ _ _ _) (ValsAt.put hvs kd lkd (bitV (decide (va.f0 < vb'.f0))))).step ((Bel.refl _).drewN 1)
 refine .of h ?_
 rw [hstep.out, hkt.out]
 try rw [hva.out]
 try rw [hvb.out]
 all_goals rfl
set_option maxHeartbeats 4000000 in
theorem rstep8 (hop : (insAt p f).f0 = 8) : Calls Try.prog 23 #[.pointer (some ⟨sb, 0, none⟩), .agg #[.slice PA p.f0.length pc]] W (RStepIs w0 sb (stepL p s)) := by
 have hstep := stepL_some (p := p) hG.stack (v := bitV ((varAt f.vars (insAt p f).f2).f1 == 0)) (by simp [reckonL, hop])
 obtain ⟨g, sc, vb, nn, b1, c4, d4, c6, cl, bl, pl, fs, adp, ad4, ad5, A6, x, rfl, rfl, rfl, hn60, e7, e1, l1, h, hB0, hb1, hY, hR6, lpos, lblk, lfn, ep, hpb, hi, hfi, hlen, hnn, hst, hx, hpl', hb1n, hT⟩ := rpre w0 p sb W s fs os sv ev hv PA pc hP h hp f r hG hs4
 rw [hx.out] at hop
 rw [hop] at hY
 replace hY := Aside0.mk hY
 rw [hpl'.out]
 replace hop := Aside0.mk hop
 replace hG := Aside0.mk hG
 go_enter Try.func23, Try.ntmps23
 go_upto_region 1 with (fail)
 rw [hb1n.out]
 have h := h.step hB0
 generalize W.alloc (.cells #[.slice (some adp) pl pc] 24) = wa at hB0 hb1 h ⊢
 have hm := h.blk
 have q0 := blk_frozen hm 6
 have q1 : wa.cell? ⟨sb, 6, none⟩ = some (.int .i64 s.steps) := blk_cell hm 6
 go_upto_region 2 with (fail)
 have hKs := KO.set sb 6 wa (.int .i64 ((s.steps : Int) + 1))
 have h := h.setS (s1 := { s with steps := s.steps + 1 }) hKs rfl rfl rfl ((blk_set hm 6 _).trans rfl)
 have hsb1 : b1 ≠ sb := two_types hb1 hm (by decide)
 replace hb1 := hKs.blk hb1 hsb1
 clear q0 q1 hm hKs hB0
 generalize wa.setCell ⟨sb, 6, none⟩ (.int .i64 ((s.steps : Int) + 1)) = wb at hb1 h ⊢
 have z0 : wb.cell? ⟨sb, 0, none⟩ = some (.slice (some ⟨g, 0, none⟩) (nn + 1) sc) := blk_cell h.blk 0
 go_quiet (fail)
 clear z0
 have hBn : Bel wb (wb.drewN nq) := (Bel.refl wb).drewN nq
 have h := h.step hBn
 replace hb1 := hBn.blk hb1
 generalize wb.drewN nq = wc at h hb1 ⊢
 clear hBn
 go_upto_region 3 with (fail)
 obtain ⟨u0, u1, u2, u3, -⟩ := h.top (f := f) (r := r) hst.out hnn.out
 have ub : wc.cell? ⟨b1, 0, none⟩ = some (.slice (some adp) pl pc) := blk_cell hb1 0
 have hS := Aside0.mk (fun (X : World) (q : Bel wc X) => hY.out wc X h.bel q ub u0 u2 u3)
 have hBd : Bel wc wc.drew := (Bel.refl wc).drewN 1
 clear u0 u1 u2 u3 ub hY
 refine wp_region_held_drew (S := SR b1 g nn f adp pl pc ad4 ad5 A6 bl c4 cl d4 c6 8 x) (by kernel_rfl) (hS.out _ hBd) (fun hHeld => ?_)
 refine takeH [0, 1, 2, 3, 4, 5, 6, 7, 8, 9, 10, 11, 12, 13, 14, 15, 16, 17, 18, 19, 20, 21] (by kernel_rfl) (by kernel_rfl) hHeld ?_
 iterate 22 (refine takeI (v := ?_) rfl rfl (fun _ _ _ h => h) (Or.inl ⟨by kernel_rfl, ?_⟩) ?_; rotate_left 1; focus (intro w hSw; (try dsimp only at hSw); go_simp; (try with_reducible rfl); done); try simp only [Act.put, z1, z2, z3, z4, z5, z6])
 refine takeE ?_
 try dsimp only
 refine wpAnyH_ready (rs := [22]) (by kernel_rfl) (by simp) ?_
 refine AllReadyH.cons rfl (fun K hK => ?_) AllReadyH.nil
 go_simp
 refine hK.out _ _ ?_ (fun hHeld => ?_)
 rotate_left 1
 clear hK K
 try simp only [Act.put, z1, z2, z3, z4, z5, z6]
 rotate_left 1
 ·exact hS.out _ (hBd.alloc _)
 refine wpAnyH_ready (rs := [23]) (by kernel_rfl) (by simp) ?_
 refine AllReadyH.cons rfl (fun K hK => ?_) AllReadyH.nil
 go_simp
 refine hK.out _ _ ?_ (fun hHeld => ?_)
 rotate_left 1
 clear hK K
 try simp only [Act.put, z1, z2, z3, z4, z5, z6]
 rotate_left 1
 ·exact hS.out _ (((Bel.refl wc).alloc _).drewN 1)
 refine wpAnyH_done (by kernel_rfl) ?_ _
 clear hS hHeld hBd
 obtain ⟨X, hX⟩ : ∃ X, wc.heap.size = X := ⟨_, rfl⟩
 have hBc : Bel wc (wc.alloc (.cells #[.int .i64 8, .int .i64 x.f1, .int .i64 x.f2, .int .i64 x.f3, .int .i64 x.f4, .int .i64 x.f5, .slice A6 x.f6.length c6] 57)).drew := ((Bel.refl wc).alloc _).drewN 1
 have hbX : (wc.alloc (.cells #[.int .i64 8, .int .i64 x.f1, .int .i64 x.f2, .int .i64 x.f3, .int .i64 x.f4, .int .i64 x.f5, .slice A6 x.f6.length c6] 57)).drew.heap[X]? = some (.cells #[.int .i64 8, .int .i64 x.f1, .int .i64 x.f2, .int .i64 x.f3, .int .i64 x.f4, .int .i64 x.f5, .slice A6 x.f6.length c6] 57 (0, 0)) := heap_new' (W := wc) hX.symm
 rw [hX]
 have h := h.step hBc
 replace hb1 := hBc.blk hb1
 generalize (wc.alloc (.cells #[.int .i64 8, .int .i64 x.f1, .int .i64 x.f2, .int .i64 x.f3, .int .i64 x.f4, .int .i64 x.f5, .slice A6 x.f6.length c6] 57)).drew = wd at hBc hbX h hb1 ⊢
 replace hX := Aside0.mk hX
 clear hBc
 obtain ⟨u0, u1, u2, u3, hz⟩ := h.top (f := f) (r := r) hst.out hnn.out
 have q0 := hz (nn * 4 + 3)
 clear u0 u1 u2 hz
 go_upto_region 5 with (fail)
 have hkg := KO.set g (nn * 4 + 3) wd (.int .i64 ((f.pos : Int) + 1))
 have hbg := h.neG hb1 (by decide)
 have hXg := h.neG hbX (by decide)
 replace hb1 := hkg.blk hb1 hbg
 replace hbX := hkg.blk hbX hXg
 have h := h.setPos (f := f) (r := r) hst.out hnn.out (f.pos + 1)
 rw [show (((f.pos + 1 : Nat) : Int)) = (f.pos : Int) + 1 by omega] at h
 clear hkg q0 u3
 generalize wd.setCell ⟨g, nn * 4 + 3, none⟩ (.int .i64 ((f.pos : Int) + 1)) = we at hb1 hbX h ⊢
 obtain ⟨u1, hfz, x0, x4, x5, x6, hvs⟩ := rpost (s := s) (f := f) (r := r) h hnn.out hbX
 rw [hx.out] at hstep
 replace hstep := Aside0.mk hstep
 have hvl := Aside0.mk hT.out.vars
 have hdd := hi.out.d (by rw [hop.out]; decide)
 obtain ⟨kd, hkd⟩ : ∃ k : Nat, x.f1 = (k : Int) := ⟨x.f1.toNat, by omega⟩
 have lkd : kd < f.vars.length := by have := hvl.out; omega
 have lkd' : (kd : Int) < (f.vars.length : Int) := by omega
 have x1 : we.cell? ⟨X, 1, none⟩ = some (.int .i64 kd) := by rw [← hkd]; exact blk_cell hbX 1
 have hkt : x.f1.toNat = kd := by omega
 clear hdd
 replace hkd := Aside0.mk hkd
 replace hkt := Aside0.mk hkt
 have hda := hi.out.a (by rw [hop.out]; decide)
 obtain ⟨ka, hka⟩ : ∃ k : Nat, x.f2 = (k : Int) := ⟨x.f2.toNat, by omega⟩
 have lka : ka < f.vars.length := by have := hT.out.vars; omega
 have lka' : (ka : Int) < (f.vars.length : Int) := by omega
 have x2 : we.cell? ⟨X, 2, none⟩ = some (.int .i64 ka) := by rw [← hka]; exact blk_cell hbX 2
 obtain ⟨va, hva⟩ : ∃ v, varAt f.vars x.f2 = v := ⟨_, rfl⟩
 obtain ⟨a0, a1, a2⟩ := vals_at hvs ka lka
 rw [← hka, hva] at a0 a1 a2
 clear hda
 replace hka := Aside0.mk hka
 replace hva := Aside0.mk hva
 skip
 go_upto_region 22 with (fail)
 have u1 := Bel.cell ((Bel.refl we).drewN 1) x1
 have u2 := Bel.cell ((Bel.refl we).drewN 1) x2
 skip
 have v1 := Bel.cell ((Bel.refl we).drewN 1) a1
 skip
 refine wp_region_last_drew (S := fun w' => w'.cell? ⟨X, 1, none⟩ = some (.int .i64 kd) ∧ w'.cell? ⟨X, 2, none⟩ = some (.int .i64 ka) ∧ w'.cell? ⟨vb, ka * 3+ 1, none⟩ = some (.int .i64 va.f1)) (ds := [13]) (by kernel_rfl) ⟨u1, u2, v1⟩ (fun hHeld => ?_)
 refine takeL [0, 1, 2, 3, 4, 5, 6, 7, 8, 9] (by kernel_rfl) (by kernel_rfl) hHeld ?_
 iterate 10 (refine takeI (v := ?_) rfl rfl (fun _ _ _ h => h) (Or.inl ⟨by kernel_rfl, ?_⟩) ?_; rotate_left 1; focus (intro w hSw; (try dsimp only at hSw); go_simp; (try with_reducible rfl); done); try simp only [Act.put, z1, z2, z3, z4, z5, z6])
 refine takeE ?_
 try dsimp only
 refine wpAnyLast_ready (rs := [10]) (by kernel_rfl) (by simp) ?_
 refine AllReadyL.cons rfl (by decide) (fun K hK => ?_) AllReadyL.nil
 go_simp
 (go_at_call 37; refine (rbit_any _ _).mono ?_; rintro ex w2 ⟨rfl, rfl⟩)
 refine hK.out _ _ ?_ (fun hHeld => ?_)
 rotate_left 1
 clear hK K
 try simp only [Act.put, z1, z2, z3, z4, z5, z6]
 rotate_left 1
 ·exact ⟨u1, u2, v1⟩
 obtain ⟨y0, y1, y2⟩ := ValsAt.at_ hvs kd lkd
 have w0' := blk_frozen hvs (kd * 3)
 have w1' := blk_frozen hvs (kd * 3 + 1)
 have w2' := blk_frozen hvs (kd * 3 + 2)
 refine takeL [11, 12] (by kernel_rfl) (by kernel_rfl) hHeld ?_
 iterate 2 (refine takeI (v := ?_) rfl rfl (fun _ _ _ h => h) (Or.inl ⟨by kernel_rfl, ?_⟩) ?_; rotate_left 1; focus (intro w hSw; (try dsimp only at hSw); go_simp; (try with_reducible rfl); done); try simp only [Act.put, z1, z2, z3, z4, z5, z6])
 refine takeE ?_
 try dsimp only
 refine wpAnyLast_ready (rs := [13]) (by kernel_rfl) (by simp) ?_
 refine AllReadyL.cons_last rfl (by decide) (fun K hK => ?_) AllReadyL.nil
 go_simp
 refine hK.out _ _ ?_
 clear hK K
 try simp only [Act.put, z1, z2, z3, z4, z5, z6]
 refine wpAnyLast_done (by kernel_rfl) ?_ _
 go_wp2
 go_end0
 have h := (h.setV (f := { f with pos := f.pos + 1 }) (r := r) rfl (vs := f.vars.set kd (bitV (va.f1 == 0))) (by simp) (KO.set3 vb _ _ _ _ _ _ _) (ValsAt.put hvs kd lkd (bitV (va.f1 == 0)))).step ((Bel.refl _).drewN 1)
 refine .of h ?_
 rw [hstep.out, hkt.out]
 try rw [hva.out]
 try rw [hvb.out]
 all_goals rfl
set_option maxHeartbeats 4000000 in
theorem rstep9 (hop : (insAt p f).f0 = 9) : Calls Try.prog 23 #[.pointer (some ⟨sb, 0, none⟩), .agg #[.slice PA p.f0.length pc]] W (RStepIs w0 sb (stepL p s)) := by
 have hstep := stepL_some (p := p) hG.stack (v := bitV ((varAt f.vars (insAt p f).f2).f1 == (varAt f.vars (insAt p f).f3).f1)) (by simp [reckonL, hop])
 obtain ⟨g, sc, vb, nn, b1, c4, d4, c6, cl, bl, pl, fs, adp, ad4, ad5, A6, x, rfl, rfl, rfl, hn60, e7, e1, l1, h, hB0, hb1, hY, hR6, lpos, lblk, lfn, ep, hpb, hi, hfi, hlen, hnn, hst, hx, hpl', hb1n, hT⟩ := rpre w0 p sb W s fs os sv ev hv PA pc hP h hp f r hG hs4
 rw [hx.out] at hop
 rw [hop] at hY
 replace hY := Aside0.mk hY
 rw [hpl'.out]
 replace hop := Aside0.mk hop
 replace hG := Aside0.mk hG
 go_enter Try.func23, Try.ntmps23
 go_upto_region 1 with (fail)
 rw [hb1n.out]
 have h := h.step hB0
 generalize W.alloc (.cells #[.slice (some adp) pl pc] 24) = wa at hB0 hb1 h ⊢
 have hm := h.blk
 have q0 := blk_frozen hm 6
 have q1 : wa.cell? ⟨sb, 6, none⟩ = some (.int .i64 s.steps) := blk_cell hm 6
 go_upto_region 2 with (fail)
 have hKs := KO.set sb 6 wa (.int .i64 ((s.steps : Int) + 1))
 have h := h.setS (s1 := { s with steps := s.steps + 1 }) hKs rfl rfl rfl ((blk_set hm 6 _).trans rfl)
 have hsb1 : b1 ≠ sb := two_types hb1 hm (by decide)
 replace hb1 := hKs.blk hb1 hsb1
 clear q0 q1 hm hKs hB0
 generalize wa.setCell ⟨sb, 6, none⟩ (.int .i64 ((s.steps : Int) + 1)) = wb at hb1 h ⊢
 have z0 : wb.cell? ⟨sb, 0, none⟩ = some (.slice (some ⟨g, 0, none⟩) (nn + 1) sc) := blk_cell h.blk 0
 go_quiet (fail)
 clear z0
 have hBn : Bel wb (wb.drewN nq) := (Bel.refl wb).drewN nq
 have h := h.step hBn
 replace hb1 := hBn.blk hb1
 generalize wb.drewN nq = wc at h hb1 ⊢
 clear hBn
 go_upto_region 3 with (fail)
 obtain ⟨u0, u1, u2, u3, -⟩ := h.top (f := f) (r := r) hst.out hnn.out
 have ub : wc.cell? ⟨b1, 0, none⟩ = some (.slice (some adp) pl pc) := blk_cell hb1 0
 have hS := Aside0.mk (fun (X : World) (q : Bel wc X) => hY.out wc X h.bel q ub u0 u2 u3)
 have hBd : Bel wc wc.drew := (Bel.refl wc).drewN 1
 clear u0 u1 u2 u3 ub hY
 refine wp_region_held_drew (S := SR b1 g nn f adp pl pc ad4 ad5 A6 bl c4 cl d4 c6 9 x) (by kernel_rfl) (hS.out _ hBd) (fun hHeld => ?_)
 refine takeH [0, 1, 2, 3, 4, 5, 6, 7, 8, 9, 10, 11, 12, 13, 14, 15, 16, 17, 18, 19, 20, 21] (by kernel_rfl) (by kernel_rfl) hHeld ?_
 iterate 22 (refine takeI (v := ?_) rfl rfl (fun _ _ _ h => h) (Or.inl ⟨by kernel_rfl, ?_⟩) ?_; rotate_left 1; focus (intro w hSw; (try dsimp only at hSw); go_simp; (try with_reducible rfl); done); try simp only [Act.put, z1, z2, z3, z4, z5, z6])
 refine takeE ?_
 try dsimp only
 refine wpAnyH_ready (rs := [22]) (by kernel_rfl) (by simp) ?_
 refine AllReadyH.cons rfl (fun K hK => ?_) AllReadyH.nil
 go_simp
 refine hK.out _ _ ?_ (fun hHeld => ?_)
 rotate_left 1
 clear hK K
 try simp only [Act.put, z1, z2, z3, z4, z5, z6]
 rotate_left 1
 ·exact hS.out _ (hBd.alloc _)
 refine wpAnyH_ready (rs := [23]) (by kernel_rfl) (by simp) ?_
 refine AllReadyH.cons rfl (fun K hK => ?_) AllReadyH.nil
 go_simp
 refine hK.out _ _ ?_ (fun hHeld => ?_)
 rotate_left 1
 clear hK K
 try simp only [Act.put, z1, z2, z3, z4, z5, z6]
 rotate_left 1
 ·exact hS.out _ (((Bel.refl wc).alloc _).drewN 1)
 refine wpAnyH_done (by kernel_rfl) ?_ _
 clear hS hHeld hBd
 obtain ⟨X, hX⟩ : ∃ X, wc.heap.size = X := ⟨_, rfl⟩
 have hBc : Bel wc (wc.alloc (.cells #[.int .i64 9, .int .i64 x.f1, .int .i64 x.f2, .int .i64 x.f3, .int .i64 x.f4, .int .i64 x.f5, .slice A6 x.f6.length c6] 57)).drew := ((Bel.refl wc).alloc _).drewN 1
 have hbX : (wc.alloc (.cells #[.int .i64 9, .int .i64 x.f1, .int .i64 x.f2, .int .i64 x.f3, .int .i64 x.f4, .int .i64 x.f5, .slice A6 x.f6.length c6] 57)).drew.heap[X]? = some (.cells #[.int .i64 9, .int .i64 x.f1, .int .i64 x.f2, .int .i64 x.f3, .int .i64 x.f4, .int .i64 x.f5, .slice A6 x.f6.length c6] 57 (0, 0)) := heap_new' (W := wc) hX.symm
 rw [hX]
 have h := h.step hBc
 replace hb1 := hBc.blk hb1
 generalize (wc.alloc (.cells #[.int .i64 9, .int .i64 x.f1, .int .i64 x.f2, .int .i64 x.f3, .int .i64 x.f4, .int .i64 x.f5, .slice A6 x.f6.length c6] 57)).drew = wd at hBc hbX h hb1 ⊢
 replace hX := Aside0.mk hX
 clear hBc
 obtain ⟨u0, u1, u2, u3, hz⟩ := h.top (f := f) (r := r) hst.out hnn.out
 have q0 := hz (nn * 4 + 3)
 clear u0 u1 u2 hz
 go_upto_region 5 with (fail)
 have hkg := KO.set g (nn * 4 + 3) wd (.int .i64 ((f.pos : Int) + 1))
 have hbg := h.neG hb1 (by decide)
 have hXg := h.neG hbX (by decide)
 replace hb1 := hkg.blk hb1 hbg
 replace hbX := hkg.blk hbX hXg
 have h := h.setPos (f := f) (r := r) hst.out hnn.out (f.pos + 1)
 rw [show (((f.pos + 1 : Nat) : Int)) = (f.pos : Int) + 1 by omega] at h
 clear hkg q0 u3
 generalize wd.setCell ⟨g, nn * 4 + 3, none⟩ (.int .i64 ((f.pos : Int) + 1)) = we at hb1 hbX h ⊢
 obtain ⟨u1, hfz, x0, x4, x5, x6, hvs⟩ := rpost (s := s) (f := f) (r := r) h hnn.out hbX
 rw [hx.out] at hstep
 replace hstep := Aside0.mk hstep
 have hvl := Aside0.mk hT.out.vars
 have hdd := hi.out.d (by rw [hop.out]; decide)
 obtain ⟨kd, hkd⟩ : ∃ k : Nat, x.f1 = (k : Int) := ⟨x.f1.toNat, by omega⟩
 have lkd : kd < f.vars.length := by have := hvl.out; omega
 have lkd' : (kd : Int) < (f.vars.length : Int) := by omega
 have x1 : we.cell? ⟨X, 1, none⟩ = some (.int .i64 kd) := by rw [← hkd]; exact blk_cell hbX 1
 have hkt : x.f1.toNat = kd := by omega
 clear hdd
 replace hkd := Aside0.mk hkd
 replace hkt := Aside0.mk hkt
 have hda := hi.out.a (by rw [hop.out]; decide)
 obtain ⟨ka, hka⟩ : ∃ k : Nat, x.f2 = (k : Int) := ⟨x.f2.toNat, by omega⟩
 have lka : ka < f.vars.length := by have := hT.out.vars; omega
 have lka' : (ka : Int) < (f.vars.length : Int) := by omega
 have x2 : we.cell? ⟨X, 2, none⟩ = some (.int .i64 ka) := by rw [← hka]; exact blk_cell hbX 2
 obtain ⟨va, hva⟩ : ∃ v, varAt f.vars x.f2 = v := ⟨_, rfl⟩
 obtain ⟨a0, a1, a2⟩ := vals_at hvs ka lka
 rw [← hka, hva] at a0 a1 a2
 clear hda
 replace hka := Aside0.mk hka
 replace hva := Aside0.mk hva
 have hdb := hi.out.b (by rw [hop.out]; decide)
 obtain ⟨kb, hkb⟩ : ∃ k : Nat, x.f3 = (k : Int) := ⟨x.f3.toNat, by omega⟩
 have lkb : kb < f.vars.length := by have := hT.out.vars; omega
 have lkb' : (kb : Int) < (f.vars.length : Int) := by omega
 have x3 : we.cell? ⟨X, 3, none⟩ = some (.int .i64 kb) := by rw [← hkb]; exact blk_cell hbX 3
 obtain ⟨vb', hvb⟩ : ∃ v, varAt f.vars x.f3 = v := ⟨_, rfl⟩
 obtain ⟨z0, z1, z2⟩ := vals_at hvs kb lkb
 rw [← hkb, hvb] at z0 z1 z2
 clear hdb
 replace hkb := Aside0.mk hkb
 replace hvb := Aside0.mk hvb
 go_upto_region 24 with (fail)
 have u1 := Bel.cell ((Bel.refl we).drewN 1) x1
 have u2 := Bel.cell ((Bel.refl we).drewN 1) x2
 have u3 := Bel.cell ((Bel.refl we).drewN 1) x3
 have v1 := Bel.cell ((Bel.refl we).drewN 1) a1
 have v3 := Bel.cell ((Bel.refl we).drewN 1) z1
 refine wp_region_last_drew (S := fun w' => w'.cell? ⟨X, 1, none⟩ = some (.int .i64 kd) ∧ w'.cell? ⟨X, 2, none⟩ = some (.int .i64 ka) ∧ w'.cell? ⟨vb, ka * 3+ 1, none⟩ = some (.int .i64 va.f1)∧ w'.cell? ⟨X, 3, none⟩ = some (.int .i64 kb) ∧ w'.cell? ⟨vb, kb * 3 + 1, none⟩ = some (.int .i64 vb'.f1)) (ds := [19]) (by kernel_rfl) ⟨u1, u2, v1, u3, v3⟩ (fun hHeld => ?_)
 refine takeL [0, 1, 2, 3, 4, 5, 6, 7, 8, 9, 10, 11, 12, 13, 14, 15] (by kernel_rfl) (by kernel_rfl) hHeld ?_
 iterate 16 (refine takeI (v := ?_) rfl rfl (fun _ _ _ h => h) (Or.inl ⟨by kernel_rfl, ?_⟩) ?_; rotate_left 1; focus (intro w hSw; (try dsimp only at hSw); go_simp; (try with_reducible rfl); done); try simp only [Act.put, z1, z2, z3, z4, z5, z6])
 refine takeE ?_
 try dsimp only
 refine wpAnyLast_ready (rs := [16]) (by kernel_rfl) (by simp) ?_
 refine AllReadyL.cons rfl (by decide) (fun K hK => ?_) AllReadyL.nil
 go_simp
 (go_at_call 37; refine (rbit_any _ _).mono ?_; rintro ex w2 ⟨rfl, rfl⟩)
 refine hK.out _ _ ?_ (fun hHeld => ?_)
 rotate_left 1
 clear hK K
 try simp only [Act.put, z1, z2, z3, z4, z5, z6]
 rotate_left 1
 ·exact ⟨u1, u2, v1, u3, v3⟩
 obtain ⟨y0, y1, y2⟩ := ValsAt.at_ hvs kd lkd
 have w0' := blk_frozen hvs (kd * 3)
 have w1' := blk_frozen hvs (kd * 3 + 1)
 have w2' := blk_frozen hvs (kd * 3 + 2)
 refine takeL [17, 18] (by kernel_rfl) (by kernel_rfl) hHeld ?_
 iterate 2 (refine takeI (v := ?_) rfl rfl (fun _ _ _ h => h) (Or.inl ⟨by kernel_rfl, ?_⟩) ?_; rotate_left 1; focus (intro w hSw; (try dsimp only at hSw); go_simp; (try with_reducible rfl); done); try simp only [Act.put, z1, z2, z3, z4, z5, z6])
 refine takeE ?_
 try dsimp only
 refine wpAnyLast_ready (rs := [19]) (by kernel_rfl) (by simp) ?_
 refine AllReadyL.cons_last rfl (by decide) (fun K hK => ?_) AllReadyL.nil
 go_simp
 refine hK.out _ _ ?_
 clear hK K
 try simp only [Act.put, z1, z2, z3, z4, z5, z6]
 refine wpAnyLast_done (by kernel_rfl) ?_ _
 go_wp2
 go_end0
 have h := (h.setV (f := { f with pos := f.pos + 1 }) (r := r) rfl (vs := f.vars.set kd (bitV (va.f1 == vb'.f1))) (by simp) (KO.set3 vb _ _ _ _ _ _ _) (ValsAt.put hvs kd lkd (bitV (va.f1 == vb'.f1)))).step ((Bel.refl _).drewN 1)
 refine .of h ?_
 rw [hstep.out, hkt.out]
 try rw [hva.out]
 try rw [hvb.out]
 all_goals rfl
set_option maxHeartbeats 4000000 in
theorem rstep11 (hop : (insAt p f).f0 = 11) : Calls Try.prog 23 #[.pointer (some ⟨sb, 0, none⟩), .agg #[.slice PA p.f0.length pc]] W (RStepIs w0 sb (stepL p s)) := by
 obtain ⟨g, sc, vb, nn, b1, c4, d4, c6, cl, bl, pl, fs, adp, ad4, ad5, A6, x, rfl, rfl, rfl, hn60, e7, e1, l1, h, hB0, hb1, hY, hR6, lpos, lblk, lfn, ep, hpb, hi, hfi, hlen, hnn, hst, hx, hpl', hb1n, hT⟩ := rpre w0 p sb W s fs os sv ev hv PA pc hP h hp f r hG hs4
 rw [hx.out] at hop
 rw [hop] at hY
 replace hY := Aside0.mk hY
 rw [hpl'.out]
 replace hop := Aside0.mk hop
 replace hG := Aside0.mk hG
 go_enter Try.func23, Try.ntmps23
 go_upto_region 1 with (fail)
 rw [hb1n.out]
 have h := h.step hB0
 generalize W.alloc (.cells #[.slice (some adp) pl pc] 24) = wa at hB0 hb1 h ⊢
 have hm := h.blk
 have q0 := blk_frozen hm 6
 have q1 : wa.cell? ⟨sb, 6, none⟩ = some (.int .i64 s.steps) := blk_cell hm 6
 go_upto_region 2 with (fail)
 have hKs := KO.set sb 6 wa (.int .i64 ((s.steps : Int) + 1))
 have h := h.setS (s1 := { s with steps := s.steps + 1 }) hKs rfl rfl rfl ((blk_set hm 6 _).trans rfl)
 have hsb1 : b1 ≠ sb := two_types hb1 hm (by decide)
 replace hb1 := hKs.blk hb1 hsb1
 clear q0 q1 hm hKs hB0
 generalize wa.setCell ⟨sb, 6, none⟩ (.int .i64 ((s.steps : Int) + 1)) = wb at hb1 h ⊢
 have z0 : wb.cell? ⟨sb, 0, none⟩ = some (.slice (some ⟨g, 0, none⟩) (nn + 1) sc) := blk_cell h.blk 0
 go_quiet (fail)
 clear z0
 have hBn : Bel wb (wb.drewN nq) := (Bel.refl wb).drewN nq
 have h := h.step hBn
 replace hb1 := hBn.blk hb1
 generalize wb.drewN nq = wc at h hb1 ⊢
 clear hBn
 go_upto_region 3 with (fail)
 obtain ⟨u0, u1, u2, u3, -⟩ := h.top (f := f) (r := r) hst.out hnn.out
 have ub : wc.cell? ⟨b1, 0, none⟩ = some (.slice (some adp) pl pc) := blk_cell hb1 0
 have hS := Aside0.mk (fun (X : World) (q : Bel wc X) => hY.out wc X h.bel q ub u0 u2 u3)
 have hBd : Bel wc wc.drew := (Bel.refl wc).drewN 1
 clear u0 u1 u2 u3 ub hY
 refine wp_region_held_drew (S := SR b1 g nn f adp pl pc ad4 ad5 A6 bl c4 cl d4 c6 11 x) (by kernel_rfl) (hS.out _ hBd) (fun hHeld => ?_)
 refine takeH [0, 1, 2, 3, 4, 5, 6, 7, 8, 9, 10, 11, 12, 13, 14, 15, 16, 17, 18, 19, 20, 21] (by kernel_rfl) (by kernel_rfl) hHeld ?_
 iterate 22 (refine takeI (v := ?_) rfl rfl (fun _ _ _ h => h) (Or.inl ⟨by kernel_rfl, ?_⟩) ?_; rotate_left 1; focus (intro w hSw; (try dsimp only at hSw); go_simp; (try with_reducible rfl); done); try simp only [Act.put, z1, z2, z3, z4, z5, z6])
 refine takeE ?_
 try dsimp only
 refine wpAnyH_ready (rs := [22]) (by kernel_rfl) (by simp) ?_
 refine AllReadyH.cons rfl (fun K hK => ?_) AllReadyH.nil
 go_simp
 refine hK.out _ _ ?_ (fun hHeld => ?_)
 rotate_left 1
 clear hK K
 try simp only [Act.put, z1, z2, z3, z4, z5, z6]
 rotate_left 1
 ·exact hS.out _ (hBd.alloc _)
 refine wpAnyH_ready (rs := [23]) (by kernel_rfl) (by simp) ?_
 refine AllReadyH.cons rfl (fun K hK => ?_) AllReadyH.nil
 go_simp
 refine hK.out _ _ ?_ (fun hHeld => ?_)
 rotate_left 1
 clear hK K
 try simp only [Act.put, z1, z2, z3, z4, z5, z6]
 rotate_left 1
 ·exact hS.out _ (((Bel.refl wc).alloc _).drewN 1)
 refine wpAnyH_done (by kernel_rfl) ?_ _
 clear hS hHeld hBd
 obtain ⟨X, hX⟩ : ∃ X, wc.heap.size = X := ⟨_, rfl⟩
 have hBc : Bel wc (wc.alloc (.cells #[.int .i64 11, .int .i64 x.f1, .int .i64 x.f2, .int .i64 x.f3, .int .i64 x.f4, .int .i64 x.f5, .slice A6 x.f6.length c6] 57)).drew := ((Bel.refl wc).alloc _).drewN 1
 have hbX : (wc.alloc (.cells #[.int .i64 11, .int .i64 x.f1, .int .i64 x.f2, .int .i64 x.f3, .int .i64 x.f4, .int .i64 x.f5, .slice A6 x.f6.length c6] 57)).drew.heap[X]? = some (.cells #[.int .i64 11, .int .i64 x.f1, .int .i64 x.f2, .int .i64 x.f3, .int .i64 x.f4, .int .i64 x.f5, .slice A6 x.f6.length c6] 57 (0, 0)) := heap_new' (W := wc) hX.symm
 rw [hX]
 have h := h.step hBc
 replace hb1 := hBc.blk hb1
 generalize (wc.alloc (.cells #[.int .i64 11, .int .i64 x.f1, .int .i64 x.f2, .int .i64 x.f3, .int .i64 x.f4, .int .i64 x.f5, .slice A6 x.f6.length c6] 57)).drew = wd at hBc hbX h hb1 ⊢
 replace hX := Aside0.mk hX
 clear hBc
 obtain ⟨u0, u1, u2, u3, hz⟩ := h.top (f := f) (r := r) hst.out hnn.out
 have q0 := hz (nn * 4 + 3)
 clear u0 u1 u2 hz
 go_upto_region 5 with (fail)
 have hkg := KO.set g (nn * 4 + 3) wd (.int .i64 ((f.pos : Int) + 1))
 have hbg := h.neG hb1 (by decide)
 have hXg := h.neG hbX (by decide)
 replace hb1 := hkg.blk hb1 hbg
 replace hbX := hkg.blk hbX hXg
 have h := h.setPos (f := f) (r := r) hst.out hnn.out (f.pos + 1)
 rw [show (((f.pos + 1 : Nat) : Int)) = (f.pos : Int) + 1 by omega] at h
 clear hkg q0 u3
 generalize wd.setCell ⟨g, nn * 4 + 3, none⟩ (.int .i64 ((f.pos : Int) + 1)) = we at hb1 hbX h ⊢
 obtain ⟨u1, hfz, x0, x4, x5, x6, hvs⟩ := rpost (s := s) (f := f) (r := r) h hnn.out hbX
 have hvl := Aside0.mk hT.out.vars
 have hdd := hi.out.d (by rw [hop.out]; decide)
 obtain ⟨kd, hkd⟩ : ∃ k : Nat, x.f1 = (k : Int) := ⟨x.f1.toNat, by omega⟩
 have lkd : kd < f.vars.length := by have := hvl.out; omega
 have lkd' : (kd : Int) < (f.vars.length : Int) := by omega
 have x1 : we.cell? ⟨X, 1, none⟩ = some (.int .i64 kd) := by rw [← hkd]; exact blk_cell hbX 1
 have hkt : x.f1.toNat = kd := by omega
 clear hdd
 replace hkd := Aside0.mk hkd
 replace hkt := Aside0.mk hkt
 have hda := hi.out.a (by rw [hop.out]; decide)
 obtain ⟨ka, hka⟩ : ∃ k : Nat, x.f2 = (k : Int) := ⟨x.f2.toNat, by omega⟩
 have lka : ka < f.vars.length := by have := hT.out.vars; omega
 have lka' : (ka : Int) < (f.vars.length : Int) := by omega
 have x2 : we.cell? ⟨X, 2, none⟩ = some (.int .i64 ka) := by rw [← hka]; exact blk_cell hbX 2
 obtain ⟨va, hva⟩ : ∃ v, varAt f.vars x.f2 = v := ⟨_, rfl⟩
 obtain ⟨a0, a1, a2⟩ := vals_at hvs ka lka
 rw [← hka, hva] at a0 a1 a2
 clear hda
 replace hka := Aside0.mk hka
 replace hva := Aside0.mk hva
 skip
 have ho9 := Aside0.mk hr.out.objs
 by_cases hob : objE s.heap va.f1 = 0
 case neg =>
  have hno := Aside0.mk (robj_no h va.f1 hob)
  go_upto_region 30 with (go_at_call 38; ((with_reducible refine hno.out.mono ?_); rintro e w2 ⟨rfl, hz⟩))
  go_quiet (fail); have hz := hz.step ((Bel.refl w2).drewN nq)
  go_wp2
  go_end0
  refine .of hz ?_
  rw [stepL_err (p := p) hG.out.stack (l := s.heap) (v := ⟨0, 0, 0⟩) (e := 14) (by rw [hx.out]; simp [reckonL, hop.out]) (by rw [hx.out, hva.out]; simp [touchL, hop.out, getI, getF_no _ _ hob]) (by decide)]
 obtain ⟨k, hk, hkl⟩ := objE_nat hob
 have hn4 : s.heap.length ≤ 100000 := by have := ho9.out; omega
 obtain ⟨g2, c2, hk', rfl, c0, c1, i0, i1, hne⟩ := h.objAt k hkl
 have hyes := Aside0.mk (robj_at h va.f1 k hkl hk hn4)
 have hoa : objAt s.heap va.f1 = s.heap[k] := by rw [hk]; exact objAt_nat hkl
 obtain ⟨bi, hbi⟩ : ∃ b, os[k].1 = b := ⟨_, rfl⟩
 obtain ⟨bj, hbj⟩ : ∃ b, os[k].2 = b := ⟨_, rfl⟩
 obtain ⟨ob, hobk⟩ : ∃ o, s.heap[k] = o := ⟨_, rfl⟩
 rw [hbi, hobk] at c0 i0
 rw [hbj, hobk] at c1 i1
 rw [hbi, hbj] at hne
 rw [hobk] at hoa
 replace hk := Aside0.mk hk
 replace hoa := Aside0.mk hoa
 replace hobk := Aside0.mk hobk
 replace hbi := Aside0.mk hbi
 replace hbj := Aside0.mk hbj
 obtain ⟨lf, hlf⟩ : ∃ l, ob.f1 = l := ⟨_, rfl⟩
 rw [hlf] at c1 i1
 replace hlf := Aside0.mk hlf
 go_upto_region 30 with (go_at_call 38; ((with_reducible refine hyes.out.mono ?_); rintro e w2 ⟨rfl, hq⟩; obtain rfl := hq.symm))
 clear hyes
 have hBd : Bel we we.drew := (Bel.refl we).drewN 1
 have hd := h.step hBd
 by_cases hfl : fldE lf x.f4 = 0
 case neg =>
  have hno := Aside0.mk (rin_no hd lf (some ⟨bj, 0, none⟩) lf.length x.f4 hfl)
  have u1 := Bel.cell hBd c1
  have u2 := Bel.cell hBd x4
  skip
  refine wp_region_last_drew (S := fun w' => w'.cell? ⟨g2, k * 2+ 1, none⟩ = some (.slice (some ⟨bj, 0, none⟩) lf.length lf.length) ∧ w'.cell? ⟨X, 4, none⟩ = some (.int .i64 x.f4)) (ds := [9]) (by kernel_rfl) ⟨u1, u2⟩ (fun hHeld => ?_)
  refine takeL [0, 1, 2, 3, 4, 5, 6, 7, 8] (by kernel_rfl) (by kernel_rfl) hHeld ?_
  iterate 9 (refine takeI (v := ?_) rfl rfl (fun _ _ _ h => h) (Or.inl ⟨by kernel_rfl, ?_⟩) ?_; rotate_left 1; focus (intro w hSw; (try dsimp only at hSw); go_simp; (try with_reducible rfl); done); try simp only [Act.put, z1, z2, z3, z4, z5, z6])
  refine takeE ?_
  try dsimp only
  refine wpAnyLast_ready (rs := [9]) (by kernel_rfl) (by simp) ?_
  refine AllReadyL.cons_last rfl (by decide) (fun K hK => ?_) AllReadyL.nil
  go_simp
  (go_at_call 39; refine hno.out.mono ?_; rintro ex w2 ⟨rfl, hz⟩)
  refine hK.out _ _ ?_
  clear hK K
  try simp only [Act.put, z1, z2, z3, z4, z5, z6]
  refine wpAnyLast_any (i := 10) (v := ?_) rfl (Region.noSelect_spec (by kernel_rfl)) (fun _ _ _ h => h) _ _ _ _ (Region.free_spec rfl (by kernel_rfl)) (mem_of_contains (by kernel_rfl)) (Or.inl ⟨by kernel_rfl, ?_⟩) ?_
  rotate_left 1
  focus (intro w; go_simp; (try with_reducible rfl); done)
  try simp only [Act.put, z1, z2, z3, z4, z5, z6]
  refine wpAnyLast_done (by kernel_rfl) ?_ _
  go_wp2
  go_end0
  refine .of hz ?_
  rw [stepL_err (p := p) hG.out.stack (l := s.heap) (v := ⟨0, 0, 0⟩) (e := 15) (by rw [hx.out]; simp [reckonL, hop.out]) (by rw [hx.out, hva.out]; simp [touchL, hop.out, getI, hoa.out, hlf.out, getF_out hob hfl]) (by decide)]
 obtain ⟨ki, hki, hkil⟩ := fldE_nat hfl
 replace hki := Aside0.mk hki
 have hyes := Aside0.mk (rin_yes hd lf (some ⟨bj, 0, none⟩) lf.length x.f4 hfl)
 have lki : (ki : Int) < (lf.length : Int) := by omega
 have u1 := Bel.cell hBd c1
 have u2 := Bel.cell hBd x4
 skip
 refine wp_region_last_drew (S := fun w' => w'.cell? ⟨g2, k * 2+ 1, none⟩ = some (.slice (some ⟨bj, 0, none⟩) lf.length lf.length) ∧ w'.cell? ⟨X, 4, none⟩ = some (.int .i64 x.f4)) (ds := [9]) (by kernel_rfl) ⟨u1, u2⟩ (fun hHeld => ?_)
 refine takeL [0, 1, 2, 3, 4, 5, 6, 7, 8] (by kernel_rfl) (by kernel_rfl) hHeld ?_
 iterate 9 (refine takeI (v := ?_) rfl rfl (fun _ _ _ h => h) (Or.inl ⟨by kernel_rfl, ?_⟩) ?_; rotate_left 1; focus (intro w hSw; (try dsimp only at hSw); go_simp; (try with_reducible rfl); done); try simp only [Act.put, z1, z2, z3, z4, z5, z6])
 refine takeE ?_
 try dsimp only
 refine wpAnyLast_ready (rs := [9]) (by kernel_rfl) (by simp) ?_
 refine AllReadyL.cons_last rfl (by decide) (fun K hK => ?_) AllReadyL.nil
 go_simp
 (go_at_call 39; refine hyes.out.mono ?_; rintro ex w2 ⟨rfl, rfl⟩)
 refine hK.out _ _ ?_
 clear hK K
 try simp only [Act.put, z1, z2, z3, z4, z5, z6]
 refine wpAnyLast_any (i := 10) (v := ?_) rfl (Region.noSelect_spec (by kernel_rfl)) (fun _ _ _ h => h) _ _ _ _ (Region.free_spec rfl (by kernel_rfl)) (mem_of_contains (by kernel_rfl)) (Or.inl ⟨by kernel_rfl, ?_⟩) ?_
 rotate_left 1
 focus (intro w; go_simp; (try with_reducible rfl); done)
 try simp only [Act.put, z1, z2, z3, z4, z5, z6]
 refine wpAnyLast_done (by kernel_rfl) ?_ _
 replace x2 := Bel.cell hBd x2
 replace x4 := Bel.cell hBd x4
 replace c0 := Bel.cell hBd c0
 replace c1 := Bel.cell hBd c1
 replace i0 := hBd.blk i0
 replace i1 := hBd.blk i1
 replace hvs : ValsAt we.drew vb f.vars := hBd.blk hvs
 replace a2 := Bel.cell hBd a2
 replace x1 := Bel.cell hBd x1
 replace h := hd
 clear hd u1 u2 hBd hyes
 generalize we.drew = we at h hvs x2 x4 c0 c1 i0 i1 a2 x1 ⊢
 obtain ⟨lv, hlv⟩ : ∃ v, lf.getD ki 0 = v := ⟨_, rfl⟩
 have hq : getF s.heap va.f1 lf x.f4 = (lv, 0) := by rw [getF_at hob hfl, hki.out, Int.toNat_natCast, hlv]
 have hstep := stepL_set (p := p) hG.out.stack (l := s.heap) (v := ⟨lv, 0, 0⟩) (by rw [hx.out]; simp [reckonL, hop.out]) (by rw [hx.out, hva.out]; simp [touchL, hop.out, getI, hoa.out, hlf.out, hq]) (by rw [hx.out, hop.out]; rfl)
 rw [hx.out] at hstep
 replace hstep := Aside0.mk hstep
 have r0 := IntsAt.at_ i1 ki hkil
 rw [hlv] at r0
 clear hq hfl hob
 replace hlv := Aside0.mk hlv
 rw [hki.out] at x4
 go_upto_region 31 with (fail)
 go_still_tail 13, (by kernel_rfl)
 have hBd : Bel we we.drew := (Bel.refl we).drewN 1
 have h := h.step hBd
 replace hvs : ValsAt we.drew vb f.vars := hBd.blk hvs
 change wpList _ _ _ _ _ we.drew
 generalize we.drew = we at h hvs ⊢
 obtain ⟨y0, y1, y2⟩ := ValsAt.at_ hvs kd lkd
 have w0' := blk_frozen hvs (kd * 3)
 have w1' := blk_frozen hvs (kd * 3 + 1)
 have w2' := blk_frozen hvs (kd * 3 + 2)
 go_wp2
 go_end0
 have h := h.setV (f := { f with pos := f.pos + 1 }) (r := r) rfl (vs := f.vars.set kd ⟨lv, 0, 0⟩) (by simp) (KO.set3 vb _ _ _ _ _ _ _) (ValsAt.put hvs kd lkd ⟨lv, 0, 0⟩)
 refine .of h ?_
 rw [hstep.out, hkt.out]
 try rw [hva.out]
 try rw [hvb.out]
 all_goals rfl
end
end Go.Proofs.Ytodjpbidjldblaa.H
