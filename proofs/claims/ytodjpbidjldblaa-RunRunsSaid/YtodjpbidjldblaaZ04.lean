/- Texts joined. Conditions: each stands with its theorem. -/
import Derived.Test.YtodjpbidjldblaaX00
import Derived.Test.YtodjpbidjldblaaZ01
import Derived.StillTailTactics
namespace Go.Proofs.Ytodjpbidjldblaa.H
open Go.RowKit Go.Proofs.YtodjpbidjldblaaW.PrintWords Go.Proofs.YtodjpbidjldblaaW.PrintLast
set_option linter.unusedVariables false
set_option linter.unusedSimpArgs false
set_option linter.unusedSectionVars false
set_option maxRecDepth 100000
section
variable (w0 : World) (p : SProg) (sb : Nat) (W : World) (s : VSt) (fs : List Nat) (os : List (Nat × Nat)) (sv ev hv : Value) (PA : Option Addr) (pc : Nat) (hP : Rd kFunc w0 PA p.f0) (h : RM w0 sb W s fs os sv ev hv) (hp : Aside0 (ProgP p)) (hr : Aside0 (RunP p s)) (f : VFr) (r : List VFr) (hG : GoP p s f r) (hs4 : s.steps ≤ 4000)
include hP h hp hr hG hs4
set_option maxHeartbeats 4000000 in
theorem rstep18 (hop : (insAt p f).f0 = 18) : Calls Try.prog 23 #[.pointer (some ⟨sb, 0, none⟩), .agg #[.slice PA p.f0.length pc]] W (RStepIs w0 sb (stepL p s)) := by
 obtain ⟨g, sc, vb, nn, b1, c4, d4, c6, cl, bl, pl, fs, adp, ad4, ad5, A6, x, rfl, rfl, rfl, hn60, e7, e1, l1, h, hB0, hb1, hY, hR6, lpos, lblk, lfn, ep, hpb, hi, hfi, hlen, hnn, hst, hx, hpl', hb1n, hT⟩ := rpre w0 p sb W s fs os sv ev hv PA pc hP h hp f r hG hs4
 rw [hx.out] at hop
 rw [hop] at hY
 replace hY := Aside0.mk hY
 rw [hpl'.out]
 replace hop := Aside0.mk hop
 replace hG := Aside0.mk hG
 go_enter Try.func23, Try.ntmps23
 go_upto_region 1 with (fail)
 rw [hb1n.out]
 have h := h.step hB0
 generalize W.alloc (.cells #[.slice (some adp) pl pc] 24) = wa at hB0 hb1 h ⊢
 have hm := h.blk
 have q0 := blk_frozen hm 6
 have q1 : wa.cell? ⟨sb, 6, none⟩ = some (.int .i64 s.steps) := blk_cell hm 6
 go_upto_region 2 with (fail)
 have hKs := KO.set sb 6 wa (.int .i64 ((s.steps : Int) + 1))
 have h := h.setS (s1 := { s with steps := s.steps + 1 }) hKs rfl rfl rfl ((blk_set hm 6 _).trans rfl)
 have hsb1 : b1 ≠ sb := two_types hb1 hm (by decide)
 replace hb1 := hKs.blk hb1 hsb1
 clear q0 q1 hm hKs hB0
 generalize wa.setCell ⟨sb, 6, none⟩ (.int .i64 ((s.steps : Int) + 1)) = wb at hb1 h ⊢
 have z0 : wb.cell? ⟨sb, 0, none⟩ = some (.slice (some ⟨g, 0, none⟩) (nn + 1) sc) := blk_cell h.blk 0
 go_quiet (fail)
 clear z0
 have hBn : Bel wb (wb.drewN nq) := (Bel.refl wb).drewN nq
 have h := h.step hBn
 replace hb1 := hBn.blk hb1
 generalize wb.drewN nq = wc at h hb1 ⊢
 clear hBn
 go_upto_region 3 with (fail)
 obtain ⟨u0, u1, u2, u3, -⟩ := h.top (f := f) (r := r) hst.out hnn.out
 have ub : wc.cell? ⟨b1, 0, none⟩ = some (.slice (some adp) pl pc) := blk_cell hb1 0
 have hS := Aside0.mk (fun (X : World) (q : Bel wc X) => hY.out wc X h.bel q ub u0 u2 u3)
 have hBd : Bel wc wc.drew := (Bel.refl wc).drewN 1
 clear u0 u1 u2 u3 ub hY
 refine wp_region_held_drew (S := SR b1 g nn f adp pl pc ad4 ad5 A6 bl c4 cl d4 c6 18 x) (by kernel_rfl) (hS.out _ hBd) (fun hHeld => ?_)
 refine takeH [0, 1, 2, 3, 4, 5, 6, 7, 8, 9, 10, 11, 12, 13, 14, 15, 16, 17, 18, 19, 20, 21] (by kernel_rfl) (by kernel_rfl) hHeld ?_
 iterate 22 (refine takeI (v := ?_) rfl rfl (fun _ _ _ h => h) (Or.inl ⟨by kernel_rfl, ?_⟩) ?_; rotate_left 1; focus (intro w hSw; (try dsimp only at hSw); go_simp; (try with_reducible rfl); done); try simp only [Act.put, z1, z2, z3, z4, z5, z6])
 refine takeE ?_
 try dsimp only
 refine wpAnyH_ready (rs := [22]) (by kernel_rfl) (by simp) ?_
 refine AllReadyH.cons rfl (fun K hK => ?_) AllReadyH.nil
 go_simp
 refine hK.out _ _ ?_ (fun hHeld => ?_)
 rotate_left 1
 clear hK K
 try simp only [Act.put, z1, z2, z3, z4, z5, z6]
 rotate_left 1
 ·exact hS.out _ (hBd.alloc _)
 refine wpAnyH_ready (rs := [23]) (by kernel_rfl) (by simp) ?_
 refine AllReadyH.cons rfl (fun K hK => ?_) AllReadyH.nil
 go_simp
 refine hK.out _ _ ?_ (fun hHeld => ?_)
 rotate_left 1
 clear hK K
 try simp only [Act.put, z1, z2, z3, z4, z5, z6]
 rotate_left 1
 ·exact hS.out _ (((Bel.refl wc).alloc _).drewN 1)
 refine wpAnyH_done (by kernel_rfl) ?_ _
 clear hS hHeld hBd
 obtain ⟨X, hX⟩ : ∃ X, wc.heap.size = X := ⟨_, rfl⟩
 have hBc : Bel wc (wc.alloc (.cells #[.int .i64 18, .int .i64 x.f1, .int .i64 x.f2, .int .i64 x.f3, .int .i64 x.f4, .int .i64 x.f5, .slice A6 x.f6.length c6] 57)).drew := ((Bel.refl wc).alloc _).drewN 1
 have hbX : (wc.alloc (.cells #[.int .i64 18, .int .i64 x.f1, .int .i64 x.f2, .int .i64 x.f3, .int .i64 x.f4, .int .i64 x.f5, .slice A6 x.f6.length c6] 57)).drew.heap[X]? = some (.cells #[.int .i64 18, .int .i64 x.f1, .int .i64 x.f2, .int .i64 x.f3, .int .i64 x.f4, .int .i64 x.f5, .slice A6 x.f6.length c6] 57 (0, 0)) := heap_new' (W := wc) hX.symm
 rw [hX]
 have h := h.step hBc
 replace hb1 := hBc.blk hb1
 generalize (wc.alloc (.cells #[.int .i64 18, .int .i64 x.f1, .int .i64 x.f2, .int .i64 x.f3, .int .i64 x.f4, .int .i64 x.f5, .slice A6 x.f6.length c6] 57)).drew = wd at hBc hbX h hb1 ⊢
 replace hX := Aside0.mk hX
 clear hBc
 obtain ⟨u0, u1, u2, u3, hz⟩ := h.top (f := f) (r := r) hst.out hnn.out
 have q0 := hz (nn * 4 + 3)
 clear u0 u1 u2 hz
 go_upto_region 5 with (fail)
 have hkg := KO.set g (nn * 4 + 3) wd (.int .i64 ((f.pos : Int) + 1))
 have hbg := h.neG hb1 (by decide)
 have hXg := h.neG hbX (by decide)
 replace hb1 := hkg.blk hb1 hbg
 replace hbX := hkg.blk hbX hXg
 have h := h.setPos (f := f) (r := r) hst.out hnn.out (f.pos + 1)
 rw [show (((f.pos + 1 : Nat) : Int)) = (f.pos : Int) + 1 by omega] at h
 clear hkg q0 u3
 generalize wd.setCell ⟨g, nn * 4 + 3, none⟩ (.int .i64 ((f.pos : Int) + 1)) = we at hb1 hbX h ⊢
 obtain ⟨u1, hfz, x0, x4, x5, x6, hvs⟩ := rpost (s := s) (f := f) (r := r) h hnn.out hbX
 skip
 have hda := hi.out.a (by rw [hop.out]; decide)
 obtain ⟨ka, hka⟩ : ∃ k : Nat, x.f2 = (k : Int) := ⟨x.f2.toNat, by omega⟩
 have lka : ka < f.vars.length := by have := hT.out.vars; omega
 have lka' : (ka : Int) < (f.vars.length : Int) := by omega
 have x2 : we.cell? ⟨X, 2, none⟩ = some (.int .i64 ka) := by rw [← hka]; exact blk_cell hbX 2
 obtain ⟨va, hva⟩ : ∃ v, varAt f.vars x.f2 = v := ⟨_, rfl⟩
 obtain ⟨a0, a1, a2⟩ := vals_at hvs ka lka
 rw [← hka, hva] at a0 a1 a2
 clear hda
 replace hka := Aside0.mk hka
 replace hva := Aside0.mk hva
 have hdb := hi.out.b (by rw [hop.out]; decide)
 obtain ⟨kb, hkb⟩ : ∃ k : Nat, x.f3 = (k : Int) := ⟨x.f3.toNat, by omega⟩
 have lkb : kb < f.vars.length := by have := hT.out.vars; omega
 have lkb' : (kb : Int) < (f.vars.length : Int) := by omega
 have x3 : we.cell? ⟨X, 3, none⟩ = some (.int .i64 kb) := by rw [← hkb]; exact blk_cell hbX 3
 obtain ⟨vb', hvb⟩ : ∃ v, varAt f.vars x.f3 = v := ⟨_, rfl⟩
 obtain ⟨z0, z1, z2⟩ := vals_at hvs kb lkb
 rw [← hkb, hvb] at z0 z1 z2
 clear hdb
 replace hkb := Aside0.mk hkb
 replace hvb := Aside0.mk hvb
 have ho9 := Aside0.mk hr.out.objs
 by_cases hob : objE s.heap va.f1 = 0
 case neg =>
  have hno := Aside0.mk (robj_no h va.f1 hob)
  go_upto_region 56 with (go_at_call 38; ((with_reducible refine hno.out.mono ?_); rintro e w2 ⟨rfl, hz⟩))
  go_quiet (fail); have hz := hz.step ((Bel.refl w2).drewN nq)
  go_wp2
  go_end0
  refine .of hz ?_
  rw [stepL_err (p := p) hG.out.stack (l := s.heap) (v := ⟨0, 0, 0⟩) (e := 14) (by rw [hx.out]; simp [reckonL, hop.out]) (by rw [hx.out, hva.out]; simp [touchL, hop.out, putI, putF_no _ _ _ hob]) (by decide)]
 obtain ⟨k, hk, hkl⟩ := objE_nat hob
 have hn4 : s.heap.length ≤ 100000 := by have := ho9.out; omega
 obtain ⟨g2, c2, hk', rfl, c0, c1, i0, i1, hne⟩ := h.objAt k hkl
 have hyes := Aside0.mk (robj_at h va.f1 k hkl hk hn4)
 have hoa : objAt s.heap va.f1 = s.heap[k] := by rw [hk]; exact objAt_nat hkl
 obtain ⟨bi, hbi⟩ : ∃ b, os[k].1 = b := ⟨_, rfl⟩
 obtain ⟨bj, hbj⟩ : ∃ b, os[k].2 = b := ⟨_, rfl⟩
 obtain ⟨ob, hobk⟩ : ∃ o, s.heap[k] = o := ⟨_, rfl⟩
 rw [hbi, hobk] at c0 i0
 rw [hbj, hobk] at c1 i1
 rw [hbi, hbj] at hne
 rw [hobk] at hoa
 replace hk := Aside0.mk hk
 replace hoa := Aside0.mk hoa
 replace hobk := Aside0.mk hobk
 replace hbi := Aside0.mk hbi
 replace hbj := Aside0.mk hbj
 obtain ⟨lf, hlf⟩ : ∃ l, ob.f1 = l := ⟨_, rfl⟩
 rw [hlf] at c1 i1
 replace hlf := Aside0.mk hlf
 go_upto_region 56 with (go_at_call 38; ((with_reducible refine hyes.out.mono ?_); rintro e w2 ⟨rfl, hq⟩; obtain rfl := hq.symm))
 clear hyes
 have hBd : Bel we we.drew := (Bel.refl we).drewN 1
 have hd := h.step hBd
 by_cases hfl : fldE lf va.f2 = 0
 case neg =>
  have hno := Aside0.mk (rin_no hd lf (some ⟨bj, 0, none⟩) lf.length va.f2 hfl)
  have u1 := Bel.cell hBd c1
  have u2 := Bel.cell hBd a2
  have u3 := Bel.cell hBd x2
  refine wp_region_last_drew (S := fun w' => w'.cell? ⟨g2, k * 2+ 1, none⟩ = some (.slice (some ⟨bj, 0, none⟩) lf.length lf.length) ∧ w'.cell? ⟨vb, ka * 3 + 2, none⟩ = some (.int .i64 va.f2) ∧ w'.cell? ⟨X, 2, none⟩ = some (.int .i64 ka)) (ds := [13]) (by kernel_rfl) ⟨u1, u2, u3⟩ (fun hHeld => ?_)
  refine takeL [0, 1, 2, 3, 4, 5, 6, 7, 8, 9, 10, 11, 12] (by kernel_rfl) (by kernel_rfl) hHeld ?_
  iterate 13 (refine takeI (v := ?_) rfl rfl (fun _ _ _ h => h) (Or.inl ⟨by kernel_rfl, ?_⟩) ?_; rotate_left 1; focus (intro w hSw; (try dsimp only at hSw); go_simp; (try with_reducible rfl); done); try simp only [Act.put, z1, z2, z3, z4, z5, z6])
  refine takeE ?_
  try dsimp only
  refine wpAnyLast_ready (rs := [13]) (by kernel_rfl) (by simp) ?_
  refine AllReadyL.cons_last rfl (by decide) (fun K hK => ?_) AllReadyL.nil
  go_simp
  (go_at_call 39; refine hno.out.mono ?_; rintro ex w2 ⟨rfl, hz⟩)
  refine hK.out _ _ ?_
  clear hK K
  try simp only [Act.put, z1, z2, z3, z4, z5, z6]
  refine wpAnyLast_any (i := 14) (v := ?_) rfl (Region.noSelect_spec (by kernel_rfl)) (fun _ _ _ h => h) _ _ _ _ (Region.free_spec rfl (by kernel_rfl)) (mem_of_contains (by kernel_rfl)) (Or.inl ⟨by kernel_rfl, ?_⟩) ?_
  rotate_left 1
  focus (intro w; go_simp; (try with_reducible rfl); done)
  try simp only [Act.put, z1, z2, z3, z4, z5, z6]
  refine wpAnyLast_done (by kernel_rfl) ?_ _
  go_wp2
  go_end0
  refine .of hz ?_
  rw [stepL_err (p := p) hG.out.stack (l := s.heap) (v := ⟨0, 0, 0⟩) (e := 15) (by rw [hx.out]; simp [reckonL, hop.out]) (by rw [hx.out, hva.out]; simp [touchL, hop.out, putI, hoa.out, hlf.out, putF_out _ hob hfl]) (by decide)]
 obtain ⟨ki, hki, hkil⟩ := fldE_nat hfl
 replace hki := Aside0.mk hki
 have hyes := Aside0.mk (rin_yes hd lf (some ⟨bj, 0, none⟩) lf.length va.f2 hfl)
 have lki : (ki : Int) < (lf.length : Int) := by omega
 have u1 := Bel.cell hBd c1
 have u2 := Bel.cell hBd a2
 have u3 := Bel.cell hBd x2
 refine wp_region_last_drew (S := fun w' => w'.cell? ⟨g2, k * 2+ 1, none⟩ = some (.slice (some ⟨bj, 0, none⟩) lf.length lf.length) ∧ w'.cell? ⟨vb, ka * 3 + 2, none⟩ = some (.int .i64 va.f2) ∧ w'.cell? ⟨X, 2, none⟩ = some (.int .i64 ka)) (ds := [13]) (by kernel_rfl) ⟨u1, u2, u3⟩ (fun hHeld => ?_)
 refine takeL [0, 1, 2, 3, 4, 5, 6, 7, 8, 9, 10, 11, 12] (by kernel_rfl) (by kernel_rfl) hHeld ?_
 iterate 13 (refine takeI (v := ?_) rfl rfl (fun _ _ _ h => h) (Or.inl ⟨by kernel_rfl, ?_⟩) ?_; rotate_left 1; focus (intro w hSw; (try dsimp only at hSw); go_simp; (try with_reducible rfl); done); try simp only [Act.put, z1, z2, z3, z4, z5, z6])
 refine takeE ?_
 try dsimp only
 refine wpAnyLast_ready (rs := [13]) (by kernel_rfl) (by simp) ?_
 refine AllReadyL.cons_last rfl (by decide) (fun K hK => ?_) AllReadyL.nil
 go_simp
 (go_at_call 39; refine hyes.out.mono ?_; rintro ex w2 ⟨rfl, rfl⟩)
 refine hK.out _ _ ?_
 clear hK K
 try simp only [Act.put, z1, z2, z3, z4, z5, z6]
 refine wpAnyLast_any (i := 14) (v := ?_) rfl (Region.noSelect_spec (by kernel_rfl)) (fun _ _ _ h => h) _ _ _ _ (Region.free_spec rfl (by kernel_rfl)) (mem_of_contains (by kernel_rfl)) (Or.inl ⟨by kernel_rfl, ?_⟩) ?_
 rotate_left 1
 focus (intro w; go_simp; (try with_reducible rfl); done)
 try simp only [Act.put, z1, z2, z3, z4, z5, z6]
 refine wpAnyLast_done (by kernel_rfl) ?_ _
 replace x2 := Bel.cell hBd x2
 replace x4 := Bel.cell hBd x4
 replace c0 := Bel.cell hBd c0
 replace c1 := Bel.cell hBd c1
 replace i0 := hBd.blk i0
 replace i1 := hBd.blk i1
 replace hvs : ValsAt we.drew vb f.vars := hBd.blk hvs
 replace a2 := Bel.cell hBd a2
 replace x3 := Bel.cell hBd x3; replace z0 := Bel.cell hBd z0; replace z1 := Bel.cell hBd z1
 replace h := hd
 clear hd u1 u2 hBd hyes
 generalize we.drew = we at h hvs x2 x4 c0 c1 i0 i1 a2 x3 z0 z1 ⊢
 have hki2 : (va.f2).toNat = ki := by rw [hki.out, Int.toNat_natCast]
 have hq : ∀ q : SObj, putF s.heap va.f1 lf va.f2 q = (s.heap.set k q, 0) := fun q => by rw [putF_at q hob hfl, hk.out, show ((k : Int) + 1 - 1).toNat = k by omega]
 have hstep := stepL_put (p := p) hG.out.stack (l := s.heap.set k ⟨ob.f0, lf.set ki vb'.f0⟩) (v := ⟨0, 0, 0⟩) (by rw [hx.out]; simp [reckonL, hop.out]) (by rw [hx.out, hva.out, hvb.out]; simp [touchL, hop.out, putI, hoa.out, hlf.out, hq, hki2]) (by rw [hx.out, hop.out]; rfl)
 replace hstep := Aside0.mk hstep
 have r0 := IntsAt.at_ i1 ki hkil
 have r1 := blk_frozen i1 ki
 clear hq hki2 hfl hob
 replace hne := Aside0.mk hne
 rw [hki.out] at a2
 go_upto_region 57 with (fail)
 go_still_tail 17, (by kernel_rfl)
 have hBd : Bel we we.drew := (Bel.refl we).drewN 1
 have h := h.step hBd
 replace i0 := hBd.blk i0
 replace i1 := hBd.blk i1
 clear r0 r1
 change wpList _ _ _ _ _ we.drew
 generalize we.drew = we at h i0 i1 ⊢
 have r0 := IntsAt.at_ i1 ki hkil
 have r1 := blk_frozen i1 ki
 go_wp2
 go_end0
 have h := h.setO hk' hkl ⟨ob.f0, lf.set ki vb'.f0⟩ ⟨by show _ = (s.heap[k]).f0.length; rw [hobk.out], by show _ = (s.heap[k]).f1.length; rw [hobk.out, hlf.out]; simp⟩ (KO.set bj ki we (.int .i64 vb'.f0)) (Or.inr hbj.out.symm) (by rw [hbi.out]; exact blk_far i0 (p := ⟨bj, ki, none⟩) hne.out _) (by rw [hbj.out]; exact IntsAt.put i1 ki _)
 refine .of h ?_
 rw [hstep.out]
 all_goals rfl
end
theorem derE_no {h : List SObj} {o : Int} (hv : 0 ≤ o ∧ o ≤ h.length) (ho : objE h o ≠ 0) : derE o = 14 := by
 unfold objE at ho
 split at ho
 ·simp at ho
 ·unfold derE; rw [if_pos (by omega)]
theorem derE_at {h : List SObj} {o : Int} (ho : objE h o = 0) : derE o = 0 := by
 obtain ⟨k, hk, _⟩ := objE_nat ho
 unfold derE; rw [if_neg (by omega)]
section
variable (w0 : World) (p : SProg) (sb : Nat) (W : World) (s : VSt) (fs : List Nat) (os : List (Nat × Nat)) (sv ev hv : Value) (PA : Option Addr) (pc : Nat) (hP : Rd kFunc w0 PA p.f0) (h : RM w0 sb W s fs os sv ev hv) (hp : Aside0 (ProgP p)) (hr : Aside0 (RunP p s)) (f : VFr) (r : List VFr) (hG : GoP p s f r) (hs4 : s.steps ≤ 4000)
include hP h hp hr hG hs4
set_option maxHeartbeats 4000000 in
theorem rstep15 (hop : (insAt p f).f0 = 15) : Calls Try.prog 23 #[.pointer (some ⟨sb, 0, none⟩), .agg #[.slice PA p.f0.length pc]] W (RStepIs w0 sb (stepL p s)) := by
 obtain ⟨g, sc, vb, nn, b1, c4, d4, c6, cl, bl, pl, fs, adp, ad4, ad5, A6, x, rfl, rfl, rfl, hn60, e7, e1, l1, h, hB0, hb1, hY, hR6, lpos, lblk, lfn, ep, hpb, hi, hfi, hlen, hnn, hst, hx, hpl', hb1n, hT⟩ := rpre w0 p sb W s fs os sv ev hv PA pc hP h hp f r hG hs4
 rw [hx.out] at hop
 rw [hop] at hY
 replace hY := Aside0.mk hY
 rw [hpl'.out]
 replace hop := Aside0.mk hop
 replace hG := Aside0.mk hG
 go_enter Try.func23, Try.ntmps23
 go_upto_region 1 with (fail)
 rw [hb1n.out]
 have h := h.step hB0
 generalize W.alloc (.cells #[.slice (some adp) pl pc] 24) = wa at hB0 hb1 h ⊢
 have hm := h.blk
 have q0 := blk_frozen hm 6
 have q1 : wa.cell? ⟨sb, 6, none⟩ = some (.int .i64 s.steps) := blk_cell hm 6
 go_upto_region 2 with (fail)
 have hKs := KO.set sb 6 wa (.int .i64 ((s.steps : Int) + 1))
 have h := h.setS (s1 := { s with steps := s.steps + 1 }) hKs rfl rfl rfl ((blk_set hm 6 _).trans rfl)
 have hsb1 : b1 ≠ sb := two_types hb1 hm (by decide)
 replace hb1 := hKs.blk hb1 hsb1
 clear q0 q1 hm hKs hB0
 generalize wa.setCell ⟨sb, 6, none⟩ (.int .i64 ((s.steps : Int) + 1)) = wb at hb1 h ⊢
 have z0 : wb.cell? ⟨sb, 0, none⟩ = some (.slice (some ⟨g, 0, none⟩) (nn + 1) sc) := blk_cell h.blk 0
 go_quiet (fail)
 clear z0
 have hBn : Bel wb (wb.drewN nq) := (Bel.refl wb).drewN nq
 have h := h.step hBn
 replace hb1 := hBn.blk hb1
 generalize wb.drewN nq = wc at h hb1 ⊢
 clear hBn
 go_upto_region 3 with (fail)
 obtain ⟨u0, u1, u2, u3, -⟩ := h.top (f := f) (r := r) hst.out hnn.out
 have ub : wc.cell? ⟨b1, 0, none⟩ = some (.slice (some adp) pl pc) := blk_cell hb1 0
 have hS := Aside0.mk (fun (X : World) (q : Bel wc X) => hY.out wc X h.bel q ub u0 u2 u3)
 have hBd : Bel wc wc.drew := (Bel.refl wc).drewN 1
 clear u0 u1 u2 u3 ub hY
 refine wp_region_held_drew (S := SR b1 g nn f adp pl pc ad4 ad5 A6 bl c4 cl d4 c6 15 x) (by kernel_rfl) (hS.out _ hBd) (fun hHeld => ?_)
 refine takeH [0, 1, 2, 3, 4, 5, 6, 7, 8, 9, 10, 11, 12, 13, 14, 15, 16, 17, 18, 19, 20, 21] (by kernel_rfl) (by kernel_rfl) hHeld ?_
 iterate 22 (refine takeI (v := ?_) rfl rfl (fun _ _ _ h => h) (Or.inl ⟨by kernel_rfl, ?_⟩) ?_; rotate_left 1; focus (intro w hSw; (try dsimp only at hSw); go_simp; (try with_reducible rfl); done); try simp only [Act.put, z1, z2, z3, z4, z5, z6])
 refine takeE ?_
 try dsimp only
 refine wpAnyH_ready (rs := [22]) (by kernel_rfl) (by simp) ?_
 refine AllReadyH.cons rfl (fun K hK => ?_) AllReadyH.nil
 go_simp
 refine hK.out _ _ ?_ (fun hHeld => ?_)
 rotate_left 1
 clear hK K
 try simp only [Act.put, z1, z2, z3, z4, z5, z6]
 rotate_left 1
 ·exact hS.out _ (hBd.alloc _)
 refine wpAnyH_ready (rs := [23]) (by kernel_rfl) (by simp) ?_
 refine AllReadyH.cons rfl (fun K hK => ?_) AllReadyH.nil
 go_simp
 refine hK.out _ _ ?_ (fun hHeld => ?_)
 rotate_left 1
 clear hK K
 try simp only [Act.put, z1, z2, z3, z4, z5, z6]
 rotate_left 1
 ·exact hS.out _ (((Bel.refl wc).alloc _).drewN 1)
 refine wpAnyH_done (by kernel_rfl) ?_ _
 clear hS hHeld hBd
 obtain ⟨X, hX⟩ : ∃ X, wc.heap.size = X := ⟨_, rfl⟩
 have hBc : Bel wc (wc.alloc (.cells #[.int .i64 15, .int .i64 x.f1, .int .i64 x.f2, .int .i64 x.f3, .int .i64 x.f4, .int .i64 x.f5, .slice A6 x.f6.length c6] 57)).drew := ((Bel.refl wc).alloc _).drewN 1
 have hbX : (wc.alloc (.cells #[.int .i64 15, .int .i64 x.f1, .int .i64 x.f2, .int .i64 x.f3, .int .i64 x.f4, .int .i64 x.f5, .slice A6 x.f6.length c6] 57)).drew.heap[X]? = some (.cells #[.int .i64 15, .int .i64 x.f1, .int .i64 x.f2, .int .i64 x.f3, .int .i64 x.f4, .int .i64 x.f5, .slice A6 x.f6.length c6] 57 (0, 0)) := heap_new' (W := wc) hX.symm
 rw [hX]
 have h := h.step hBc
 replace hb1 := hBc.blk hb1
 generalize (wc.alloc (.cells #[.int .i64 15, .int .i64 x.f1, .int .i64 x.f2, .int .i64 x.f3, .int .i64 x.f4, .int .i64 x.f5, .slice A6 x.f6.length c6] 57)).drew = wd at hBc hbX h hb1 ⊢
 replace hX := Aside0.mk hX
 clear hBc
 obtain ⟨u0, u1, u2, u3, hz⟩ := h.top (f := f) (r := r) hst.out hnn.out
 have q0 := hz (nn * 4 + 3)
 clear u0 u1 u2 hz
 go_upto_region 5 with (fail)
 have hkg := KO.set g (nn * 4 + 3) wd (.int .i64 ((f.pos : Int) + 1))
 have hbg := h.neG hb1 (by decide)
 have hXg := h.neG hbX (by decide)
 replace hb1 := hkg.blk hb1 hbg
 replace hbX := hkg.blk hbX hXg
 have h := h.setPos (f := f) (r := r) hst.out hnn.out (f.pos + 1)
 rw [show (((f.pos + 1 : Nat) : Int)) = (f.pos : Int) + 1 by omega] at h
 clear hkg q0 u3
 generalize wd.setCell ⟨g, nn * 4 + 3, none⟩ (.int .i64 ((f.pos : Int) + 1)) = we at hb1 hbX h ⊢
 obtain ⟨u1, hfz, x0, x4, x5, x6, hvs⟩ := rpost (s := s) (f := f) (r := r) h hnn.out hbX
 have hvl := Aside0.mk hT.out.vars
 have hdd := hi.out.d (by rw [hop.out]; decide)
 obtain ⟨kd, hkd⟩ : ∃ k : Nat, x.f1 = (k : Int) := ⟨x.f1.toNat, by omega⟩
 have lkd : kd < f.vars.length := by have := hvl.out; omega
 have lkd' : (kd : Int) < (f.vars.length : Int) := by omega
 have x1 : we.cell? ⟨X, 1, none⟩ = some (.int .i64 kd) := by rw [← hkd]; exact blk_cell hbX 1
 have hkt : x.f1.toNat = kd := by omega
 clear hdd
 replace hkd := Aside0.mk hkd
 replace hkt := Aside0.mk hkt
 have hda := hi.out.a (by rw [hop.out]; decide)
 obtain ⟨ka, hka⟩ : ∃ k : Nat, x.f2 = (k : Int) := ⟨x.f2.toNat, by omega⟩
 have lka : ka < f.vars.length := by have := hT.out.vars; omega
 have lka' : (ka : Int) < (f.vars.length : Int) := by omega
 have x2 : we.cell? ⟨X, 2, none⟩ = some (.int .i64 ka) := by rw [← hka]; exact blk_cell hbX 2
 obtain ⟨va, hva⟩ : ∃ v, varAt f.vars x.f2 = v := ⟨_, rfl⟩
 obtain ⟨a0, a1, a2⟩ := vals_at hvs ka lka
 rw [← hka, hva] at a0 a1 a2
 clear hda
 replace hka := Aside0.mk hka
 replace hva := Aside0.mk hva
 have hdv := hT.out.val x.f2
 rw [hva.out] at hdv
 replace hdv := Aside0.mk hdv
 have ho9 := Aside0.mk hr.out.objs
 by_cases hob : objE s.heap va.f1 = 0
 case neg =>
  have hno := Aside0.mk (robj_no h va.f1 hob)
  go_upto_region 46 with (go_at_call 38; ((with_reducible refine hno.out.mono ?_); rintro e w2 ⟨rfl, hz⟩))
  skip
  go_wp2
  go_end0
  refine .of hz ?_
  rw [stepL_err (p := p) hG.out.stack (l := s.heap) (v := ⟨0, va.f1, x.f4⟩) (e := 14) (by rw [hx.out]; simp [reckonL, hop.out]) (by rw [hx.out, hva.out]; simp [touchL, hop.out, derE_no hdv.out hob]) (by decide)]
 obtain ⟨k, hk, hkl⟩ := objE_nat hob
 have hn4 : s.heap.length ≤ 100000 := by have := ho9.out; omega
 obtain ⟨g2, c2, hk', rfl, c0, c1, i0, i1, hne⟩ := h.objAt k hkl
 have hyes := Aside0.mk (robj_at h va.f1 k hkl hk hn4)
 have hoa : objAt s.heap va.f1 = s.heap[k] := by rw [hk]; exact objAt_nat hkl
 obtain ⟨bi, hbi⟩ : ∃ b, os[k].1 = b := ⟨_, rfl⟩
 obtain ⟨bj, hbj⟩ : ∃ b, os[k].2 = b := ⟨_, rfl⟩
 obtain ⟨ob, hobk⟩ : ∃ o, s.heap[k] = o := ⟨_, rfl⟩
 rw [hbi, hobk] at c0 i0
 rw [hbj, hobk] at c1 i1
 rw [hbi, hbj] at hne
 rw [hobk] at hoa
 replace hk := Aside0.mk hk
 replace hoa := Aside0.mk hoa
 replace hobk := Aside0.mk hobk
 replace hbi := Aside0.mk hbi
 replace hbj := Aside0.mk hbj
 obtain ⟨lf, hlf⟩ : ∃ l, ob.f1 = l := ⟨_, rfl⟩
 rw [hlf] at c1 i1
 replace hlf := Aside0.mk hlf
 go_upto_region 46 with (go_at_call 38; ((with_reducible refine hyes.out.mono ?_); rintro e w2 ⟨rfl, hq⟩; obtain rfl := hq.symm))
 clear hyes
 have hstep := stepL_set (p := p) hG.out.stack (l := s.heap) (v := ⟨0, va.f1, x.f4⟩) (by rw [hx.out]; simp [reckonL, hop.out]) (by rw [hx.out, hva.out]; simp [touchL, hop.out, derE_at hob]) (by rw [hx.out, hop.out]; rfl)
 rw [hx.out] at hstep
 replace hstep := Aside0.mk hstep
 clear hob
 go_upto_region 47 with (fail)
 go_still_tail 13, (by kernel_rfl)
 have hBd : Bel we we.drew := (Bel.refl we).drewN 1
 have h := h.step hBd
 replace hvs : ValsAt we.drew vb f.vars := hBd.blk hvs
 change wpList _ _ _ _ _ we.drew
 generalize we.drew = we at h hvs ⊢
 obtain ⟨y0, y1, y2⟩ := ValsAt.at_ hvs kd lkd
 have w0' := blk_frozen hvs (kd * 3)
 have w1' := blk_frozen hvs (kd * 3 + 1)
 have w2' := blk_frozen hvs (kd * 3 + 2)
 go_wp2
 go_end0
 have h := h.setV (f := { f with pos := f.pos + 1 }) (r := r) rfl (vs := f.vars.set kd ⟨0, va.f1, x.f4⟩) (by simp) (KO.set3 vb _ _ _ _ _ _ _) (ValsAt.put hvs kd lkd ⟨0, va.f1, x.f4⟩)
 refine .of h ?_
 rw [hstep.out, hkt.out]
 try rw [hva.out]
 try rw [hvb.out]
 all_goals rfl
set_option maxHeartbeats 4000000 in
theorem rstep21 (hop : (insAt p f).f0 = 21) : Calls Try.prog 23 #[.pointer (some ⟨sb, 0, none⟩), .agg #[.slice PA p.f0.length pc]] W (RStepIs w0 sb (stepL p s)) := by
 have hstep := stepL_lead (p := p) hG.stack (by simp [reckonL, hop]) (by simp [touchL, hop])
 obtain ⟨g, sc, vb, nn, b1, c4, d4, c6, cl, bl, pl, fs, adp, ad4, ad5, A6, x, rfl, rfl, rfl, hn60, e7, e1, l1, h, hB0, hb1, hY, hR6, lpos, lblk, lfn, ep, hpb, hi, hfi, hlen, hnn, hst, hx, hpl', hb1n, hT⟩ := rpre w0 p sb W s fs os sv ev hv PA pc hP h hp f r hG hs4
 rw [hx.out] at hop
 rw [hop] at hY
 replace hY := Aside0.mk hY
 rw [hpl'.out]
 replace hop := Aside0.mk hop
 replace hG := Aside0.mk hG
 go_enter Try.func23, Try.ntmps23
 go_upto_region 1 with (fail)
 rw [hb1n.out]
 have h := h.step hB0
 generalize W.alloc (.cells #[.slice (some adp) pl pc] 24) = wa at hB0 hb1 h ⊢
 have hm := h.blk
 have q0 := blk_frozen hm 6
 have q1 : wa.cell? ⟨sb, 6, none⟩ = some (.int .i64 s.steps) := blk_cell hm 6
 go_upto_region 2 with (fail)
 have hKs := KO.set sb 6 wa (.int .i64 ((s.steps : Int) + 1))
 have h := h.setS (s1 := { s with steps := s.steps + 1 }) hKs rfl rfl rfl ((blk_set hm 6 _).trans rfl)
 have hsb1 : b1 ≠ sb := two_types hb1 hm (by decide)
 replace hb1 := hKs.blk hb1 hsb1
 clear q0 q1 hm hKs hB0
 generalize wa.setCell ⟨sb, 6, none⟩ (.int .i64 ((s.steps : Int) + 1)) = wb at hb1 h ⊢
 have z0 : wb.cell? ⟨sb, 0, none⟩ = some (.slice (some ⟨g, 0, none⟩) (nn + 1) sc) := blk_cell h.blk 0
 go_quiet (fail)
 clear z0
 have hBn : Bel wb (wb.drewN nq) := (Bel.refl wb).drewN nq
 have h := h.step hBn
 replace hb1 := hBn.blk hb1
 generalize wb.drewN nq = wc at h hb1 ⊢
 clear hBn
 go_upto_region 3 with (fail)
 obtain ⟨u0, u1, u2, u3, -⟩ := h.top (f := f) (r := r) hst.out hnn.out
 have ub : wc.cell? ⟨b1, 0, none⟩ = some (.slice (some adp) pl pc) := blk_cell hb1 0
 have hS := Aside0.mk (fun (X : World) (q : Bel wc X) => hY.out wc X h.bel q ub u0 u2 u3)
 have hBd : Bel wc wc.drew := (Bel.refl wc).drewN 1
 clear u0 u1 u2 u3 ub hY
 refine wp_region_held_drew (S := SR b1 g nn f adp pl pc ad4 ad5 A6 bl c4 cl d4 c6 21 x) (by kernel_rfl) (hS.out _ hBd) (fun hHeld => ?_)
 refine takeH [0, 1, 2, 3, 4, 5, 6, 7, 8, 9, 10, 11, 12, 13, 14, 15, 16, 17, 18, 19, 20, 21] (by kernel_rfl) (by kernel_rfl) hHeld ?_
 iterate 22 (refine takeI (v := ?_) rfl rfl (fun _ _ _ h => h) (Or.inl ⟨by kernel_rfl, ?_⟩) ?_; rotate_left 1; focus (intro w hSw; (try dsimp only at hSw); go_simp; (try with_reducible rfl); done); try simp only [Act.put, z1, z2, z3, z4, z5, z6])
 refine takeE ?_
 try dsimp only
 refine wpAnyH_ready (rs := [22]) (by kernel_rfl) (by simp) ?_
 refine AllReadyH.cons rfl (fun K hK => ?_) AllReadyH.nil
 go_simp
 refine hK.out _ _ ?_ (fun hHeld => ?_)
 rotate_left 1
 clear hK K
 try simp only [Act.put, z1, z2, z3, z4, z5, z6]
 rotate_left 1
 ·exact hS.out _ (hBd.alloc _)
 refine wpAnyH_ready (rs := [23]) (by kernel_rfl) (by simp) ?_
 refine AllReadyH.cons rfl (fun K hK => ?_) AllReadyH.nil
 go_simp
 refine hK.out _ _ ?_ (fun hHeld => ?_)
 rotate_left 1
 clear hK K
 try simp only [Act.put, z1, z2, z3, z4, z5, z6]
 rotate_left 1
 ·exact hS.out _ (((Bel.refl wc).alloc _).drewN 1)
 refine wpAnyH_done (by kernel_rfl) ?_ _
 clear hS hHeld hBd
 obtain ⟨X, hX⟩ : ∃ X, wc.heap.size = X := ⟨_, rfl⟩
 have hBc : Bel wc (wc.alloc (.cells #[.int .i64 21, .int .i64 x.f1, .int .i64 x.f2, .int .i64 x.f3, .int .i64 x.f4, .int .i64 x.f5, .slice A6 x.f6.length c6] 57)).drew := ((Bel.refl wc).alloc _).drewN 1
 have hbX : (wc.alloc (.cells #[.int .i64 21, .int .i64 x.f1, .int .i64 x.f2, .int .i64 x.f3, .int .i64 x.f4, .int .i64 x.f5, .slice A6 x.f6.length c6] 57)).drew.heap[X]? = some (.cells #[.int .i64 21, .int .i64 x.f1, .int .i64 x.f2, .int .i64 x.f3, .int .i64 x.f4, .int .i64 x.f5, .slice A6 x.f6.length c6] 57 (0, 0)) := heap_new' (W := wc) hX.symm
 rw [hX]
 have h := h.step hBc
 replace hb1 := hBc.blk hb1
 generalize (wc.alloc (.cells #[.int .i64 21, .int .i64 x.f1, .int .i64 x.f2, .int .i64 x.f3, .int .i64 x.f4, .int .i64 x.f5, .slice A6 x.f6.length c6] 57)).drew = wd at hBc hbX h hb1 ⊢
 replace hX := Aside0.mk hX
 clear hBc
 obtain ⟨u0, u1, u2, u3, hz⟩ := h.top (f := f) (r := r) hst.out hnn.out
 have q0 := hz (nn * 4 + 3)
 clear u0 u1 u2 hz
 go_upto_region 5 with (fail)
 have hkg := KO.set g (nn * 4 + 3) wd (.int .i64 ((f.pos : Int) + 1))
 have hbg := h.neG hb1 (by decide)
 have hXg := h.neG hbX (by decide)
 replace hb1 := hkg.blk hb1 hbg
 replace hbX := hkg.blk hbX hXg
 have h := h.setPos (f := f) (r := r) hst.out hnn.out (f.pos + 1)
 rw [show (((f.pos + 1 : Nat) : Int)) = (f.pos : Int) + 1 by omega] at h
 clear hkg q0 u3
 generalize wd.setCell ⟨g, nn * 4 + 3, none⟩ (.int .i64 ((f.pos : Int) + 1)) = we at hb1 hbX h ⊢
 obtain ⟨u1, hfz, x0, x4, x5, x6, hvs⟩ := rpost (s := s) (f := f) (r := r) h hnn.out hbX
 rw [hx.out] at hstep
 replace hstep := Aside0.mk hstep
 have hj := hi.out.jump hop.out
 obtain ⟨kn, hkn⟩ : ∃ k : Nat, x.f4 = (k : Int) := ⟨x.f4.toNat, by omega⟩
 have hkt : x.f4.toNat = kn := by omega
 rw [hkn] at x4
 replace hkn := Aside0.mk hkn
 replace hkt := Aside0.mk hkt
 clear hj
 obtain ⟨-, -, u2, u3, -⟩ := h.top (f := { f with pos := f.pos + 1 }) (r := r) rfl hnn.out
 have q2 := hfz (nn * 4 + 2)
 have q3 := hfz (nn * 4 + 3)
 clear hfz
 go_wp2
 go_end0
 have h := (h.setBlk (f := { f with pos := f.pos + 1 }) (r := r) rfl hnn.out kn).setPos (f := { f with pos := f.pos + 1, blk := kn }) (r := r) rfl hnn.out 0
 refine .of h ?_
 rw [hstep.out]
 simp only [leadL, hop.out, hkt.out]
 rfl
set_option maxHeartbeats 4000000 in
theorem rstep22 (hop : (insAt p f).f0 = 22) : Calls Try.prog 23 #[.pointer (some ⟨sb, 0, none⟩), .agg #[.slice PA p.f0.length pc]] W (RStepIs w0 sb (stepL p s)) := by
 have hstep := stepL_lead (p := p) hG.stack (by simp [reckonL, hop]) (by simp [touchL, hop])
 obtain ⟨g, sc, vb, nn, b1, c4, d4, c6, cl, bl, pl, fs, adp, ad4, ad5, A6, x, rfl, rfl, rfl, hn60, e7, e1, l1, h, hB0, hb1, hY, hR6, lpos, lblk, lfn, ep, hpb, hi, hfi, hlen, hnn, hst, hx, hpl', hb1n, hT⟩ := rpre w0 p sb W s fs os sv ev hv PA pc hP h hp f r hG hs4
 rw [hx.out] at hop
 rw [hop] at hY
 replace hY := Aside0.mk hY
 rw [hpl'.out]
 replace hop := Aside0.mk hop
 replace hG := Aside0.mk hG
 go_enter Try.func23, Try.ntmps23
 go_upto_region 1 with (fail)
 rw [hb1n.out]
 have h := h.step hB0
 generalize W.alloc (.cells #[.slice (some adp) pl pc] 24) = wa at hB0 hb1 h ⊢
 have hm := h.blk
 have q0 := blk_frozen hm 6
 have q1 : wa.cell? ⟨sb, 6, none⟩ = some (.int .i64 s.steps) := blk_cell hm 6
 go_upto_region 2 with (fail)
 have hKs := KO.set sb 6 wa (.int .i64 ((s.steps : Int) + 1))
 have h := h.setS (s1 := { s with steps := s.steps + 1 }) hKs rfl rfl rfl ((blk_set hm 6 _).trans rfl)
 have hsb1 : b1 ≠ sb := two_types hb1 hm (by decide)
 replace hb1 := hKs.blk hb1 hsb1
 clear q0 q1 hm hKs hB0
 generalize wa.setCell ⟨sb, 6, none⟩ (.int .i64 ((s.steps : Int) + 1)) = wb at hb1 h ⊢
 have z0 : wb.cell? ⟨sb, 0, none⟩ = some (.slice (some ⟨g, 0, none⟩) (nn + 1) sc) := blk_cell h.blk 0
 go_quiet (fail)
 clear z0
 have hBn : Bel wb (wb.drewN nq) := (Bel.refl wb).drewN nq
 have h := h.step hBn
 replace hb1 := hBn.blk hb1
 generalize wb.drewN nq = wc at h hb1 ⊢
 clear hBn
 go_upto_region 3 with (fail)
 obtain ⟨u0, u1, u2, u3, -⟩ := h.top (f := f) (r := r) hst.out hnn.out
 have ub : wc.cell? ⟨b1, 0, none⟩ = some (.slice (some adp) pl pc) := blk_cell hb1 0
 have hS := Aside0.mk (fun (X : World) (q : Bel wc X) => hY.out wc X h.bel q ub u0 u2 u3)
 have hBd : Bel wc wc.drew := (Bel.refl wc).drewN 1
 clear u0 u1 u2 u3 ub hY
 refine wp_region_held_drew (S := SR b1 g nn f adp pl pc ad4 ad5 A6 bl c4 cl d4 c6 22 x) (by kernel_rfl) (hS.out _ hBd) (fun hHeld => ?_)
 refine takeH [0, 1, 2, 3, 4, 5, 6, 7, 8, 9, 10, 11, 12, 13, 14, 15, 16, 17, 18, 19, 20, 21] (by kernel_rfl) (by kernel_rfl) hHeld ?_
 iterate 22 (refine takeI (v := ?_) rfl rfl (fun _ _ _ h => h) (Or.inl ⟨by kernel_rfl, ?_⟩) ?_; rotate_left 1; focus (intro w hSw; (try dsimp only at hSw); go_simp; (try with_reducible rfl); done); try simp only [Act.put, z1, z2, z3, z4, z5, z6])
 refine takeE ?_
 try dsimp only
 refine wpAnyH_ready (rs := [22]) (by kernel_rfl) (by simp) ?_
 refine AllReadyH.cons rfl (fun K hK => ?_) AllReadyH.nil
 go_simp
 refine hK.out _ _ ?_ (fun hHeld => ?_)
 rotate_left 1
 clear hK K
 try simp only [Act.put, z1, z2, z3, z4, z5, z6]
 rotate_left 1
 ·exact hS.out _ (hBd.alloc _)
 refine wpAnyH_ready (rs := [23]) (by kernel_rfl) (by simp) ?_
 refine AllReadyH.cons rfl (fun K hK => ?_) AllReadyH.nil
 go_simp
 refine hK.out _ _ ?_ (fun hHeld => ?_)
 rotate_left 1
 clear hK K
 try simp only [Act.put, z1, z2, z3, z4, z5, z6]
 rotate_left 1
 ·exact hS.out _ (((Bel.refl wc).alloc _).drewN 1)
 refine wpAnyH_done (by kernel_rfl) ?_ _
 clear hS hHeld hBd
 obtain ⟨X, hX⟩ : ∃ X, wc.heap.size = X := ⟨_, rfl⟩
 have hBc : Bel wc (wc.alloc (.cells #[.int .i64 22, .int .i64 x.f1, .int .i64 x.f2, .int .i64 x.f3, .int .i64 x.f4, .int .i64 x.f5, .slice A6 x.f6.length c6] 57)).drew := ((Bel.refl wc).alloc _).drewN 1
 have hbX : (wc.alloc (.cells #[.int .i64 22, .int .i64 x.f1, .int .i64 x.f2, .int .i64 x.f3, .int .i64 x.f4, .int .i64 x.f5, .slice A6 x.f6.length c6] 57)).drew.heap[X]? = some (.cells #[.int .i64 22, .int .i64 x.f1, .int .i64 x.f2, .int .i64 x.f3, .int .i64 x.f4, .int .i64 x.f5, .slice A6 x.f6.length c6] 57 (0, 0)) := heap_new' (W := wc) hX.symm
 rw [hX]
 have h := h.step hBc
 replace hb1 := hBc.blk hb1
 generalize (wc.alloc (.cells #[.int .i64 22, .int .i64 x.f1, .int .i64 x.f2, .int .i64 x.f3, .int .i64 x.f4, .int .i64 x.f5, .slice A6 x.f6.length c6] 57)).drew = wd at hBc hbX h hb1 ⊢
 replace hX := Aside0.mk hX
 clear hBc
 obtain ⟨u0, u1, u2, u3, hz⟩ := h.top (f := f) (r := r) hst.out hnn.out
 have q0 := hz (nn * 4 + 3)
 clear u0 u1 u2 hz
 go_upto_region 5 with (fail)
 have hkg := KO.set g (nn * 4 + 3) wd (.int .i64 ((f.pos : Int) + 1))
 have hbg := h.neG hb1 (by decide)
 have hXg := h.neG hbX (by decide)
 replace hb1 := hkg.blk hb1 hbg
 replace hbX := hkg.blk hbX hXg
 have h := h.setPos (f := f) (r := r) hst.out hnn.out (f.pos + 1)
 rw [show (((f.pos + 1 : Nat) : Int)) = (f.pos : Int) + 1 by omega] at h
 clear hkg q0 u3
 generalize wd.setCell ⟨g, nn * 4 + 3, none⟩ (.int .i64 ((f.pos : Int) + 1)) = we at hb1 hbX h ⊢
 obtain ⟨u1, hfz, x0, x4, x5, x6, hvs⟩ := rpost (s := s) (f := f) (r := r) h hnn.out hbX
 rw [hx.out] at hstep
 replace hstep := Aside0.mk hstep
 have hj := hi.out.branch hop.out
 obtain ⟨kn, hkn⟩ : ∃ k : Nat, x.f4 = (k : Int) := ⟨x.f4.toNat, by omega⟩
 obtain ⟨km, hkm⟩ : ∃ k : Nat, x.f5 = (k : Int) := ⟨x.f5.toNat, by omega⟩
 have hkt : x.f4.toNat = kn := by omega
 have hkt2 : x.f5.toNat = km := by omega
 rw [hkn] at x4
 rw [hkm] at x5
 rw [hkn, hkm] at hbX
 replace hkn := Aside0.mk hkn
 replace hkm := Aside0.mk hkm
 replace hkt := Aside0.mk hkt
 replace hkt2 := Aside0.mk hkt2
 clear hj
 have hda := hi.out.a (by rw [hop.out]; decide)
 obtain ⟨ka, hka⟩ : ∃ k : Nat, x.f2 = (k : Int) := ⟨x.f2.toNat, by omega⟩
 have lka : ka < f.vars.length := by have := hT.out.vars; omega
 have lka' : (ka : Int) < (f.vars.length : Int) := by omega
 have x2 : we.cell? ⟨X, 2, none⟩ = some (.int .i64 ka) := by rw [← hka]; exact blk_cell hbX 2
 obtain ⟨va, hva⟩ : ∃ v, varAt f.vars x.f2 = v := ⟨_, rfl⟩
 obtain ⟨a0, a1, a2⟩ := vals_at hvs ka lka
 rw [← hka, hva] at a0 a1 a2
 clear hda
 replace hka := Aside0.mk hka
 replace hva := Aside0.mk hva
 obtain ⟨-, -, u2, u3, -⟩ := h.top (f := { f with pos := f.pos + 1 }) (r := r) rfl hnn.out
 have q3 := hfz (nn * 4 + 3)
 clear hfz
 have hXg := h.neG hbX (by decide)
 have hvg := h.neG hvs (by decide)
 go_upto_region 73 with (fail)
 have hkg := KO.set g (nn * 4 + 3) we (.int .i64 0)
 have h := h.setPos (f := { f with pos := f.pos + 1 }) (r := r) rfl hnn.out 0
 replace hbX := hkg.blk hbX hXg
 replace hvs : ValsAt _ vb f.vars := hkg.blk hvs hvg
 clear q3 u2 u3 x0 x2 x4 x5 x6 a0 a1 a2 u1 hkg
 rw [show (((0 : Nat) : Int)) = (0 : Int) from rfl] at h
 generalize we.setCell ⟨g, nn * 4 + 3, none⟩ (.int .i64 0) = we at h hbX hvs ⊢
 obtain ⟨-, -, u2, -, hfz⟩ := h.top (f := { f with pos := 0 }) (r := r) rfl hnn.out
 have q2 := hfz (nn * 4 + 2)
 clear hfz
 have x2 : we.cell? ⟨X, 2, none⟩ = some (.int .i64 ka) := by rw [← hka.out]; exact blk_cell hbX 2
 have x4 : we.cell? ⟨X, 4, none⟩ = some (.int .i64 kn) := blk_cell hbX 4
 have x5 : we.cell? ⟨X, 5, none⟩ = some (.int .i64 km) := blk_cell hbX 5
 obtain ⟨a0, a1, a2⟩ := vals_at hvs ka lka
 rw [← hka.out, hva.out] at a0 a1 a2
 by_cases hz : va.f0 = 0
 ·have b1 : (va.f0 != 0) = false := by simp [hz]
  replace hz := Aside0.mk hz
  go_wp2
  go_end0
  have h := h.setBlk (f := { f with pos := 0 }) (r := r) rfl hnn.out km
  refine .of h ?_
  rw [hstep.out]
  simp only [leadL, hop.out, hva.out, hz.out, hkt2.out]
  rfl
 ·have b1 : (va.f0 != 0) = true := by simp [hz]
  have b2 : (va.f0 = 0) = False := eq_false hz
  replace b2 := Aside0.mk b2
  clear hz
  go_wp2
  go_end0
  have h := h.setBlk (f := { f with pos := 0 }) (r := r) rfl hnn.out kn
  refine .of h ?_
  rw [hstep.out]
  simp only [leadL, hop.out, hva.out, b2.out, hkt.out]
  rfl
set_option maxHeartbeats 4000000 in
theorem rstep20 (hop : (insAt p f).f0 = 20) : Calls Try.prog 23 #[.pointer (some ⟨sb, 0, none⟩), .agg #[.slice PA p.f0.length pc]] W (RStepIs w0 sb (stepL p s)) := by
 have hstep := stepL_lead (p := p) hG.stack (by simp [reckonL, hop]) (by simp [touchL, hop])
 have htold := hr.out.told
 obtain ⟨g, sc, vb, nn, b1, c4, d4, c6, cl, bl, pl, fs, adp, ad4, ad5, A6, x, rfl, rfl, rfl, hn60, e7, e1, l1, h, hB0, hb1, hY, hR6, lpos, lblk, lfn, ep, hpb, hi, hfi, hlen, hnn, hst, hx, hpl', hb1n, hT⟩ := rpre w0 p sb W s fs os sv ev hv PA pc hP h hp f r hG hs4
 rw [hx.out] at hop
 rw [hop] at hY
 replace hY := Aside0.mk hY
 rw [hpl'.out]
 replace hop := Aside0.mk hop
 replace hG := Aside0.mk hG
 go_enter Try.func23, Try.ntmps23
 go_upto_region 1 with (fail)
 rw [hb1n.out]
 have h := h.step hB0
 generalize W.alloc (.cells #[.slice (some adp) pl pc] 24) = wa at hB0 hb1 h ⊢
 have hm := h.blk
 have q0 := blk_frozen hm 6
 have q1 : wa.cell? ⟨sb, 6, none⟩ = some (.int .i64 s.steps) := blk_cell hm 6
 go_upto_region 2 with (fail)
 have hKs := KO.set sb 6 wa (.int .i64 ((s.steps : Int) + 1))
 have h := h.setS (s1 := { s with steps := s.steps + 1 }) hKs rfl rfl rfl ((blk_set hm 6 _).trans rfl)
 have hsb1 : b1 ≠ sb := two_types hb1 hm (by decide)
 replace hb1 := hKs.blk hb1 hsb1
 clear q0 q1 hm hKs hB0
 generalize wa.setCell ⟨sb, 6, none⟩ (.int .i64 ((s.steps : Int) + 1)) = wb at hb1 h ⊢
 have z0 : wb.cell? ⟨sb, 0, none⟩ = some (.slice (some ⟨g, 0, none⟩) (nn + 1) sc) := blk_cell h.blk 0
 go_quiet (fail)
 clear z0
 have hBn : Bel wb (wb.drewN nq) := (Bel.refl wb).drewN nq
 have h := h.step hBn
 replace hb1 := hBn.blk hb1
 generalize wb.drewN nq = wc at h hb1 ⊢
 clear hBn
 go_upto_region 3 with (fail)
 obtain ⟨u0, u1, u2, u3, -⟩ := h.top (f := f) (r := r) hst.out hnn.out
 have ub : wc.cell? ⟨b1, 0, none⟩ = some (.slice (some adp) pl pc) := blk_cell hb1 0
 have hS := Aside0.mk (fun (X : World) (q : Bel wc X) => hY.out wc X h.bel q ub u0 u2 u3)
 have hBd : Bel wc wc.drew := (Bel.refl wc).drewN 1
 clear u0 u1 u2 u3 ub hY
 refine wp_region_held_drew (S := SR b1 g nn f adp pl pc ad4 ad5 A6 bl c4 cl d4 c6 20 x) (by kernel_rfl) (hS.out _ hBd) (fun hHeld => ?_)
 refine takeH [0, 1, 2, 3, 4, 5, 6, 7, 8, 9, 10, 11, 12, 13, 14, 15, 16, 17, 18, 19, 20, 21] (by kernel_rfl) (by kernel_rfl) hHeld ?_
 iterate 22 (refine takeI (v := ?_) rfl rfl (fun _ _ _ h => h) (Or.inl ⟨by kernel_rfl, ?_⟩) ?_; rotate_left 1; focus (intro w hSw; (try dsimp only at hSw); go_simp; (try with_reducible rfl); done); try simp only [Act.put, z1, z2, z3, z4, z5, z6])
 refine takeE ?_
 try dsimp only
 refine wpAnyH_ready (rs := [22]) (by kernel_rfl) (by simp) ?_
 refine AllReadyH.cons rfl (fun K hK => ?_) AllReadyH.nil
 go_simp
 refine hK.out _ _ ?_ (fun hHeld => ?_)
 rotate_left 1
 clear hK K
 try simp only [Act.put, z1, z2, z3, z4, z5, z6]
 rotate_left 1
 ·exact hS.out _ (hBd.alloc _)
 refine wpAnyH_ready (rs := [23]) (by kernel_rfl) (by simp) ?_
 refine AllReadyH.cons rfl (fun K hK => ?_) AllReadyH.nil
 go_simp
 refine hK.out _ _ ?_ (fun hHeld => ?_)
 rotate_left 1
 clear hK K
 try simp only [Act.put, z1, z2, z3, z4, z5, z6]
 rotate_left 1
 ·exact hS.out _ (((Bel.refl wc).alloc _).drewN 1)
 refine wpAnyH_done (by kernel_rfl) ?_ _
 clear hS hHeld hBd
 obtain ⟨X, hX⟩ : ∃ X, wc.heap.size = X := ⟨_, rfl⟩
 have hBc : Bel wc (wc.alloc (.cells #[.int .i64 20, .int .i64 x.f1, .int .i64 x.f2, .int .i64 x.f3, .int .i64 x.f4, .int .i64 x.f5, .slice A6 x.f6.length c6] 57)).drew := ((Bel.refl wc).alloc _).drewN 1
 have hbX : (wc.alloc (.cells #[.int .i64 20, .int .i64 x.f1, .int .i64 x.f2, .int .i64 x.f3, .int .i64 x.f4, .int .i64 x.f5, .slice A6 x.f6.length c6] 57)).drew.heap[X]? = some (.cells #[.int .i64 20, .int .i64 x.f1, .int .i64 x.f2, .int .i64 x.f3, .int .i64 x.f4, .int .i64 x.f5, .slice A6 x.f6.length c6] 57 (0, 0)) := heap_new' (W := wc) hX.symm
 rw [hX]
 have h := h.step hBc
 replace hb1 := hBc.blk hb1
 generalize (wc.alloc (.cells #[.int .i64 20, .int .i64 x.f1, .int .i64 x.f2, .int .i64 x.f3, .int .i64 x.f4, .int .i64 x.f5, .slice A6 x.f6.length c6] 57)).drew = wd at hBc hbX h hb1 ⊢
 replace hX := Aside0.mk hX
 clear hBc
 obtain ⟨u0, u1, u2, u3, hz⟩ := h.top (f := f) (r := r) hst.out hnn.out
 have q0 := hz (nn * 4 + 3)
 clear u0 u1 u2 hz
 go_upto_region 5 with (fail)
 have hkg := KO.set g (nn * 4 + 3) wd (.int .i64 ((f.pos : Int) + 1))
 have hbg := h.neG hb1 (by decide)
 have hXg := h.neG hbX (by decide)
 replace hb1 := hkg.blk hb1 hbg
 replace hbX := hkg.blk hbX hXg
 have h := h.setPos (f := f) (r := r) hst.out hnn.out (f.pos + 1)
 rw [show (((f.pos + 1 : Nat) : Int)) = (f.pos : Int) + 1 by omega] at h
 clear hkg q0 u3
 generalize wd.setCell ⟨g, nn * 4 + 3, none⟩ (.int .i64 ((f.pos : Int) + 1)) = we at hb1 hbX h ⊢
 obtain ⟨u1, hfz, x0, x4, x5, x6, hvs⟩ := rpost (s := s) (f := f) (r := r) h hnn.out hbX
 rw [hx.out] at hstep
 replace hstep := Aside0.mk hstep
 have hda := hi.out.a (by rw [hop.out]; decide)
 obtain ⟨ka, hka⟩ : ∃ k : Nat, x.f2 = (k : Int) := ⟨x.f2.toNat, by omega⟩
 have lka : ka < f.vars.length := by have := hT.out.vars; omega
 have lka' : (ka : Int) < (f.vars.length : Int) := by omega
 have x2 : we.cell? ⟨X, 2, none⟩ = some (.int .i64 ka) := by rw [← hka]; exact blk_cell hbX 2
 obtain ⟨va, hva⟩ : ∃ v, varAt f.vars x.f2 = v := ⟨_, rfl⟩
 obtain ⟨a0, a1, a2⟩ := vals_at hvs ka lka
 rw [← hka, hva] at a0 a1 a2
 clear hda
 replace hka := Aside0.mk hka
 replace hva := Aside0.mk hva
 go_upto_region 68 with (fail)
 have hBd : Bel we we.drew := (Bel.refl we).drewN 1
 have h := h.step hBd
 have hS := Aside0.mk (fun (Y : World) (q : Bel we.drew Y) => And.intro (Bel.cell q (show we.drew.cell? ⟨sb, 2, none⟩ = some ev from blk_cell h.blk 2)) (And.intro (Bel.cell (hBd.trans q) x2) (Bel.cell (hBd.trans q) a0)))
 have hO := h.evs.out
 have hbase := h.bel.size
 have hne := own_neT hO h.blk (by decide)
 refine wp_region_last_drew (S := fun w' => w'.cell? ⟨sb, 2, none⟩ = some ev ∧ w'.cell? ⟨X, 2, none⟩ = some (.int .i64 ka) ∧ w'.cell? ⟨vb, ka * 3, none⟩ = some (.int .i64 va.f0)) (ds := [13, 17]) (by kernel_rfl) (hS.out _ (Bel.refl _)) (fun hHeld => ?_)
 clear x0 x2 x4 x5 x6 a0 a1 a2 u1 hfz
 refine wpAnyLast_any (i := 0) (v := ?_) rfl (Region.noSelect_spec (by kernel_rfl)) (fun _ _ _ h => h) _ _ _ _ (Region.free_spec rfl (by kernel_rfl)) (mem_of_contains (by kernel_rfl)) (Or.inl ⟨by kernel_rfl, ?_⟩) ?_
 rotate_left 1
 focus (intro w; go_simp; (try with_reducible rfl); done)
 try simp only [Act.put, z1, z2, z3, z4, z5, z6]
 refine takeL [1, 2, 3, 4, 5, 6, 7, 8, 9, 10, 11] (by kernel_rfl) (by kernel_rfl) hHeld ?_
 iterate 11 (refine takeI (v := ?_) rfl rfl (fun _ _ _ h => h) (Or.inl ⟨by kernel_rfl, ?_⟩) ?_; rotate_left 1; focus (intro w hSw; (try dsimp only at hSw); go_simp; (try with_reducible rfl); done); try simp only [Act.put, z1, z2, z3, z4, z5, z6])
 refine takeE ?_
 try dsimp only
 refine wpAnyLast_ready (rs := [12]) (by kernel_rfl) (by simp) ?_
 refine AllReadyL.cons rfl (by decide) (fun K hK => ?_) AllReadyL.nil
 go_simp
 refine hK.out _ _ ?_ (fun hHeld => ?_)
 rotate_left 1
 clear hK K
 try simp only [Act.put, z1, z2, z3, z4, z5, z6]
 rotate_left 1
 ·exact hS.out _ ((Bel.refl _).alloc _)
 refine wpAnyLast_ready (rs := [13]) (by kernel_rfl) (by simp) ?_
 refine AllReadyL.cons_last rfl (by decide) (fun K hK => ?_) AllReadyL.nil
 refine step_append_cells (w0 := w0) (W := we.drew) w0.heap.size rfl _ _ 31 3 (.int .i64 0) 1 8 rfl Try.underlying31 info_int rfl (by decide) (by decide) ev s.evs.length (nums .i64 s.evs) [.int .i64 va.f0] rfl rfl rfl (by simp [Value.oneCell']) hO h.bel.out hbase (by omega) ?_
 intro v1 w1 ho2 _ hg2 hat2
 obtain ⟨A9, c9, rfl⟩ := own_slice ho2
 have hm1 := (hg2.block sb (blk_lt h.blk) (fun e => hne sb e.symm rfl)).trans h.blk
 have q0 := blk_frozen hm1 2
 have q1 : w1.cell? ⟨sb, 2, none⟩ = some ev := blk_cell hm1 2
 refine hK.out _ _ ?_
 clear hK K
 try simp only [Act.put, z1, z2, z3, z4, z5, z6]
 refine wpAnyLast_any (i := 14) (v := ?_) rfl (Region.noSelect_spec (by kernel_rfl)) (fun _ _ _ h => h) _ _ _ _ (Region.free_spec rfl (by kernel_rfl)) (mem_of_contains (by kernel_rfl)) (Or.inl ⟨by kernel_rfl, ?_⟩) ?_
 rotate_left 1
 focus (intro w; go_simp; (try with_reducible rfl); done)
 try simp only [Act.put, z1, z2, z3, z4, z5, z6]
 refine wpAnyLast_any (i := 15) (v := ?_) rfl (Region.noSelect_spec (by kernel_rfl)) (fun _ _ _ h => h) _ _ _ _ (Region.free_spec rfl (by kernel_rfl)) (mem_of_contains (by kernel_rfl)) (Or.inl ⟨by kernel_rfl, ?_⟩) ?_
 rotate_left 1
 focus (intro w; go_simp; (try with_reducible rfl); done)
 try simp only [Act.put, z1, z2, z3, z4, z5, z6]
 refine wpAnyLast_any (i := 16) (v := ?_) rfl (Region.noSelect_spec (by kernel_rfl)) (fun _ _ _ h => h) _ _ _ _ (Region.free_spec rfl (by kernel_rfl)) (mem_of_contains (by kernel_rfl)) (Or.inl ⟨by kernel_rfl, ?_⟩) ?_
 rotate_left 1
 focus (intro w; go_simp; (try with_reducible rfl); done)
 try simp only [Act.put, z1, z2, z3, z4, z5, z6]
 refine wpAnyLast_ready (rs := [17]) (by kernel_rfl) (by simp) ?_
 refine AllReadyL.cons_last rfl (by decide) (fun K hK => ?_) AllReadyL.nil
 go_simp
 refine hK.out _ _ ?_
 clear hK K
 try simp only [Act.put, z1, z2, z3, z4, z5, z6]
 refine wpAnyLast_done (by kernel_rfl) ?_ _
 go_wp2
 go_end0
 have hz := h.tell (n := va.f0) (by
  have e : nums .i64 s.evs ++ [Value.int .i64 va.f0] = nums .i64 (s.evs ++ [va.f0]) := by simp [nums]
  rw [← e]
  exact ho2) hg2 hat2 (KO.set sb 2 w1 (.slice A9 (s.evs.length + 1) c9)) ((blk_set hm1 2 (.slice A9 (s.evs.length + 1) c9)).trans rfl)
 refine .of hz ?_
 rw [hstep.out]
 simp only [leadL, hop.out, hva.out]
 rfl
end
end Go.Proofs.Ytodjpbidjldblaa.H
