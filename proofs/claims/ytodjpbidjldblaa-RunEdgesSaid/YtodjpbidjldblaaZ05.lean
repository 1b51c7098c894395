/- Texts joined. Conditions: each stands with its theorem. -/
import Derived.Test.YtodjpbidjldblaaX00
import Derived.Test.YtodjpbidjldblaaZ01
import Derived.StillTailTactics
namespace Go.Proofs.Ytodjpbidjldblaa.H
open Go.RowKit Go.Proofs.YtodjpbidjldblaaW.PrintWords Go.Proofs.YtodjpbidjldblaaW.PrintLast
set_option linter.unusedVariables false
set_option linter.unusedSimpArgs false
set_option linter.unusedSectionVars false
set_option maxRecDepth 100000
section
variable (w0 : World) (p : SProg) (sb : Nat) (W : World) (s : VSt) (fs : List Nat) (os : List (Nat × Nat)) (sv ev hv : Value) (PA : Option Addr) (pc : Nat) (hP : Rd kFunc w0 PA p.f0) (h : RM w0 sb W s fs os sv ev hv) (hp : Aside0 (ProgP p)) (hr : Aside0 (RunP p s)) (f : VFr) (r : List VFr) (hG : GoP p s f r) (hs4 : s.steps ≤ 4000)
include hP h hp hr hG hs4
set_option maxHeartbeats 4000000 in
theorem rstep23 (hop : (insAt p f).f0 = 23) : Calls Try.prog 23 #[.pointer (some ⟨sb, 0, none⟩), .agg #[.slice PA p.f0.length pc]] W (RStepIs w0 sb (stepL p s)) := by
 have hstep := stepL_lead (p := p) hG.stack (by simp [reckonL, hop]) (by simp [touchL, hop])
 have hrest := Aside0.mk hG.rest
 obtain ⟨g, sc, vb, nn, b1, c4, d4, c6, cl, bl, pl, fs, adp, ad4, ad5, A6, x, rfl, rfl, rfl, hn60, e7, e1, l1, h, hB0, hb1, hY, hR6, lpos, lblk, lfn, ep, hpb, hi, hfi, hlen, hnn, hst, hx, hpl', hb1n, hT⟩ := rpre w0 p sb W s fs os sv ev hv PA pc hP h hp f r hG hs4
 rw [hx.out] at hop
 rw [hop] at hY
 replace hY := Aside0.mk hY
 rw [hpl'.out]
 replace hop := Aside0.mk hop
 replace hG := Aside0.mk hG
 go_enter Try.func23, Try.ntmps23
 go_upto_region 1 with (fail)
 rw [hb1n.out]
 have h := h.step hB0
 generalize W.alloc (.cells #[.slice (some adp) pl pc] 24) = wa at hB0 hb1 h ⊢
 have hm := h.blk
 have q0 := blk_frozen hm 6
 have q1 : wa.cell? ⟨sb, 6, none⟩ = some (.int .i64 s.steps) := blk_cell hm 6
 go_upto_region 2 with (fail)
 have hKs := KO.set sb 6 wa (.int .i64 ((s.steps : Int) + 1))
 have h := h.setS (s1 := { s with steps := s.steps + 1 }) hKs rfl rfl rfl ((blk_set hm 6 _).trans rfl)
 have hsb1 : b1 ≠ sb := two_types hb1 hm (by decide)
 replace hb1 := hKs.blk hb1 hsb1
 clear q0 q1 hm hKs hB0
 generalize wa.setCell ⟨sb, 6, none⟩ (.int .i64 ((s.steps : Int) + 1)) = wb at hb1 h ⊢
 have z0 : wb.cell? ⟨sb, 0, none⟩ = some (.slice (some ⟨g, 0, none⟩) (nn + 1) sc) := blk_cell h.blk 0
 go_quiet (fail)
 clear z0
 have hBn : Bel wb (wb.drewN nq) := (Bel.refl wb).drewN nq
 have h := h.step hBn
 replace hb1 := hBn.blk hb1
 generalize wb.drewN nq = wc at h hb1 ⊢
 clear hBn
 go_upto_region 3 with (fail)
 obtain ⟨u0, u1, u2, u3, -⟩ := h.top (f := f) (r := r) hst.out hnn.out
 have ub : wc.cell? ⟨b1, 0, none⟩ = some (.slice (some adp) pl pc) := blk_cell hb1 0
 have hS := Aside0.mk (fun (X : World) (q : Bel wc X) => hY.out wc X h.bel q ub u0 u2 u3)
 have hBd : Bel wc wc.drew := (Bel.refl wc).drewN 1
 clear u0 u1 u2 u3 ub hY
 refine wp_region_held_drew (S := SR b1 g nn f adp pl pc ad4 ad5 A6 bl c4 cl d4 c6 23 x) (by kernel_rfl) (hS.out _ hBd) (fun hHeld => ?_)
 refine takeH [0, 1, 2, 3, 4, 5, 6, 7, 8, 9, 10, 11, 12, 13, 14, 15, 16, 17, 18, 19, 20, 21] (by kernel_rfl) (by kernel_rfl) hHeld ?_
 iterate 22 (refine takeI (v := ?_) rfl rfl (fun _ _ _ h => h) (Or.inl ⟨by kernel_rfl, ?_⟩) ?_; rotate_left 1; focus (intro w hSw; (try dsimp only at hSw); go_simp; (try with_reducible rfl); done); try simp only [Act.put, z1, z2, z3, z4, z5, z6])
 refine takeE ?_
 try dsimp only
 refine wpAnyH_ready (rs := [22]) (by kernel_rfl) (by simp) ?_
 refine AllReadyH.cons rfl (fun K hK => ?_) AllReadyH.nil
 go_simp
 refine hK.out _ _ ?_ (fun hHeld => ?_)
 rotate_left 1
 clear hK K
 try simp only [Act.put, z1, z2, z3, z4, z5, z6]
 rotate_left 1
 ·exact hS.out _ (hBd.alloc _)
 refine wpAnyH_ready (rs := [23]) (by kernel_rfl) (by simp) ?_
 refine AllReadyH.cons rfl (fun K hK => ?_) AllReadyH.nil
 go_simp
 refine hK.out _ _ ?_ (fun hHeld => ?_)
 rotate_left 1
 clear hK K
 try simp only [Act.put, z1, z2, z3, z4, z5, z6]
 rotate_left 1
 ·exact hS.out _ (((Bel.refl wc).alloc _).drewN 1)
 refine wpAnyH_done (by kernel_rfl) ?_ _
 clear hS hHeld hBd
 obtain ⟨X, hX⟩ : ∃ X, wc.heap.size = X := ⟨_, rfl⟩
 have hBc : Bel wc (wc.alloc (.cells #[.int .i64 23, .int .i64 x.f1, .int .i64 x.f2, .int .i64 x.f3, .int .i64 x.f4, .int .i64 x.f5, .slice A6 x.f6.length c6] 57)).drew := ((Bel.refl wc).alloc _).drewN 1
 have hbX : (wc.alloc (.cells #[.int .i64 23, .int .i64 x.f1, .int .i64 x.f2, .int .i64 x.f3, .int .i64 x.f4, .int .i64 x.f5, .slice A6 x.f6.length c6] 57)).drew.heap[X]? = some (.cells #[.int .i64 23, .int .i64 x.f1, .int .i64 x.f2, .int .i64 x.f3, .int .i64 x.f4, .int .i64 x.f5, .slice A6 x.f6.length c6] 57 (0, 0)) := heap_new' (W := wc) hX.symm
 rw [hX]
 have h := h.step hBc
 replace hb1 := hBc.blk hb1
 generalize (wc.alloc (.cells #[.int .i64 23, .int .i64 x.f1, .int .i64 x.f2, .int .i64 x.f3, .int .i64 x.f4, .int .i64 x.f5, .slice A6 x.f6.length c6] 57)).drew = wd at hBc hbX h hb1 ⊢
 replace hX := Aside0.mk hX
 clear hBc
 obtain ⟨u0, u1, u2, u3, hz⟩ := h.top (f := f) (r := r) hst.out hnn.out
 have q0 := hz (nn * 4 + 3)
 clear u0 u1 u2 hz
 go_upto_region 5 with (fail)
 have hkg := KO.set g (nn * 4 + 3) wd (.int .i64 ((f.pos : Int) + 1))
 have hbg := h.neG hb1 (by decide)
 have hXg := h.neG hbX (by decide)
 replace hb1 := hkg.blk hb1 hbg
 replace hbX := hkg.blk hbX hXg
 have h := h.setPos (f := f) (r := r) hst.out hnn.out (f.pos + 1)
 rw [show (((f.pos + 1 : Nat) : Int)) = (f.pos : Int) + 1 by omega] at h
 clear hkg q0 u3
 generalize wd.setCell ⟨g, nn * 4 + 3, none⟩ (.int .i64 ((f.pos : Int) + 1)) = we at hb1 hbX h ⊢
 obtain ⟨u1, hfz, x0, x4, x5, x6, hvs⟩ := rpost (s := s) (f := f) (r := r) h hnn.out hbX
 rw [hx.out] at hstep
 replace hstep := Aside0.mk hstep
 have hda := hi.out.a (by rw [hop.out]; decide)
 obtain ⟨ka, hka⟩ : ∃ k : Nat, x.f2 = (k : Int) := ⟨x.f2.toNat, by omega⟩
 have lka : ka < f.vars.length := by have := hT.out.vars; omega
 have lka' : (ka : Int) < (f.vars.length : Int) := by omega
 have x2 : we.cell? ⟨X, 2, none⟩ = some (.int .i64 ka) := by rw [← hka]; exact blk_cell hbX 2
 obtain ⟨va, hva⟩ : ∃ v, varAt f.vars x.f2 = v := ⟨_, rfl⟩
 obtain ⟨a0, a1, a2⟩ := vals_at hvs ka lka
 rw [← hka, hva] at a0 a1 a2
 clear hda
 replace hka := Aside0.mk hka
 replace hva := Aside0.mk hva
 obtain ⟨V, hV⟩ : ∃ V, we.heap.size = V := ⟨_, rfl⟩
 have hBv := (Bel.refl we).alloc (.cells #[.int .i64 va.f0, .int .i64 va.f1, .int .i64 va.f2] 89)
 have hbV := heap_new' (o := .cells #[.int .i64 va.f0, .int .i64 va.f1, .int .i64 va.f2] 89) hV.symm
 go_upto_region 78 with (fail)
 have h := h.step hBv
 replace hb1 := hBv.blk hb1
 generalize we.alloc (.cells #[.int .i64 va.f0, .int .i64 va.f1, .int .i64 va.f2] 89) = we at h hb1 hbV ⊢
 clear x0 x2 x4 x5 x6 a0 a1 a2 u1 hfz hbX hvs hBv
 have hsV : V ≠ sb := two_types hbV h.blk (by decide)
 have hs1 : b1 ≠ sb := two_types hb1 h.blk (by decide)
 have z0 : we.cell? ⟨sb, 0, none⟩ = some (.slice (some ⟨g, 0, none⟩) (nn + 1) sc) := blk_cell h.blk 0
 have q0 := blk_frozen h.blk 0
 have l2 : (nn : Int) ≤ ((nn + 1 : Nat) : Int) := by omega
 have l3 : (0 : Int) ≤ (nn : Int) := by omega
 have eww : IntKind.i64.wrap (nn : Int) = (nn : Int) := by rw [IntKind.wrap_i64]; omega
 have hsc : nn + 1 ≤ sc := by
  have h8 : we.ownsRow w0.heap.size 62 4 (.slice (some ⟨g, 0, none⟩) (nn + 1) sc) ({ f with pos := f.pos + 1 } :: r).length (rfCells ({ f with pos := f.pos + 1 } :: r) (vb :: fs)) := h.stack.out
  rw [List.length_cons, hnn.out] at h8
  exact own_le h8
 have lsc : (nn : Int) ≤ (sc : Int) := by omega
 have hBd : Bel we we.drew := (Bel.refl we).drewN 1
 have hsu : we.drew.cell? ⟨sb, 0, none⟩ = some (.slice (some ⟨g, 0, none⟩) (nn + 1) sc) := z0
 refine wp_region_last_drew (S := fun w' => w'.cell? ⟨sb, 0, none⟩ = some (.slice (some ⟨g, 0, none⟩) (nn + 1) sc)) (ds := [14]) (by kernel_rfl) hsu (fun hHeld => ?_)
 refine takeL [0, 1, 2, 3, 4, 5, 6, 7, 8, 9, 10, 11, 12, 13] (by kernel_rfl) (by kernel_rfl) hHeld ?_
 iterate 14 (refine takeI (v := ?_) rfl rfl (fun _ _ _ h => h) (Or.inl ⟨by kernel_rfl, ?_⟩) ?_; rotate_left 1; focus (intro w hSw; (try dsimp only at hSw); go_simp; (try with_reducible rfl); done); try simp only [Act.put, z1, z2, z3, z4, z5, z6])
 refine takeE ?_
 try dsimp only
 refine wpAnyLast_ready (rs := [14]) (by kernel_rfl) (by simp) ?_
 refine AllReadyL.cons_last rfl (by decide) (fun K hK => ?_) AllReadyL.nil
 go_simp
 refine hK.out _ _ ?_
 clear hK K
 try simp only [Act.put, z1, z2, z3, z4, z5, z6]
 refine wpAnyLast_done (by kernel_rfl) ?_ _
 have hm := h.blk
 have hkS := KO.set sb 0 we (.slice (some ⟨g, 0, none⟩) nn sc)
 have hBs : Bel (we.setCell ⟨sb, 0, none⟩ (.slice (some ⟨g, 0, none⟩) nn sc)) (we.setCell ⟨sb, 0, none⟩ (.slice (some ⟨g, 0, none⟩) nn sc)).drew := (Bel.refl _).drewN 1
 have hpop := (h.pop (f := { f with pos := f.pos + 1 }) (r := r) rfl hkS (by rw [hnn.out]; exact (blk_set hm 0 _).trans rfl)).step hBs
 rw [hnn.out] at hpop
 replace hb1 := hBs.blk (hkS.blk hb1 hs1)
 replace hbV := hBs.blk (hkS.blk hbV hsV)
 clear hm hkS hBs hBd hsu z0 q0 h hHeld
 generalize (we.setCell ⟨sb, 0, none⟩ (.slice (some ⟨g, 0, none⟩) nn sc)).drew = we at hpop hb1 hbV ⊢
 have z0 : we.cell? ⟨sb, 0, none⟩ = some (.slice (some ⟨g, 0, none⟩) nn sc) := blk_cell hpop.blk 0
 rcases r with _ | ⟨g0, r1⟩
 ·obtain rfl : nn = 0 := hnn.out.symm
  obtain rfl : fs = [] := List.eq_nil_of_length_eq_zero (by rw [hlen.out]; rfl)
  go_upto_region 80 with (fail)
  have hm := hpop.blk
  have q3 := blk_frozen hm 3
  have y3 : we.drew.cell? ⟨sb, 3, none⟩ = some (.int .i64 s.fin) := blk_cell hm 3
  have v0 : we.drew.cell? ⟨V, 0, none⟩ = some (.int .i64 va.f0) := blk_cell hbV 0
  refine wp_region_held_drew (S := fun w' => w'.cell? ⟨V, 0, none⟩ = some (.int .i64 va.f0)) (by kernel_rfl) v0 (fun hHeld => ?_)
  refine takeH [0, 1, 2, 3, 4, 5, 6] (by kernel_rfl) (by kernel_rfl) hHeld ?_
  iterate 7 (refine takeI (v := ?_) rfl rfl (fun _ _ _ h => h) (Or.inl ⟨by kernel_rfl, ?_⟩) ?_; rotate_left 1; focus (intro w hSw; (try dsimp only at hSw); go_simp; (try with_reducible rfl); done); try simp only [Act.put, z1, z2, z3, z4, z5, z6])
  refine takeE ?_
  try dsimp only
  refine wpAnyH_ready (rs := [7]) (by kernel_rfl) (by simp) ?_
  refine AllReadyH.cons rfl (fun K hK => ?_) AllReadyH.nil
  go_simp
  have hk3 := KO.set sb 3 we (.int .i64 1)
  have hm3 := (blk_set hm 3 (.int .i64 1)).trans rfl
  have hV3 := hk3.blk hbV hsV
  have hBs : Bel (we.setCell ⟨sb, 3, none⟩ (.int .i64 1)) (we.setCell ⟨sb, 3, none⟩ (.int .i64 1)).drew := (Bel.refl _).drewN 1
  have h3 := (RM.setS (s1 := { s with stack := [], fin := 1, steps := s.steps + 1 }) hpop hk3 rfl rfl rfl hm3).step hBs
  replace hm3 := hBs.blk hm3
  replace hV3 := hBs.blk hV3
  refine hK.out _ _ ?_ (fun hHeld => ?_)
  rotate_left 1
  clear hK K
  try simp only [Act.put, z1, z2, z3, z4, z5, z6]
  rotate_left 1
  ·exact blk_cell hV3 0
  have q4 := blk_frozen hm3 4
  have y4 : (we.setCell ⟨sb, 3, none⟩ (.int .i64 1)).drew.cell? ⟨sb, 4, none⟩ = some (.int .i64 s.val) := blk_cell hm3 4
  clear hBs hk3
  generalize (we.setCell ⟨sb, 3, none⟩ (.int .i64 1)).drew = we at h3 hm3 hV3 q4 y4 hHeld ⊢
  refine takeH [8, 9, 10] (by kernel_rfl) (by kernel_rfl) hHeld ?_
  iterate 3 (refine takeI (v := ?_) rfl rfl (fun _ _ _ h => h) (Or.inl ⟨by kernel_rfl, ?_⟩) ?_; rotate_left 1; focus (intro w hSw; (try dsimp only at hSw); go_simp; (try with_reducible rfl); done); try simp only [Act.put, z1, z2, z3, z4, z5, z6])
  refine takeE ?_
  try dsimp only
  refine wpAnyH_ready (rs := [11]) (by kernel_rfl) (by simp) ?_
  refine AllReadyH.cons rfl (fun K hK => ?_) AllReadyH.nil
  go_simp
  have hk4 := KO.set sb 4 we (.int .i64 va.f0)
  have h4 := RM.setS (s1 := { s with stack := [], fin := 1, val := va.f0, steps := s.steps + 1 }) h3 hk4 rfl rfl rfl ((blk_set hm3 4 _).trans rfl)
  refine hK.out _ _ ?_ (fun hHeld => ?_)
  rotate_left 1
  clear hK K
  try simp only [Act.put, z1, z2, z3, z4, z5, z6]
  rotate_left 1
  ·exact blk_cell (hk4.blk hV3 hsV) 0
  refine wpAnyH_done (by kernel_rfl) ?_ _
  go_wp2
  refine bodyPost_ret (v := .tuple #[]) (by simp [results, Try.results23, go_sem]) rfl ?_
  refine .of h4 ?_
  rw [hstep.out]
  simp only [leadL, hop.out, hva.out, leaveL]
  rfl
 ·obtain ⟨n1, hn1⟩ : ∃ n1, r1.length = n1 := ⟨_, rfl⟩
  obtain rfl : nn = n1 + 1 := by have := hnn.out; rw [List.length_cons, hn1] at this; omega
  obtain ⟨g', sc', wb', fs', hsl, rfl, hlen', -⟩ := hpop.form (f := g0) (r := r1) rfl
  injection hsl with hsl1 hsl2 hsl3
  injection hsl1 with hsl1
  injection hsl1 with hsl1
  subst hsl1 hsl3
  clear hsl2
  have e2 : IntKind.i64.wrap (((n1 + 1 : Nat) : Int) - 1) = (n1 : Int) := by rw [IntKind.wrap_i64]; omega
  have l4 : (n1 : Int) < ((n1 + 1 : Nat) : Int) := by omega
  replace hn1 := Aside0.mk hn1
  clear eww lsc hsc l2 l3 l1 e1
  go_upto_region 81 with (fail)
  go_quiet (fail)
  have hBn : Bel we (we.drewN nq) := (Bel.refl we).drewN nq
  have h := hpop.step hBn
  replace hb1 := hBn.blk hb1
  replace hbV := hBn.blk hbV
  clear hpop z0
  generalize we.drewN nq = we at h hb1 hbV ⊢
  clear hBn
  obtain ⟨hF0, hW0⟩ := hrest.out g0 (List.mem_cons_self ..)
  obtain ⟨hwl, hw48⟩ := wait_ok hp.out hF0 hW0
  obtain ⟨u0, u1, u2, u3, -⟩ := h.top (f := g0) (r := r1) rfl hn1.out
  have ub : we.cell? ⟨b1, 0, none⟩ = some (.slice (some adp) pl pc) := blk_cell hb1 0
  obtain ⟨adp', F0', F1', A4', d0', d1', c4', hPA', -, -, -, -, y4, -, -, hrd', -, -, -⟩ := func_at hP g0.fn hF0.fn
  injection hPA' with hPA'
  subst hPA'
  have ef : p.f0[g0.fn]'hF0.fn = fnAt p g0.fn := by unfold fnAt; rw [List.getD_eq_getElem?_getD, List.getElem?_eq_getElem hF0.fn]; rfl
  rw [ef] at y4 hrd'
  obtain ⟨ad4', B0', d4', hA4', y0, -, hri'⟩ := block_at hrd' g0.blk hF0.blk
  subst hA4'
  have hpl0 : g0.pos - 1 < ((fnAt p g0.fn).f4[g0.blk]'hF0.blk).f0.length := by
   have h1 := hF0.pos
   unfold codeAt at h1
   rw [List.getD_eq_getElem?_getD, List.getElem?_eq_getElem hF0.blk, Option.getD_some] at h1
   omega
  obtain ⟨ad5', A6', c6', hB0', -, y11, -⟩ := ins_at hri' (g0.pos - 1) hpl0
  subst hB0'
  have hwant : ((((fnAt p g0.fn).f4[g0.blk]'hF0.blk).f0[g0.pos - 1]'hpl0).f1) = (g0.want : Int) := by
   have h1 := (hp.out.ins g0.fn hF0.fn g0.blk hF0.blk (g0.pos - 1) (by have := hF0.pos; have := hW0.pos; omega)).1.d (by rw [hW0.op]; decide)
   have h2 := hW0.want
   have e3 : (codeAt p g0.fn g0.blk).getD (g0.pos - 1) zIns = ((fnAt p g0.fn).f4[g0.blk]'hF0.blk).f0[g0.pos - 1]'hpl0 := by
    unfold codeAt
    rw [List.getD_eq_getElem?_getD (l := (fnAt p g0.fn).f4), List.getElem?_eq_getElem hF0.blk, Option.getD_some, List.getD_eq_getElem?_getD, List.getElem?_eq_getElem hpl0, Option.getD_some]
   rw [e3] at h1 h2
   omega
  rw [hwant] at y11
  obtain ⟨cl', hcl'⟩ : ∃ cl, ((fnAt p g0.fn).f4[g0.blk]'hF0.blk).f0.length = cl := ⟨_, rfl⟩
  obtain ⟨bl', hbl'⟩ : ∃ bl, (fnAt p g0.fn).f4.length = bl := ⟨_, rfl⟩
  rw [hcl'] at y0
  rw [hbl'] at y4
  obtain ⟨k0, hk0⟩ : ∃ k, g0.pos - 1 = k := ⟨_, rfl⟩
  have hW1 := hW0.pos
  have e3 : IntKind.i64.wrap ((g0.pos : Int) - 1) = (k0 : Int) := by
   have h1 := (hp.out.func g0.fn hF0.fn).code g0.blk hF0.blk
   have h2 := hF0.pos
   unfold codeAt at h2
   rw [IntKind.wrap_i64]
   omega
  have lk0 : (k0 : Int) < (cl' : Int) := by omega
  have lb0 : (g0.blk : Int) < (bl' : Int) := by have := hF0.blk; omega
  have lf0 : (g0.fn : Int) < (pl : Int) := by have := hF0.fn; have := hpl'.out; omega
  have lw0 : (g0.want : Int) < (g0.vars.length : Int) := by omega
  rw [hk0] at y11
  have hC0 := h.bel
  replace y4 := Bel.cell hC0 y4
  replace y0 := Bel.cell hC0 y0
  replace y11 := Bel.cell hC0 y11
  have v0 : we.cell? ⟨V, 0, none⟩ = some (.int .i64 va.f0) := blk_cell hbV 0
  have v1 : we.cell? ⟨V, 1, none⟩ = some (.int .i64 va.f1) := blk_cell hbV 1
  have v2 : we.cell? ⟨V, 2, none⟩ = some (.int .i64 va.f2) := blk_cell hbV 2
  clear hwant hcl' hbl' hk0 hW1 hpl0 hri' hrd' ef hC0
  replace hwl := Aside0.mk hwl
  go_upto_region 82 with (fail)
  have hBd : Bel we we.drew := (Bel.refl we).drewN 1
  have hS := Aside0.mk (And.intro (Bel.cell hBd ub) (And.intro (Bel.cell hBd u0) (And.intro (Bel.cell hBd u1) (And.intro (Bel.cell hBd u2) (And.intro (Bel.cell hBd u3) (And.intro (Bel.cell hBd y4) (And.intro (Bel.cell hBd y0) (And.intro (Bel.cell hBd y11) (And.intro (Bel.cell hBd v0) (And.intro (Bel.cell hBd v1) (Bel.cell hBd v2)))))))))))
  clear u0 u1 u2 u3 ub y4 y0 y11 v0 v1 v2
  refine wp_region_last_drew (S := fun w' => w'.cell? ⟨b1, 0, none⟩ = some (.slice (some adp) pl pc) ∧ w'.cell? ⟨g, n1 * 4, none⟩ = some (.int .i64 g0.fn) ∧ w'.cell? ⟨g, n1 * 4 + 1, none⟩ = some (.slice (some ⟨wb', 0, none⟩) g0.vars.length g0.vars.length) ∧ w'.cell? ⟨g, n1 * 4 + 2, none⟩ = some (.int .i64 g0.blk) ∧ w'.cell? ⟨g, n1 * 4 + 3, none⟩ = some (.int .i64 g0.pos) ∧ w'.cell? ⟨(adp.add (g0.fn * 5)).block, (adp.add (g0.fn * 5)).off + 4, none⟩ = some (.slice (some ad4') bl' c4') ∧ w'.cell? (ad4'.add g0.blk) = some (.slice (some ad5') cl' d4') ∧ w'.cell? ⟨(ad5'.add (k0 * 7)).block, (ad5'.add (k0 * 7)).off + 1, none⟩ = some (.int .i64 g0.want) ∧ w'.cell? ⟨V, 0, none⟩ = some (.int .i64 va.f0) ∧ w'.cell? ⟨V, 1, none⟩ = some (.int .i64 va.f1) ∧ w'.cell? ⟨V, 2, none⟩ = some (.int .i64 va.f2)) (ds := [30]) (by kernel_rfl) hS.out (fun hHeld => ?_)
  refine takeL [0, 1, 2, 3, 4, 5, 6, 7, 8, 9, 10, 11, 12, 13, 14, 15, 16, 17, 18, 19, 20, 21, 22, 23, 24, 25, 26, 27, 28, 29] (by kernel_rfl) (by kernel_rfl) hHeld ?_
  iterate 30 (refine takeI (v := ?_) rfl rfl (fun _ _ _ h => h) (Or.inl ⟨by kernel_rfl, ?_⟩) ?_; rotate_left 1; focus (intro w hSw; (try dsimp only at hSw); go_simp; (try with_reducible rfl); done); try simp only [Act.put, z1, z2, z3, z4, z5, z6])
  refine takeE ?_
  try dsimp only
  clear hS hHeld
  have hrm := h
  obtain ⟨_, _, _, _, _, qv, _, hv9⟩ := hrm.form (f := g0) (r := r1) rfl
  injection qv with qv
  subst qv
  obtain ⟨y0, y1, y2⟩ := ValsAt.at_ hv9 g0.want hwl.out
  have w0' := blk_frozen hv9 (g0.want * 3)
  have w1' := blk_frozen hv9 (g0.want * 3 + 1)
  have w2' := blk_frozen hv9 (g0.want * 3 + 2)
  refine wpAnyLast_ready (rs := [30]) (by kernel_rfl) (by simp) ?_
  refine AllReadyL.cons_last rfl (by decide) (fun K hK => ?_) AllReadyL.nil
  go_simp
  refine hK.out _ _ ?_
  clear hK K
  try simp only [Act.put, z1, z2, z3, z4, z5, z6]
  refine wpAnyLast_done (by kernel_rfl) ?_ _
  go_wp2
  go_end0
  have hz := (h.setV (f := g0) (r := r1) rfl (vs := g0.vars.set g0.want va) (by simp) (KO.set3 wb' _ _ _ _ _ _ _) (ValsAt.put hv9 g0.want hwl.out va)).step ((Bel.refl _).drewN 1)
  refine .of hz ?_
  rw [hstep.out]
  simp only [leadL, hop.out, hva.out, leaveL]
  rfl
end
theorem two_ints (W : World) (n m : Nat) : ∃ b, W.heap.size = b ∧ IntsAt ((W.alloc (.cells (nums .i64 (List.replicate n 0)).toArray 3)).alloc (.cells (nums .i64 (List.replicate m 0)).toArray 3)).drew b (List.replicate n 0) ∧ IntsAt ((W.alloc (.cells (nums .i64 (List.replicate n 0)).toArray 3)).alloc (.cells (nums .i64 (List.replicate m 0)).toArray 3)).drew (b + 1) (List.replicate m 0) ∧ Bel W ((W.alloc (.cells (nums .i64 (List.replicate n 0)).toArray 3)).alloc (.cells (nums .i64 (List.replicate m 0)).toArray 3)).drew :=
 ⟨_, rfl, heap_old (W := W.alloc _) (heap_new' (W := W) rfl), heap_new' (W := W.alloc _) (by simp), (((Bel.refl W).alloc _).alloc _).drewN 1⟩
section
variable (w0 : World) (p : SProg) (sb : Nat) (W : World) (s : VSt) (fs : List Nat) (os : List (Nat × Nat)) (sv ev hv : Value) (PA : Option Addr) (pc : Nat) (hP : Rd kFunc w0 PA p.f0) (h : RM w0 sb W s fs os sv ev hv) (hp : Aside0 (ProgP p)) (hr : Aside0 (RunP p s)) (f : VFr) (r : List VFr) (hG : GoP p s f r) (hs4 : s.steps ≤ 4000)
include hP h hp hr hG hs4
set_option maxHeartbeats 4000000 in
theorem rstep10 (hop : (insAt p f).f0 = 10) : Calls Try.prog 23 #[.pointer (some ⟨sb, 0, none⟩), .agg #[.slice PA p.f0.length pc]] W (RStepIs w0 sb (stepL p s)) := by
 have hob := hr.out.objs
 obtain ⟨g, sc, vb, nn, b1, c4, d4, c6, cl, bl, pl, fs, adp, ad4, ad5, A6, x, rfl, rfl, rfl, hn60, e7, e1, l1, h, hB0, hb1, hY, hR6, lpos, lblk, lfn, ep, hpb, hi, hfi, hlen, hnn, hst, hx, hpl', hb1n, hT⟩ := rpre w0 p sb W s fs os sv ev hv PA pc hP h hp f r hG hs4
 rw [hx.out] at hop
 rw [hop] at hY
 replace hY := Aside0.mk hY
 rw [hpl'.out]
 replace hop := Aside0.mk hop
 replace hG := Aside0.mk hG
 go_enter Try.func23, Try.ntmps23
 go_upto_region 1 with (fail)
 rw [hb1n.out]
 have h := h.step hB0
 generalize W.alloc (.cells #[.slice (some adp) pl pc] 24) = wa at hB0 hb1 h ⊢
 have hm := h.blk
 have q0 := blk_frozen hm 6
 have q1 : wa.cell? ⟨sb, 6, none⟩ = some (.int .i64 s.steps) := blk_cell hm 6
 go_upto_region 2 with (fail)
 have hKs := KO.set sb 6 wa (.int .i64 ((s.steps : Int) + 1))
 have h := h.setS (s1 := { s with steps := s.steps + 1 }) hKs rfl rfl rfl ((blk_set hm 6 _).trans rfl)
 have hsb1 : b1 ≠ sb := two_types hb1 hm (by decide)
 replace hb1 := hKs.blk hb1 hsb1
 clear q0 q1 hm hKs hB0
 generalize wa.setCell ⟨sb, 6, none⟩ (.int .i64 ((s.steps : Int) + 1)) = wb at hb1 h ⊢
 have z0 : wb.cell? ⟨sb, 0, none⟩ = some (.slice (some ⟨g, 0, none⟩) (nn + 1) sc) := blk_cell h.blk 0
 go_quiet (fail)
 clear z0
 have hBn : Bel wb (wb.drewN nq) := (Bel.refl wb).drewN nq
 have h := h.step hBn
 replace hb1 := hBn.blk hb1
 generalize wb.drewN nq = wc at h hb1 ⊢
 clear hBn
 go_upto_region 3 with (fail)
 obtain ⟨u0, u1, u2, u3, -⟩ := h.top (f := f) (r := r) hst.out hnn.out
 have ub : wc.cell? ⟨b1, 0, none⟩ = some (.slice (some adp) pl pc) := blk_cell hb1 0
 have hS := Aside0.mk (fun (X : World) (q : Bel wc X) => hY.out wc X h.bel q ub u0 u2 u3)
 have hBd : Bel wc wc.drew := (Bel.refl wc).drewN 1
 clear u0 u1 u2 u3 ub hY
 refine wp_region_held_drew (S := SR b1 g nn f adp pl pc ad4 ad5 A6 bl c4 cl d4 c6 10 x) (by kernel_rfl) (hS.out _ hBd) (fun hHeld => ?_)
 refine takeH [0, 1, 2, 3, 4, 5, 6, 7, 8, 9, 10, 11, 12, 13, 14, 15, 16, 17, 18, 19, 20, 21] (by kernel_rfl) (by kernel_rfl) hHeld ?_
 iterate 22 (refine takeI (v := ?_) rfl rfl (fun _ _ _ h => h) (Or.inl ⟨by kernel_rfl, ?_⟩) ?_; rotate_left 1; focus (intro w hSw; (try dsimp only at hSw); go_simp; (try with_reducible rfl); done); try simp only [Act.put, z1, z2, z3, z4, z5, z6])
 refine takeE ?_
 try dsimp only
 refine wpAnyH_ready (rs := [22]) (by kernel_rfl) (by simp) ?_
 refine AllReadyH.cons rfl (fun K hK => ?_) AllReadyH.nil
 go_simp
 refine hK.out _ _ ?_ (fun hHeld => ?_)
 rotate_left 1
 clear hK K
 try simp only [Act.put, z1, z2, z3, z4, z5, z6]
 rotate_left 1
 ·exact hS.out _ (hBd.alloc _)
 refine wpAnyH_ready (rs := [23]) (by kernel_rfl) (by simp) ?_
 refine AllReadyH.cons rfl (fun K hK => ?_) AllReadyH.nil
 go_simp
 refine hK.out _ _ ?_ (fun hHeld => ?_)
 rotate_left 1
 clear hK K
 try simp only [Act.put, z1, z2, z3, z4, z5, z6]
 rotate_left 1
 ·exact hS.out _ (((Bel.refl wc).alloc _).drewN 1)
 refine wpAnyH_done (by kernel_rfl) ?_ _
 clear hS hHeld hBd
 obtain ⟨X, hX⟩ : ∃ X, wc.heap.size = X := ⟨_, rfl⟩
 have hBc : Bel wc (wc.alloc (.cells #[.int .i64 10, .int .i64 x.f1, .int .i64 x.f2, .int .i64 x.f3, .int .i64 x.f4, .int .i64 x.f5, .slice A6 x.f6.length c6] 57)).drew := ((Bel.refl wc).alloc _).drewN 1
 have hbX : (wc.alloc (.cells #[.int .i64 10, .int .i64 x.f1, .int .i64 x.f2, .int .i64 x.f3, .int .i64 x.f4, .int .i64 x.f5, .slice A6 x.f6.length c6] 57)).drew.heap[X]? = some (.cells #[.int .i64 10, .int .i64 x.f1, .int .i64 x.f2, .int .i64 x.f3, .int .i64 x.f4, .int .i64 x.f5, .slice A6 x.f6.length c6] 57 (0, 0)) := heap_new' (W := wc) hX.symm
 rw [hX]
 have h := h.step hBc
 replace hb1 := hBc.blk hb1
 generalize (wc.alloc (.cells #[.int .i64 10, .int .i64 x.f1, .int .i64 x.f2, .int .i64 x.f3, .int .i64 x.f4, .int .i64 x.f5, .slice A6 x.f6.length c6] 57)).drew = wd at hBc hbX h hb1 ⊢
 replace hX := Aside0.mk hX
 clear hBc
 obtain ⟨u0, u1, u2, u3, hz⟩ := h.top (f := f) (r := r) hst.out hnn.out
 have q0 := hz (nn * 4 + 3)
 clear u0 u1 u2 hz
 go_upto_region 5 with (fail)
 have hkg := KO.set g (nn * 4 + 3) wd (.int .i64 ((f.pos : Int) + 1))
 have hbg := h.neG hb1 (by decide)
 have hXg := h.neG hbX (by decide)
 replace hb1 := hkg.blk hb1 hbg
 replace hbX := hkg.blk hbX hXg
 have h := h.setPos (f := f) (r := r) hst.out hnn.out (f.pos + 1)
 rw [show (((f.pos + 1 : Nat) : Int)) = (f.pos : Int) + 1 by omega] at h
 clear hkg q0 u3
 generalize wd.setCell ⟨g, nn * 4 + 3, none⟩ (.int .i64 ((f.pos : Int) + 1)) = we at hb1 hbX h ⊢
 obtain ⟨u1, hfz, x0, x4, x5, x6, hvs⟩ := rpost (s := s) (f := f) (r := r) h hnn.out hbX
 have hvl := Aside0.mk hT.out.vars
 have hdd := hi.out.d (by rw [hop.out]; decide)
 obtain ⟨kd, hkd⟩ : ∃ k : Nat, x.f1 = (k : Int) := ⟨x.f1.toNat, by omega⟩
 have lkd : kd < f.vars.length := by have := hvl.out; omega
 have lkd' : (kd : Int) < (f.vars.length : Int) := by omega
 have x1 : we.cell? ⟨X, 1, none⟩ = some (.int .i64 kd) := by rw [← hkd]; exact blk_cell hbX 1
 have hkt : x.f1.toNat = kd := by omega
 clear hdd
 replace hkd := Aside0.mk hkd
 replace hkt := Aside0.mk hkt
 have hal := hi.out.alloc hop.out
 obtain ⟨kn, hkn⟩ : ∃ k : Nat, x.f4 = (k : Int) := ⟨x.f4.toNat, by omega⟩
 obtain ⟨km, hkm⟩ : ∃ k : Nat, x.f5 = (k : Int) := ⟨x.f5.toNat, by omega⟩
 have hk8 : kn ≤ 8 := by omega
 have hm8 : km ≤ 8 := by omega
 have hstep := stepL_set (p := p) hG.out.stack (l := s.heap ++ [⟨List.replicate kn 0, List.replicate km 0⟩]) (v := ⟨0, s.heap.length + 1, 0⟩) (by rw [hx.out]; simp [reckonL, hop.out]) (by rw [hx.out]; simp [touchL, hop.out, hkn, hkm]) (by rw [hx.out, hop.out]; rfl)
 rw [hx.out] at hstep
 replace hstep := Aside0.mk hstep
 rw [hkn] at x4
 rw [hkm] at x5
 rw [hkn, hkm] at hbX
 replace hkn := Aside0.mk hkn
 replace hkm := Aside0.mk hkm
 clear hal
 go_upto_region 26 with (fail)
 have hmn := make_ints kn (by omega)
 have hmm := make_ints km (by omega)
 have hBd : Bel we we.drew := (Bel.refl we).drewN 1
 have hS := Aside0.mk (fun (Y : World) (q : Bel we Y) => And.intro (Bel.cell q (show we.cell? ⟨sb, 1, none⟩ = some hv from blk_cell h.blk 1)) (And.intro (Bel.cell q x4) (Bel.cell q x5)))
 clear x0 x1 x4 x5 x6 u1 hfz
 refine wp_region_last_drew (S := fun w' => w'.cell? ⟨sb, 1, none⟩ = some hv ∧ w'.cell? ⟨X, 4, none⟩ = some (.int .i64 kn) ∧ w'.cell? ⟨X, 5, none⟩ = some (.int .i64 km)) (ds := [14, 18]) (by kernel_rfl) (hS.out _ hBd) (fun hHeld => ?_)
 refine wpAnyLast_any (i := 0) (v := ?_) rfl (Region.noSelect_spec (by kernel_rfl)) (fun _ _ _ h => h) _ _ _ _ (Region.free_spec rfl (by kernel_rfl)) (mem_of_contains (by kernel_rfl)) (Or.inl ⟨by kernel_rfl, ?_⟩) ?_
 rotate_left 1
 focus (intro w; go_simp; (try with_reducible rfl); done)
 try simp only [Act.put, z1, z2, z3, z4, z5, z6]
 refine takeL [1, 2, 3, 4, 5, 6, 7, 9, 10] (by kernel_rfl) (by kernel_rfl) hHeld ?_
 iterate 9 (refine takeI (v := ?_) rfl rfl (fun _ _ _ h => h) (Or.inl ⟨by kernel_rfl, ?_⟩) ?_; rotate_left 1; focus (intro w hSw; (try dsimp only at hSw); go_simp; (try with_reducible rfl); done); try simp only [Act.put, z1, z2, z3, z4, z5, z6])
 refine takeE ?_
 try dsimp only
 refine wpAnyLast_ready (rs := [8, 11]) (by kernel_rfl) (by simp) ?_
 refine AllReadyL.cons rfl (by decide) (fun K hK => ?_) (AllReadyL.cons rfl (by decide) (fun K hK => ?_) AllReadyL.nil)
 ·go_simp
  refine hK.out _ _ ?_ (fun hHeld => ?_)
  rotate_left 1
  clear hK K
  try simp only [Act.put, z1, z2, z3, z4, z5, z6]
  rotate_left 1
  ·exact hS.out _ (((Bel.refl we).alloc _).drewN 1)
  refine wpAnyLast_ready (rs := [11]) (by kernel_rfl) (by simp) ?_
  refine AllReadyL.cons rfl (by decide) (fun K hK => ?_) AllReadyL.nil
  go_simp
  refine hK.out _ _ ?_ (fun hHeld => ?_)
  rotate_left 1
  clear hK K
  try simp only [Act.put, z1, z2, z3, z4, z5, z6]
  rotate_left 1
  ·exact hS.out _ ((((Bel.refl we).alloc _).alloc _).drewN 1)
  obtain ⟨b, e1', i0, i1, hBm⟩ := two_ints we kn km
  rw [e1']
  have hge : we.heap.size ≤ b := by omega
  have hge2 : we.heap.size ≤ b + 1 := by omega
  have hbc : b ≠ b + 1 := by omega
  have hmW := h.step hBm
  have hXm := hBm.blk hbX
  generalize ((we.alloc (.cells (nums .i64 (List.replicate kn 0)).toArray 3)).alloc (.cells (nums .i64 (List.replicate km 0)).toArray 3)).drew = wm at i0 i1 hBm hmW hXm hHeld ⊢
  clear e1'
  refine wpAnyLast_any (i := 12) (v := ?_) rfl (Region.noSelect_spec (by kernel_rfl)) (fun _ _ _ h => h) _ _ _ _ (Region.free_spec rfl (by kernel_rfl)) (mem_of_contains (by kernel_rfl)) (Or.inl ⟨by kernel_rfl, ?_⟩) ?_
  rotate_left 1
  focus (intro w; go_simp; (try with_reducible rfl); done)
  try simp only [Act.put, z1, z2, z3, z4, z5, z6]
  refine wpAnyLast_ready (rs := [13]) (by kernel_rfl) (by simp) ?_
  refine AllReadyL.cons rfl (by decide) (fun K hK => ?_) AllReadyL.nil
  go_simp
  refine hK.out _ _ ?_ (fun hHeld => ?_)
  rotate_left 1
  clear hK K
  try simp only [Act.put, z1, z2, z3, z4, z5, z6]
  rotate_left 1
  ·exact hS.out _ (hBm.alloc _)
  have hO := hmW.objs.out
  have hne := own_neT hO hmW.blk (by decide)
  have hneX := own_neT hO hXm (by decide)
  refine wpAnyLast_ready (rs := [14]) (by kernel_rfl) (by simp) ?_
  refine AllReadyL.cons_last rfl (by decide) (fun K hK => ?_) AllReadyL.nil
  refine step_append_cells (w0 := w0) (W := wm) w0.heap.size rfl _ _ 28 71 (.agg #[.slice none 0 0, .slice none 0 0]) 2 48 rfl Try.underlying28 info_Obj rfl (by decide) (by decide) hv s.heap.length (obCells s.heap os) [.slice (some ⟨b, 0, none⟩) kn kn, .slice (some ⟨b + 1, 0, none⟩) km km] rfl rfl rfl (by simp [Value.oneCell']) hO hmW.bel.out hmW.bel.size (by omega) ?_
  intro v1 w1 ho2 _ hg2 hat2
  obtain ⟨A9, c9, rfl⟩ := own_slice ho2
  have hm1 := (hg2.block sb (blk_lt hmW.blk) (fun e => hne sb e.symm rfl)).trans hmW.blk
  have hX1 := (hg2.block X (blk_lt hXm) (fun e => hneX X e.symm rfl)).trans hXm
  have q0 := blk_frozen hm1 1
  have q1 : w1.cell? ⟨sb, 1, none⟩ = some hv := blk_cell hm1 1
  refine hK.out _ _ ?_
  clear hK K
  try simp only [Act.put, z1, z2, z3, z4, z5, z6]
  refine wpAnyLast_any (i := 15) (v := ?_) rfl (Region.noSelect_spec (by kernel_rfl)) (fun _ _ _ h => h) _ _ _ _ (Region.free_spec rfl (by kernel_rfl)) (mem_of_contains (by kernel_rfl)) (Or.inl ⟨by kernel_rfl, ?_⟩) ?_
  rotate_left 1
  focus (intro w; go_simp; (try with_reducible rfl); done)
  try simp only [Act.put, z1, z2, z3, z4, z5, z6]
  refine wpAnyLast_any (i := 16) (v := ?_) rfl (Region.noSelect_spec (by kernel_rfl)) (fun _ _ _ h => h) _ _ _ _ (Region.free_spec rfl (by kernel_rfl)) (mem_of_contains (by kernel_rfl)) (Or.inl ⟨by kernel_rfl, ?_⟩) ?_
  rotate_left 1
  focus (intro w; go_simp; (try with_reducible rfl); done)
  try simp only [Act.put, z1, z2, z3, z4, z5, z6]
  refine wpAnyLast_any (i := 17) (v := ?_) rfl (Region.noSelect_spec (by kernel_rfl)) (fun _ _ _ h => h) _ _ _ _ (Region.free_spec rfl (by kernel_rfl)) (mem_of_contains (by kernel_rfl)) (Or.inl ⟨by kernel_rfl, ?_⟩) ?_
  rotate_left 1
  focus (intro w; go_simp; (try with_reducible rfl); done)
  try simp only [Act.put, z1, z2, z3, z4, z5, z6]
  refine wpAnyLast_ready (rs := [18]) (by kernel_rfl) (by simp) ?_
  refine AllReadyL.cons_last rfl (by decide) (fun K hK => ?_) AllReadyL.nil
  go_simp
  refine hK.out _ _ ?_
  clear hK K
  try simp only [Act.put, z1, z2, z3, z4, z5, z6]
  refine wpAnyLast_done (by kernel_rfl) ?_ _
  have hz := h.make (o := ⟨List.replicate kn 0, List.replicate km 0⟩) (b := (b, b + 1)) hBm i0 i1 hge hge2 hbc (by simpa using ho2) hg2 (KO.set sb 1 w1 (.slice A9 (s.heap.length + 1) c9)) ((blk_set hm1 1 (.slice A9 (s.heap.length + 1) c9)).trans rfl)
  have hXz := (KO.set sb 1 w1 (.slice A9 (s.heap.length + 1) c9)).blk hX1 (two_types hX1 hm1 (by decide))
  clear q0 q1 hm1 hX1 ho2 hg2 hat2 hO hne hneX i0 i1 hBm hmW hXm hge hge2 hbc h hbX hb1 hvs hHeld hS
  generalize w1.setCell ⟨sb, 1, none⟩ (.slice A9 (s.heap.length + 1) c9) = we at hz hXz ⊢
  have x1 : we.cell? ⟨X, 1, none⟩ = some (.int .i64 kd) := by rw [← hkd.out]; exact blk_cell hXz 1
  have y0 : we.cell? ⟨sb, 1, none⟩ = some (.slice A9 (s.heap.length + 1) c9) := blk_cell hz.blk 1
  go_upto_region 27 with (fail)
  go_still_tail 11, (by kernel_rfl)
  have hBd : Bel we we.drew := (Bel.refl we).drewN 1
  have h := hz.step hBd
  clear x1 y0
  change wpList _ _ _ _ _ we.drew
  generalize we.drew = we at h ⊢
  obtain ⟨_, _, _, _, _, qv, _, hvs⟩ := h.form (f := { f with pos := f.pos + 1 }) (r := r) rfl
  injection qv with qv
  subst qv
  obtain ⟨y0, y1, y2⟩ := ValsAt.at_ hvs kd lkd
  have w0' := blk_frozen hvs (kd * 3)
  have w1' := blk_frozen hvs (kd * 3 + 1)
  have w2' := blk_frozen hvs (kd * 3 + 2)
  go_wp2
  go_end0
  have hq := h.setV (f := { f with pos := f.pos + 1 }) (r := r) rfl (vs := f.vars.set kd ⟨0, (s.heap.length : Int) + 1, 0⟩) (by simp) (KO.set3 _ _ _ _ _ _ _ _) (ValsAt.put hvs kd lkd ⟨0, (s.heap.length : Int) + 1, 0⟩)
  refine .of hq ?_
  rw [hstep.out, hkt.out]
  all_goals rfl
 ·go_simp
  refine hK.out _ _ ?_ (fun hHeld => ?_)
  rotate_left 1
  clear hK K
  try simp only [Act.put, z1, z2, z3, z4, z5, z6]
  rotate_left 1
  ·exact hS.out _ (((Bel.refl we).alloc _).drewN 1)
  refine wpAnyLast_ready (rs := [8]) (by kernel_rfl) (by simp) ?_
  refine AllReadyL.cons rfl (by decide) (fun K hK => ?_) AllReadyL.nil
  go_simp
  refine hK.out _ _ ?_ (fun hHeld => ?_)
  rotate_left 1
  clear hK K
  try simp only [Act.put, z1, z2, z3, z4, z5, z6]
  rotate_left 1
  ·exact hS.out _ ((((Bel.refl we).alloc _).alloc _).drewN 1)
  obtain ⟨b, e1', i0, i1, hBm⟩ := two_ints we km kn
  rw [e1']
  have hge : we.heap.size ≤ b := by omega
  have hge2 : we.heap.size ≤ b + 1 := by omega
  have hbc : b ≠ b + 1 := by omega
  have hmW := h.step hBm
  have hXm := hBm.blk hbX
  generalize ((we.alloc (.cells (nums .i64 (List.replicate km 0)).toArray 3)).alloc (.cells (nums .i64 (List.replicate kn 0)).toArray 3)).drew = wm at i0 i1 hBm hmW hXm hHeld ⊢
  clear e1'
  refine wpAnyLast_any (i := 12) (v := ?_) rfl (Region.noSelect_spec (by kernel_rfl)) (fun _ _ _ h => h) _ _ _ _ (Region.free_spec rfl (by kernel_rfl)) (mem_of_contains (by kernel_rfl)) (Or.inl ⟨by kernel_rfl, ?_⟩) ?_
  rotate_left 1
  focus (intro w; go_simp; (try with_reducible rfl); done)
  try simp only [Act.put, z1, z2, z3, z4, z5, z6]
  refine wpAnyLast_ready (rs := [13]) (by kernel_rfl) (by simp) ?_
  refine AllReadyL.cons rfl (by decide) (fun K hK => ?_) AllReadyL.nil
  go_simp
  refine hK.out _ _ ?_ (fun hHeld => ?_)
  rotate_left 1
  clear hK K
  try simp only [Act.put, z1, z2, z3, z4, z5, z6]
  rotate_left 1
  ·exact hS.out _ (hBm.alloc _)
  have hO := hmW.objs.out
  have hne := own_neT hO hmW.blk (by decide)
  have hneX := own_neT hO hXm (by decide)
  refine wpAnyLast_ready (rs := [14]) (by kernel_rfl) (by simp) ?_
  refine AllReadyL.cons_last rfl (by decide) (fun K hK => ?_) AllReadyL.nil
  refine step_append_cells (w0 := w0) (W := wm) w0.heap.size rfl _ _ 28 71 (.agg #[.slice none 0 0, .slice none 0 0]) 2 48 rfl Try.underlying28 info_Obj rfl (by decide) (by decide) hv s.heap.length (obCells s.heap os) [.slice (some ⟨b + 1, 0, none⟩) kn kn, .slice (some ⟨b, 0, none⟩) km km] rfl rfl rfl (by simp [Value.oneCell']) hO hmW.bel.out hmW.bel.size (by omega) ?_
  intro v1 w1 ho2 _ hg2 hat2
  obtain ⟨A9, c9, rfl⟩ := own_slice ho2
  have hm1 := (hg2.block sb (blk_lt hmW.blk) (fun e => hne sb e.symm rfl)).trans hmW.blk
  have hX1 := (hg2.block X (blk_lt hXm) (fun e => hneX X e.symm rfl)).trans hXm
  have q0 := blk_frozen hm1 1
  have q1 : w1.cell? ⟨sb, 1, none⟩ = some hv := blk_cell hm1 1
  refine hK.out _ _ ?_
  clear hK K
  try simp only [Act.put, z1, z2, z3, z4, z5, z6]
  refine wpAnyLast_any (i := 15) (v := ?_) rfl (Region.noSelect_spec (by kernel_rfl)) (fun _ _ _ h => h) _ _ _ _ (Region.free_spec rfl (by kernel_rfl)) (mem_of_contains (by kernel_rfl)) (Or.inl ⟨by kernel_rfl, ?_⟩) ?_
  rotate_left 1
  focus (intro w; go_simp; (try with_reducible rfl); done)
  try simp only [Act.put, z1, z2, z3, z4, z5, z6]
  refine wpAnyLast_any (i := 16) (v := ?_) rfl (Region.noSelect_spec (by kernel_rfl)) (fun _ _ _ h => h) _ _ _ _ (Region.free_spec rfl (by kernel_rfl)) (mem_of_contains (by kernel_rfl)) (Or.inl ⟨by kernel_rfl, ?_⟩) ?_
  rotate_left 1
  focus (intro w; go_simp; (try with_reducible rfl); done)
  try simp only [Act.put, z1, z2, z3, z4, z5, z6]
  refine wpAnyLast_any (i := 17) (v := ?_) rfl (Region.noSelect_spec (by kernel_rfl)) (fun _ _ _ h => h) _ _ _ _ (Region.free_spec rfl (by kernel_rfl)) (mem_of_contains (by kernel_rfl)) (Or.inl ⟨by kernel_rfl, ?_⟩) ?_
  rotate_left 1
  focus (intro w; go_simp; (try with_reducible rfl); done)
  try simp only [Act.put, z1, z2, z3, z4, z5, z6]
  refine wpAnyLast_ready (rs := [18]) (by kernel_rfl) (by simp) ?_
  refine AllReadyL.cons_last rfl (by decide) (fun K hK => ?_) AllReadyL.nil
  go_simp
  refine hK.out _ _ ?_
  clear hK K
  try simp only [Act.put, z1, z2, z3, z4, z5, z6]
  refine wpAnyLast_done (by kernel_rfl) ?_ _
  have hz := h.make (o := ⟨List.replicate kn 0, List.replicate km 0⟩) (b := (b + 1, b)) hBm i1 i0 hge2 hge hbc.symm (by simpa using ho2) hg2 (KO.set sb 1 w1 (.slice A9 (s.heap.length + 1) c9)) ((blk_set hm1 1 (.slice A9 (s.heap.length + 1) c9)).trans rfl)
  have hXz := (KO.set sb 1 w1 (.slice A9 (s.heap.length + 1) c9)).blk hX1 (two_types hX1 hm1 (by decide))
  clear q0 q1 hm1 hX1 ho2 hg2 hat2 hO hne hneX i0 i1 hBm hmW hXm hge hge2 hbc h hbX hb1 hvs hHeld hS
  generalize w1.setCell ⟨sb, 1, none⟩ (.slice A9 (s.heap.length + 1) c9) = we at hz hXz ⊢
  have x1 : we.cell? ⟨X, 1, none⟩ = some (.int .i64 kd) := by rw [← hkd.out]; exact blk_cell hXz 1
  have y0 : we.cell? ⟨sb, 1, none⟩ = some (.slice A9 (s.heap.length + 1) c9) := blk_cell hz.blk 1
  go_upto_region 27 with (fail)
  go_still_tail 11, (by kernel_rfl)
  have hBd : Bel we we.drew := (Bel.refl we).drewN 1
  have h := hz.step hBd
  clear x1 y0
  change wpList _ _ _ _ _ we.drew
  generalize we.drew = we at h ⊢
  obtain ⟨_, _, _, _, _, qv, _, hvs⟩ := h.form (f := { f with pos := f.pos + 1 }) (r := r) rfl
  injection qv with qv
  subst qv
  obtain ⟨y0, y1, y2⟩ := ValsAt.at_ hvs kd lkd
  have w0' := blk_frozen hvs (kd * 3)
  have w1' := blk_frozen hvs (kd * 3 + 1)
  have w2' := blk_frozen hvs (kd * 3 + 2)
  go_wp2
  go_end0
  have hq := h.setV (f := { f with pos := f.pos + 1 }) (r := r) rfl (vs := f.vars.set kd ⟨0, (s.heap.length : Int) + 1, 0⟩) (by simp) (KO.set3 _ _ _ _ _ _ _ _) (ValsAt.put hvs kd lkd ⟨0, (s.heap.length : Int) + 1, 0⟩)
  refine .of hq ?_
  rw [hstep.out, hkt.out]
  all_goals rfl
end
end Go.Proofs.Ytodjpbidjldblaa.H
