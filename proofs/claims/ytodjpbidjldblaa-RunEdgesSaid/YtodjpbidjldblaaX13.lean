/- Texts joined. Conditions: each stands with its theorem. -/
import Derived.Test.YtodjpbidjldblaaX00
import Derived.Test.YtodjpbidjldblaaX12
import Derived.StillTailTactics
namespace Go.Proofs.Ytodjpbidjldblaa.H
open Go.RowKit Go.Proofs.YtodjpbidjldblaaW.PrintWords Go.Proofs.YtodjpbidjldblaaW.PrintLast
set_option linter.unusedVariables false
set_option linter.unusedSimpArgs false
set_option maxRecDepth 100000
theorem insAt_eq {p : SProg} {f : VFr} (h1 : f.blk < (fnAt p f.fn).f4.length) (h2 : f.pos < (codeAt p f.fn f.blk).length) : ∃ h : f.pos < ((fnAt p f.fn).f4[f.blk]).f0.length, ((fnAt p f.fn).f4[f.blk]).f0[f.pos] = insAt p f := by
 have e : codeAt p f.fn f.blk = ((fnAt p f.fn).f4[f.blk]).f0 := by unfold codeAt; rw [List.getD_eq_getElem?_getD, List.getElem?_eq_getElem h1, Option.getD_some]
 rw [e] at h2
 refine ⟨h2, ?_⟩
 unfold insAt
 rw [e, List.getD_eq_getElem?_getD, List.getElem?_eq_getElem h2, Option.getD_some]
theorem stepL_some {p : SProg} {s : VSt} {f : VFr} {r : List VFr} (hst : s.stack = f :: r) {v : SVal} (h : reckonL (insAt p f) (varAt f.vars (insAt p f).f2) (varAt f.vars (insAt p f).f3) = some v) :
  stepL p s = { s with stack := { f with pos := f.pos + 1, vars := f.vars.set (insAt p f).f1.toNat v } :: r, steps := s.steps + 1 } := by
 unfold stepL
 rw [hst]
 simp only []
 rw [h]
theorem stepL_lead {p : SProg} {s : VSt} {f : VFr} {r : List VFr} (hst : s.stack = f :: r) (h : reckonL (insAt p f) (varAt f.vars (insAt p f).f2) (varAt f.vars (insAt p f).f3) = none) (h2 : touchL (insAt p f) (varAt f.vars (insAt p f).f2) (varAt f.vars (insAt p f).f3) s.heap = none) :
  stepL p s = leadL p (insAt p f) { s with steps := s.steps + 1 } { f with pos := f.pos + 1 } r := by
 unfold stepL
 rw [hst]
 simp only []
 rw [h]
 simp only []
 rw [h2]
theorem stepL_touch {p : SProg} {s : VSt} {f : VFr} {r : List VFr} (hst : s.stack = f :: r) (h : reckonL (insAt p f) (varAt f.vars (insAt p f).f2) (varAt f.vars (insAt p f).f3) = none) {l : List SObj} {v : SVal} {e : Int} (h2 : touchL (insAt p f) (varAt f.vars (insAt p f).f2) (varAt f.vars (insAt p f).f3) s.heap = some (l, v, e)) :
  stepL p s = if e ≠ 0 then { s with stack := { f with pos := f.pos + 1 } :: r, heap := l, fin := 2, code := e, steps := s.steps + 1 } else if setsL (insAt p f).f0 then { s with stack := { f with pos := f.pos + 1, vars := f.vars.set (insAt p f).f1.toNat v } :: r, heap := l, steps := s.steps + 1 } else { s with stack := { f with pos := f.pos + 1 } :: r, heap := l, steps := s.steps + 1 } := by
 unfold stepL
 rw [hst]
 simp only []
 rw [h]
 simp only []
 rw [h2]
theorem lead_ops {x : SIns} {a b : SVal} {h : List SObj} (hop : partsL x.f0 ≠ []) (h1 : reckonL x a b = none) (h2 : touchL x a b h = none) : x.f0 = 19 ∨ x.f0 = 20 ∨ x.f0 = 21 ∨ x.f0 = 22 ∨ x.f0 = 23 := by
 obtain ⟨op, d, xa, xb, n, m, args⟩ := x
 rcases op_cases hop with e | e | e | e | e | e | e | e | e | e | e | e | e | e | e | e | e | e | e | e | e | e | e <;> (simp only at e; subst e) <;> first | (simp [reckonL] at h1; done) | (simp [touchL] at h2; done) | simp
theorem wait_ok {p : SProg} {h : Nat} {g : VFr} (hp : ProgP p) (q : FrP p h g) (k : WaitP p g) : g.want < g.vars.length ∧ g.vars.length ≤ 48 := by
 have h1 := (hp.ins g.fn q.fn g.blk q.blk (g.pos - 1) (by have := q.pos; omega)).1.d (by rw [k.op]; decide)
 have h2 := k.want
 have h3 := q.vars
 have h4 := (hp.func g.fn q.fn).vars
 exact ⟨by omega, by omega⟩
theorem leadL_stack {p : SProg} {x : SIns} {f : VFr} {r st : List VFr} (s : VSt) : leadL p x { s with stack := st } f r = leadL p x s f r := by
 unfold leadL leaveL
 cases r <;> rfl
set_option maxHeartbeats 8000000 in
theorem step_any (w0 : World) (p : SProg) (mb : Nat) (W : World) (s : VSt) (fs : List (Nat × Nat)) (sv ev hv : Value) (S : Nat → Prop) (h : CM w0 p mb W s fs sv ev hv S) (hp : Aside0 (ProgP p)) (hr : Aside0 (RunP p s)) (h0 : s.fin = 0) (hs4 : s.steps ≤ 4000) :
  Calls Try.prog 42 #[.pointer (some ⟨mb, 0, none⟩)] W (LeadIs w0 p mb (stepL p s)) := by
 obtain ⟨f, r, hG⟩ := hr.out.go h0
 have hst := hG.stack
 obtain ⟨fb, vb, fs, rfl, hf0⟩ := h.top hst
 obtain ⟨g, sc, rfl, hsc, hpt⟩ := h.ptr
 obtain ⟨PA, pc, hm, _⟩ := h.blk
 have hlen : fs.length = r.length := by have := h.len; rw [hst] at this; simpa using this
 have hfew := hG.few
 obtain ⟨nn, hnn⟩ : ∃ nn, fs.length = nn := ⟨_, rfl⟩
 have hn60 : nn < 60 := by omega
 rw [hnn] at hpt
 have q0 := blk_frozen hm 7
 have q1 : W.cell? ⟨mb, 7, none⟩ = some (.int .i64 (s.steps : Int)) := blk_cell hm 7
 have e7 : IntKind.i64.wrap ((s.steps : Int) + 1) = (s.steps : Int) + 1 := by rw [IntKind.wrap_i64]; omega
 replace hlen := Aside0.mk hlen
 replace hfew := Aside0.mk hfew
 replace hst := Aside0.mk hst
 replace h0 := Aside0.mk h0
 have hG := Aside0.mk hG
 go_enter Try.func42, Try.ntmps42
 go_upto_region 1 with (fail)
 have hk0 := KO.set mb 7 W (.int .i64 ((s.steps : Int) + 1))
 have hC := h.setM hk0 rfl rfl (s1 := { s with steps := s.steps + 1 }) (hv1 := hv) (h.heap.ko hk0 h.sm) (fun PA' pc' hm0 => (blk_set hm0 7 _).trans rfl)
 clear q0 q1 hm hpt hk0
 generalize W.setCell ⟨mb, 7, none⟩ (.int .i64 ((s.steps : Int) + 1)) = wa at hC ⊢
 obtain ⟨g', sc', hq, hsc', hpt⟩ := hC.ptr
 injection hq with hq1 hq2 hq3
 injection hq1 with hq1
 injection hq1 with hq1
 subst hq1 hq3
 clear hq2
 obtain ⟨PA, pc, hm, _⟩ := hC.blk
 rw [hnn] at hpt
 have z1 : wa.cell? ⟨mb, 1, none⟩ = some (.slice (some ⟨g, 0, none⟩) (nn + 1) sc) := by have := blk_cell hm 1; rw [← hnn]; exact this
 have e1 : IntKind.i64.wrap (((nn + 1 : Nat) : Int) - 1) = (nn : Int) := by rw [IntKind.wrap_i64]; omega
 have l1 : (nn : Int) < ((nn + 1 : Nat) : Int) := by omega
 go_quiet (fail)
 clear z1 hpt hm
 have hBn : Bel wa (wa.drewN nq) := (Bel.refl wa).drewN nq
 have hC1 := hC.step hBn
 clear hC
 generalize wa.drewN nq = wb at hC1 ⊢
 go_upto_region 2 with (fail)
 obtain ⟨_, _, _, q0, hf⟩ := hC1.top hst.out
 injection q0 with q0 q1
 cases q0
 clear q1
 obtain ⟨k0, k1, k2, k3, A4, c4, hfr, hrd⟩ := hf.frame
 have hvs : ValsAt wb vb f.vars := hf.vars
 have hT := hG.out.top
 obtain ⟨ad4, B0, d0, rfl, y0, _, hri⟩ := block_at hrd f.blk hT.blk
 replace y0 := Bel.cell hC1.bel y0
 obtain ⟨hpl, hpe⟩ := insAt_eq hT.blk hT.pos
 obtain ⟨ad5, A6, c6, rfl, y1, y2, y3, y4, y5, y6, y7, hl6, hR6⟩ := ins_at hri f.pos hpl
 replace y1 := Bel.cell hC1.bel y1
 replace y2 := Bel.cell hC1.bel y2
 replace y3 := Bel.cell hC1.bel y3
 replace y4 := Bel.cell hC1.bel y4
 replace y5 := Bel.cell hC1.bel y5
 replace y6 := Bel.cell hC1.bel y6
 replace y7 := Bel.cell hC1.bel y7
 rw [hpe] at y1 y2 y3 y4 y5 y6 y7 hl6 hR6
 obtain ⟨x, hx⟩ : ∃ x, insAt p f = x := ⟨_, rfl⟩
 rw [hx] at y1 y2 y3 y4 y5 y6 y7 hl6 hR6
 obtain ⟨cl, hcl⟩ : ∃ cl, ((fnAt p f.fn).f4[f.blk]'hT.blk).f0.length = cl := ⟨_, rfl⟩
 have lpos : (f.pos : Int) < (cl : Int) := by omega
 have lblk : (f.blk : Int) < ((fnAt p f.fn).f4.length : Int) := by have := hT.blk; omega
 rw [hcl] at y0
 have u4 : wb.cell? ⟨fb, 4, none⟩ = some (.slice (some ad4) (fnAt p f.fn).f4.length c4) := blk_cell hfr 4
 have u6 : wb.cell? ⟨fb, 6, none⟩ = some (.int .i64 f.blk) := blk_cell hfr 6
 have u7 : wb.cell? ⟨fb, 7, none⟩ = some (.int .i64 f.pos) := blk_cell hfr 7
 replace hx := Aside0.mk hx
 clear hpe hcl hpl hri hf
 have hS := Aside0.mk (fun (X : World) (q : Bel wb X) => And.intro (Bel.cell q u4) (And.intro (Bel.cell q u6) (And.intro (Bel.cell q u7) (And.intro (Bel.cell q y0) (And.intro (Bel.cell q y1) (And.intro (Bel.cell q y2) (And.intro (Bel.cell q y3) (And.intro (Bel.cell q y4) (And.intro (Bel.cell q y5) (And.intro (Bel.cell q y6) (Bel.cell q y7)))))))))))
 have hBd : Bel wb wb.drew := (Bel.refl wb).drewN 1
 clear u4 u6 u7 y0 y1 y2 y3 y4 y5 y6 y7
 refine wp_region_held_drew (S := fun w' => w'.cell? ⟨fb, 4, none⟩ = some (.slice (some ad4) (fnAt p f.fn).f4.length c4) ∧ w'.cell? ⟨fb, 6, none⟩ = some (.int .i64 f.blk) ∧ w'.cell? ⟨fb, 7, none⟩ = some (.int .i64 f.pos) ∧ w'.cell? (ad4.add f.blk) = some (.slice (some ad5) cl d0) ∧ w'.cell? (ad5.add (f.pos * 7)) = some (.int .i64 x.f0) ∧ w'.cell? ⟨(ad5.add (f.pos * 7)).block, (ad5.add (f.pos * 7)).off + 1, none⟩ = some (.int .i64 x.f1) ∧ w'.cell? ⟨(ad5.add (f.pos * 7)).block, (ad5.add (f.pos * 7)).off + 2, none⟩ = some (.int .i64 x.f2) ∧ w'.cell? ⟨(ad5.add (f.pos * 7)).block, (ad5.add (f.pos * 7)).off + 3, none⟩ = some (.int .i64 x.f3) ∧ w'.cell? ⟨(ad5.add (f.pos * 7)).block, (ad5.add (f.pos * 7)).off + 4, none⟩ = some (.int .i64 x.f4) ∧ w'.cell? ⟨(ad5.add (f.pos * 7)).block, (ad5.add (f.pos * 7)).off + 5, none⟩ = some (.int .i64 x.f5) ∧ w'.cell? ⟨(ad5.add (f.pos * 7)).block, (ad5.add (f.pos * 7)).off + 6, none⟩ = some (.slice A6 x.f6.length c6)) (by kernel_rfl) (hS.out _ hBd) (fun hHeld => ?_)
 refine takeH [0, 1, 2, 3, 4, 5, 6, 7, 8, 9, 10, 11, 12, 13, 14, 15, 16, 17] (by kernel_rfl) (by kernel_rfl) hHeld ?_
 iterate 18 (refine takeI (v := ?_) rfl rfl (fun _ _ _ h => h) (Or.inl ⟨by kernel_rfl, ?_⟩) ?_; rotate_left 1; focus (intro w hSw; (try dsimp only at hSw); go_simp; (try with_reducible rfl); done); try simp only [Act.put, z1, z2, z3, z4, z5, z6])
 refine takeE ?_
 try dsimp only
 refine wpAnyH_ready (rs := [18]) (by kernel_rfl) (by simp) ?_
 refine AllReadyH.cons rfl (fun K hK => ?_) AllReadyH.nil
 go_simp
 refine hK.out _ _ ?_ (fun hHeld => ?_)
 rotate_left 1
 clear hK K
 try simp only [Act.put, z1, z2, z3, z4, z5, z6]
 rotate_left 1
 ·exact hS.out _ (hBd.alloc _)
 refine wpAnyH_ready (rs := [19]) (by kernel_rfl) (by simp) ?_
 refine AllReadyH.cons rfl (fun K hK => ?_) AllReadyH.nil
 go_simp
 refine hK.out _ _ ?_ (fun hHeld => ?_)
 rotate_left 1
 clear hK K
 try simp only [Act.put, z1, z2, z3, z4, z5, z6]
 rotate_left 1
 ·exact hS.out _ (((Bel.refl wb).alloc _).drewN 1)
 refine wpAnyH_done (by kernel_rfl) ?_ _
 clear hS hHeld hBd
 obtain ⟨X, hX⟩ : ∃ X, wb.heap.size = X := ⟨_, rfl⟩
 have hBc : Bel wb (wb.alloc (.cells #[.int .i64 x.f0, .int .i64 x.f1, .int .i64 x.f2, .int .i64 x.f3, .int .i64 x.f4, .int .i64 x.f5, .slice A6 x.f6.length c6] 57)).drew := ((Bel.refl wb).alloc _).drewN 1
 have hbX : (wb.alloc (.cells #[.int .i64 x.f0, .int .i64 x.f1, .int .i64 x.f2, .int .i64 x.f3, .int .i64 x.f4, .int .i64 x.f5, .slice A6 x.f6.length c6] 57)).drew.heap[X]? = some (.cells #[.int .i64 x.f0, .int .i64 x.f1, .int .i64 x.f2, .int .i64 x.f3, .int .i64 x.f4, .int .i64 x.f5, .slice A6 x.f6.length c6] 57 (0, 0)) := heap_new' (W := wb) hX.symm
 rw [hX]
 have hC2 := hC1.step hBc
 have hfr2 := hBc.blk hfr
 generalize (wb.alloc (.cells #[.int .i64 x.f0, .int .i64 x.f1, .int .i64 x.f2, .int .i64 x.f3, .int .i64 x.f4, .int .i64 x.f5, .slice A6 x.f6.length c6] 57)).drew = wc at hBc hbX hC2 hfr2 ⊢
 clear hC1 hvs hBc
 have q0 := blk_frozen hfr2 7
 have q1 : wc.cell? ⟨fb, 7, none⟩ = some (.int .i64 f.pos) := blk_cell hfr2 7
 have ep : IntKind.i64.wrap ((f.pos : Int) + 1) = (f.pos : Int) + 1 := by
  have h1 := (hp.out.func f.fn hT.fn).code f.blk hT.blk
  have h2 := hT.pos
  unfold codeAt at h2
  rw [IntKind.wrap_i64]
  omega
 have hT := Aside0.mk hT
 go_upto_region 4 with (fail)
 have hk3 := KO.set fb 7 wc (.int .i64 ((f.pos : Int) + 1))
 have hC3 := hC2.setF (f1 := { f with pos := f.pos + 1 }) hst.out rfl rfl hk3 (fun _ _ _ _ _ _ hm0 => (blk_set hm0 7 _).trans rfl)
 have hfX : X ≠ fb := two_types hbX hfr2 (by decide)
 have hbX3 := hk3.blk hbX hfX
 have hfr3 := blk_set hfr2 7 (.int .i64 ((f.pos : Int) + 1))
 clear hC2 q0 q1 hk3 hfr hbX
 generalize wc.setCell ⟨fb, 7, none⟩ (.int .i64 ((f.pos : Int) + 1)) = wd at hC3 hbX3 hfr3 ⊢
 go_upto_region 5 with (fail)
 obtain ⟨Y, hY⟩ : ∃ Y, wd.heap.size = Y := ⟨_, rfl⟩
 have hBe : Bel wd ((wd.alloc (.cells #[.int .i64 0, .int .i64 0, .int .i64 0] 89)).alloc (.cells #[.int .i64 0, .int .i64 0, .int .i64 0] 89)) := ((Bel.refl wd).alloc _).alloc _
 have hY1 : ((wd.alloc (.cells #[.int .i64 0, .int .i64 0, .int .i64 0] 89)).alloc (.cells #[.int .i64 0, .int .i64 0, .int .i64 0] 89)).heap[Y]? = some (.cells #[.int .i64 0, .int .i64 0, .int .i64 0] 89 (0, 0)) := heap_old (heap_new' hY.symm)
 have hY2 : ((wd.alloc (.cells #[.int .i64 0, .int .i64 0, .int .i64 0] 89)).alloc (.cells #[.int .i64 0, .int .i64 0, .int .i64 0] 89)).heap[Y + 1]? = some (.cells #[.int .i64 0, .int .i64 0, .int .i64 0] 89 (0, 0)) := heap_new' (by simp [hY])
 rw [hY]
 have hC4 := hC3.step hBe
 have hfr4 := hBe.blk hfr3
 have hbX4 := hBe.blk hbX3
 have hXY : X < Y := by have := blk_lt hbX3; omega
 have hfY : fb < Y := by have := blk_lt hfr3; omega
 have hvY : vb < Y := by
  obtain ⟨_, _, _, q0, hf⟩ := hC3.top rfl
  injection q0 with q0 q1
  cases q0
  have := blk_lt hf.vars
  omega
 have hmY : mb < Y := by
  obtain ⟨_, _, hm0, _⟩ := hC3.blk
  have := blk_lt hm0
  omega
 generalize ((wd.alloc (.cells #[.int .i64 0, .int .i64 0, .int .i64 0] 89)).alloc (.cells #[.int .i64 0, .int .i64 0, .int .i64 0] 89)) = we at hBe hY1 hY2 hC4 hfr4 hbX4 ⊢
 clear hbX3 hfr3
 obtain ⟨_, _, _, q0, hf⟩ := hC4.top rfl
 injection q0 with q0 q1
 cases q0
 clear q1
 have hvs : ValsAt we vb f.vars := hf.vars
 clear hf
 obtain ⟨hi, hfi⟩ := hT.out.ins hp.out
 rw [hx.out] at hi hfi
 have hvl := hT.out.vars
 have hv48 := (hp.out.func f.fn hT.out.fn).vars
 obtain ⟨bb, hbb⟩ : ∃ bb, decide (0 < f.vars.length) = bb := ⟨_, rfl⟩
 have ra : 0 ≤ x.f2 ∧ decide (x.f2 < (f.vars.length : Int)) = bb := by
  rw [hvl] at hbb ⊢
  rw [← hbb]
  rcases hi.a0 with h1 | h1
  ·rw [h1]
   exact ⟨by omega, by simp⟩
  ·have h2 := hi.a h1
   exact ⟨h2.1, by simp only [h2.2, decide_true]; symm; exact decide_eq_true (by omega)⟩
 have rb : 0 ≤ x.f3 ∧ decide (x.f3 < (f.vars.length : Int)) = bb := by
  rw [hvl] at hbb ⊢
  rw [← hbb]
  rcases hi.b0 with h1 | h1
  ·rw [h1]
   exact ⟨by omega, by simp⟩
  ·have h2 := hi.b h1
   exact ⟨h2.1, by simp only [h2.2, decide_true]; symm; exact decide_eq_true (by omega)⟩
 have hi := Aside0.mk hi
 have hfi := Aside0.mk hfi
 replace hvl := Aside0.mk hvl
 obtain ⟨va, hva⟩ : ∃ va, varAt f.vars x.f2 = va := ⟨_, rfl⟩
 obtain ⟨vb', hvb'⟩ : ∃ vb', varAt f.vars x.f3 = vb' := ⟨_, rfl⟩
 go_cut [55, 56, 57, 58, 59, 60, 61, 62, 63, 64, 65, 66, 67, 68, 69, 70, 71, 72] (fun _ _ _ _ _ _ _ _ _ _ _ _ _ _ _ _ _ v72 W1 => v72 = .bool bb ∧ Bel we W1)
 case first =>
  have hBd : Bel we we.drew := (Bel.refl we).drewN 1
  have u5 : we.drew.cell? ⟨fb, 5, none⟩ = some (.slice (some ⟨vb, 0, none⟩) f.vars.length f.vars.length) := blk_cell (hBd.blk hfr4) 5
  have x2 : we.drew.cell? ⟨X, 2, none⟩ = some (.int .i64 x.f2) := blk_cell (hBd.blk hbX4) 2
  have x3 : we.drew.cell? ⟨X, 3, none⟩ = some (.int .i64 x.f3) := blk_cell (hBd.blk hbX4) 3
  obtain ⟨_, ra⟩ := ra
  obtain ⟨_, rb⟩ := rb
  cases bb with
  | true =>
   have pa := of_decide_eq_true ra
   have pb := of_decide_eq_true rb
   refine wp_region_held_drew (S := fun w' => w'.cell? ⟨fb, 5, none⟩ = some (.slice (some ⟨vb, 0, none⟩) f.vars.length f.vars.length) ∧ w'.cell? ⟨X, 2, none⟩ = some (.int .i64 x.f2) ∧ w'.cell? ⟨X, 3, none⟩ = some (.int .i64 x.f3)) (by kernel_rfl) ⟨u5, x2, x3⟩ (fun hHeld => ?_)
   refine takeH [0, 1, 2, 3, 4, 5, 6, 7, 8, 9, 10, 11, 12, 13, 14, 15, 16, 17] (by kernel_rfl) (by kernel_rfl) hHeld ?_
   iterate 18 (refine takeI (v := ?_) rfl rfl (fun _ _ _ h => h) (Or.inl ⟨by kernel_rfl, ?_⟩) ?_; rotate_left 1; focus (intro w hSw; (try dsimp only at hSw); go_simp; (try with_reducible rfl); done); try simp only [Act.put, z1, z2, z3, z4, z5, z6])
   refine takeE ?_
   try dsimp only
   refine wpAnyH_done (by kernel_rfl) ?_ _
   go_wp2
   go_meet
   case rel => exact ⟨rfl, hBd⟩
  | false =>
   have pa := of_decide_eq_false ra
   have pb := of_decide_eq_false rb
   have pa1 := Int.not_lt.1 pa
   have pb1 := Int.not_lt.1 pb
   refine wp_region_held_drew (S := fun w' => w'.cell? ⟨fb, 5, none⟩ = some (.slice (some ⟨vb, 0, none⟩) f.vars.length f.vars.length) ∧ w'.cell? ⟨X, 2, none⟩ = some (.int .i64 x.f2) ∧ w'.cell? ⟨X, 3, none⟩ = some (.int .i64 x.f3)) (by kernel_rfl) ⟨u5, x2, x3⟩ (fun hHeld => ?_)
   refine takeH [0, 1, 2, 3, 4, 5, 6, 7, 8] (by kernel_rfl) (by kernel_rfl) hHeld ?_
   iterate 9 (refine takeI (v := ?_) rfl rfl (fun _ _ _ h => h) (Or.inl ⟨by kernel_rfl, ?_⟩) ?_; rotate_left 1; focus (intro w hSw; (try dsimp only at hSw); go_simp; (try with_reducible rfl); done); try simp only [Act.put, z1, z2, z3, z4, z5, z6])
   refine takeE ?_
   try dsimp only
   refine takeH [9, 10, 11, 12, 13, 14, 15, 16] (by kernel_rfl) (by kernel_rfl) hHeld ?_
   iterate 8 (refine takeI (v := undef) rfl rfl (fun _ _ _ h => h) (Or.inr ⟨by kernel_rfl, rfl⟩) ?_; try simp only [Act.put, z1, z2, z3, z4, z5, z6])
   refine takeE ?_
   try dsimp only
   refine takeH [17] (by kernel_rfl) (by kernel_rfl) hHeld ?_
   iterate 1 (refine takeI (v := ?_) rfl rfl (fun _ _ _ h => h) (Or.inl ⟨by kernel_rfl, ?_⟩) ?_; rotate_left 1; focus (intro w hSw; (try dsimp only at hSw); go_simp; (try with_reducible rfl); done); try simp only [Act.put, z1, z2, z3, z4, z5, z6])
   refine takeE ?_
   try dsimp only
   refine wpAnyH_done (by kernel_rfl) ?_ _
   go_wp2
   go_meet
   case rel => exact ⟨rfl, hBd⟩
 case rest =>
  obtain ⟨rfl, hB5⟩ := hcut
  have hC5 := hC4.step hB5
  have hfr5 := hB5.blk hfr4
  have hbX5 := hB5.blk hbX4
  have hZ1 := hB5.blk hY1
  have hZ2 := hB5.blk hY2
  have hvs5 := hB5.blk hvs
  have hBw := hBe.trans hB5
  clear hC4 hfr4 hbX4 hY1 hY2 hvs hB5
  have hbY := hC5.base.1
  go_upto_if 72 with (fail)
  go_cut [73, 74, 75, 76, 77, 78, 79, 80, 81, 82, 83, 84, 85, 86, 87, 88] (fun _ _ _ _ _ _ _ _ _ _ _ _ _ _ _ _ W1 => CM w0 p mb W1 { s with stack := { f with pos := f.pos + 1 } :: r, steps := s.steps + 1 } ((fb, vb) :: fs) (.slice (some ⟨g, 0, none⟩) (fs.length + 1) sc) ev hv S ∧ W1.heap[X]? = some (.cells #[.int .i64 x.f0, .int .i64 x.f1, .int .i64 x.f2, .int .i64 x.f3, .int .i64 x.f4, .int .i64 x.f5, .slice A6 x.f6.length c6] 57 (0, 0)) ∧ W1.heap[Y]? = some (.cells #[.int .i64 va.f0, .int .i64 va.f1, .int .i64 va.f2] 89 (0, 0)) ∧ W1.heap[Y + 1]? = some (.cells #[.int .i64 vb'.f0, .int .i64 vb'.f1, .int .i64 vb'.f2] 89 (0, 0)))
  case first =>
   cases bb with
   | false =>
    go_wp2
    go_meet
    case rel =>
     have hl0 : f.vars = [] := List.eq_nil_of_length_eq_zero (by have := of_decide_eq_false hbb; omega)
     have ea : va = zVal := by rw [← hva, hl0]; rfl
     have eb : vb' = zVal := by rw [← hvb', hl0]; rfl
     rw [ea, eb]
     exact ⟨hC5, hbX5, hZ1, hZ2⟩
   | true =>
    have pa := of_decide_eq_true ra.2
    have pb := of_decide_eq_true rb.2
    obtain ⟨ka, hka⟩ : ∃ k : Nat, x.f2 = (k : Int) := ⟨x.f2.toNat, by omega⟩
    obtain ⟨kb, hkb⟩ : ∃ k : Nat, x.f3 = (k : Int) := ⟨x.f3.toNat, by omega⟩
    have x2 : wc.cell? ⟨X, 2, none⟩ = some (.int .i64 x.f2) := blk_cell hbX5 2
    have x3 : wc.cell? ⟨X, 3, none⟩ = some (.int .i64 x.f3) := blk_cell hbX5 3
    rw [hka] at x2 hva pa
    rw [hkb] at x3 hvb' pb
    obtain ⟨a0, a1, a2⟩ := vals_at hvs5 ka (by omega)
    obtain ⟨b0, b1, b2⟩ := vals_at hvs5 kb (by omega)
    rw [hva] at a0 a1 a2
    rw [hvb'] at b0 b1 b2
    have u5 : wc.cell? ⟨fb, 5, none⟩ = some (.slice (some ⟨vb, 0, none⟩) f.vars.length f.vars.length) := blk_cell hfr5 5
    have f0 := blk_frozen hZ1 0
    have f1 := blk_frozen hZ1 1
    have f2 := blk_frozen hZ1 2
    have f3 := blk_frozen hZ2 0
    have f4 := blk_frozen hZ2 1
    have f5 := blk_frozen hZ2 2
    have c0 : wc.cell? ⟨Y, 0, none⟩ = some (.int .i64 0) := blk_cell hZ1 0
    have c1 : wc.cell? ⟨Y, 1, none⟩ = some (.int .i64 0) := blk_cell hZ1 1
    have c2 : wc.cell? ⟨Y, 2, none⟩ = some (.int .i64 0) := blk_cell hZ1 2
    have c3 : wc.cell? ⟨Y + 1, 0, none⟩ = some (.int .i64 0) := blk_cell hZ2 0
    have c4 : wc.cell? ⟨Y + 1, 1, none⟩ = some (.int .i64 0) := blk_cell hZ2 1
    have c5 : wc.cell? ⟨Y + 1, 2, none⟩ = some (.int .i64 0) := blk_cell hZ2 2
    have n1 : Y ≠ X := by omega
    have n2 : Y ≠ fb := by omega
    have n3 : Y ≠ vb := by omega
    have n4 : Y + 1 ≠ X := by omega
    have n5 : Y + 1 ≠ fb := by omega
    have n6 : Y + 1 ≠ vb := by omega
    have n7 : Y ≠ Y + 1 := by omega
    have m1 := n1.symm
    have m2 := n2.symm
    have m3 := n3.symm
    have m4 := n4.symm
    have m5 := n5.symm
    have m6 := n6.symm
    have m7 := n7.symm
    go_upto_region 6 with (fail)
    have hS := Aside0.mk (fun (W1 : World) (q : ∀ j, j < Y → W1.heap[j]? = wc.heap[j]?) => And.intro (blk_cell ((q fb hfY).trans hfr5) 5) (And.intro (blk_cell ((q X hXY).trans hbX5) 2) (And.intro (blk_cell ((q X hXY).trans hbX5) 3) (vals_at ((q vb hvY).trans hvs5 : ValsAt W1 vb f.vars) ka (by omega)))))
    have hS2 := Aside0.mk (fun (W1 : World) (q : ∀ j, j < Y → W1.heap[j]? = wc.heap[j]?) => vals_at ((q vb hvY).trans hvs5 : ValsAt W1 vb f.vars) kb (by omega))
    have hSS : Aside0 (∀ W1 : World, (∀ j, j < Y → W1.heap[j]? = wc.heap[j]?) → W1.cell? ⟨fb, 5, none⟩ = some (.slice (some ⟨vb, 0, none⟩) f.vars.length f.vars.length) ∧ W1.cell? ⟨X, 2, none⟩ = some (.int .i64 ka) ∧ W1.cell? ⟨X, 3, none⟩ = some (.int .i64 kb) ∧ W1.cell? ⟨vb, ka * 3, none⟩ = some (.int .i64 va.f0) ∧ W1.cell? ⟨vb, ka * 3 + 1, none⟩ = some (.int .i64 va.f1) ∧ W1.cell? ⟨vb, ka * 3 + 2, none⟩ = some (.int .i64 va.f2) ∧ W1.cell? ⟨vb, kb * 3, none⟩ = some (.int .i64 vb'.f0) ∧ W1.cell? ⟨vb, kb * 3 + 1, none⟩ = some (.int .i64 vb'.f1) ∧ W1.cell? ⟨vb, kb * 3 + 2, none⟩ = some (.int .i64 vb'.f2)) := ⟨fun W1 q => by
     obtain ⟨h1, h2, h3, h4, h5, h6⟩ := hS.out W1 q
     obtain ⟨h7, h8, h9⟩ := hS2.out W1 q
     rw [hva] at h4 h5 h6
     rw [hvb'] at h7 h8 h9
     refine ⟨h1, ?_, ?_, h4, h5, h6, h7, h8, h9⟩
     ·rw [← hka]; exact h2
     ·rw [← hkb]; exact h3⟩
    have hYl := blk_lt hZ1
    have hYl2 := blk_lt hZ2
    have hKa := Aside0.mk (fun (u0 u1 u2 : Value) (j : Nat) (hj : j < Y) => (KO.set3 Y 0 1 2 wc u0 u1 u2).keep j (Nat.lt_trans hj hYl) (Nat.ne_of_lt hj))
    have hKb := Aside0.mk (fun (Wx : World) (hw : wc.heap.size ≤ Wx.heap.size) (u0 u1 u2 : Value) (j : Nat) (hj : j < Y) => (KO.set3 (Y + 1) 0 1 2 Wx u0 u1 u2).keep j (by omega) (by omega))
    have hdb : ∀ Wx : World, Bel Wx Wx.drew := fun Wx => (Bel.refl Wx).drewN 1
    have hdr := Aside0.mk (fun (Wx : World) (j : Nat) => (rfl : Wx.drew.heap[j]? = Wx.heap[j]?))
    clear hS hS2 u5 x2 x3 a0 a1 a2 b0 b1 b2
    refine wp_region_held_drew (S := fun W1 => W1.cell? ⟨fb, 5, none⟩ = some (.slice (some ⟨vb, 0, none⟩) f.vars.length f.vars.length) ∧ W1.cell? ⟨X, 2, none⟩ = some (.int .i64 ka) ∧ W1.cell? ⟨X, 3, none⟩ = some (.int .i64 kb) ∧ W1.cell? ⟨vb, ka * 3, none⟩ = some (.int .i64 va.f0) ∧ W1.cell? ⟨vb, ka * 3 + 1, none⟩ = some (.int .i64 va.f1) ∧ W1.cell? ⟨vb, ka * 3 + 2, none⟩ = some (.int .i64 va.f2) ∧ W1.cell? ⟨vb, kb * 3, none⟩ = some (.int .i64 vb'.f0) ∧ W1.cell? ⟨vb, kb * 3 + 1, none⟩ = some (.int .i64 vb'.f1) ∧ W1.cell? ⟨vb, kb * 3 + 2, none⟩ = some (.int .i64 vb'.f2)) (by kernel_rfl) (hSS.out wc.drew (fun _ _ => rfl)) (fun hHeld => ?_)
    refine takeH [0, 1, 2, 3, 4, 5, 6, 7, 8, 9, 10, 11, 12, 13, 14, 15] (by kernel_rfl) (by kernel_rfl) hHeld ?_
    iterate 16 (refine takeI (v := ?_) rfl rfl (fun _ _ _ h => h) (Or.inl ⟨by kernel_rfl, ?_⟩) ?_; rotate_left 1; focus (intro w hSw; (try dsimp only at hSw); go_simp; (try with_reducible rfl); done); try simp only [Act.put, z1, z2, z3, z4, z5, z6])
    refine takeE ?_
    try dsimp only
    refine wpAnyH_ready (rs := [16]) (by kernel_rfl) (by simp) ?_
    refine AllReadyH.cons rfl (fun K hK => ?_) AllReadyH.nil
    go_simp
    have hpa := put3 hZ1 (.int .i64 va.f0) (.int .i64 va.f1) (.int .i64 va.f2)
    have hZ2' := (KO.set3 Y 0 1 2 wc (.int .i64 va.f0) (.int .i64 va.f1) (.int .i64 va.f2)).blk hZ2 m7
    have hX' := (KO.set3 Y 0 1 2 wc (.int .i64 va.f0) (.int .i64 va.f1) (.int .i64 va.f2)).blk hbX5 m1
    have hBy := hpa.2 wd hBw (Nat.le_of_eq hY)
    have hpa := hpa.1
    have hqa : Aside0 (∀ j, j < Y → (((wc.setCell ⟨Y, 0, none⟩ (.int .i64 va.f0)).setCell ⟨Y, 1, none⟩ (.int .i64 va.f1)).setCell ⟨Y, 2, none⟩ (.int .i64 va.f2)).drew.heap[j]? = wc.heap[j]?) := ⟨fun j hj => by
     rw [hdr.out]
     exact hKa.out (.int .i64 va.f0) (.int .i64 va.f1) (.int .i64 va.f2) j hj⟩
    replace hpa := (hdb _).blk hpa
    replace hZ2' := (hdb _).blk hZ2'
    replace hX' := (hdb _).blk hX'
    replace hBy := hBy.trans (hdb _)
    have hsz : wc.heap.size ≤ (((wc.setCell ⟨Y, 0, none⟩ (.int .i64 va.f0)).setCell ⟨Y, 1, none⟩ (.int .i64 va.f1)).setCell ⟨Y, 2, none⟩ (.int .i64 va.f2)).drew.heap.size := (KO.set3 Y 0 1 2 wc _ _ _).size
    generalize hwy : (((wc.setCell ⟨Y, 0, none⟩ (.int .i64 va.f0)).setCell ⟨Y, 1, none⟩ (.int .i64 va.f1)).setCell ⟨Y, 2, none⟩ (.int .i64 va.f2)).drew = wy at hpa hZ2' hX' hBy hqa hsz ⊢
    clear hwy hZ1 hZ2 hbX5 f0 f1 f2 f3 f4 f5 c0 c1 c2 c3 c4 c5
    refine hK.out _ _ ?_ (fun hHeld => ?_)
    rotate_left 1
    clear hK K
    try simp only [Act.put, z1, z2, z3, z4, z5, z6]
    rotate_left 1
    ·exact hSS.out wy hqa.out
    have f3 := blk_frozen hZ2' 0
    have f4 := blk_frozen hZ2' 1
    have f5 := blk_frozen hZ2' 2
    have c3 : wy.cell? ⟨Y + 1, 0, none⟩ = some (.int .i64 0) := blk_cell hZ2' 0
    have c4 : wy.cell? ⟨Y + 1, 1, none⟩ = some (.int .i64 0) := blk_cell hZ2' 1
    have c5 : wy.cell? ⟨Y + 1, 2, none⟩ = some (.int .i64 0) := blk_cell hZ2' 2
    refine wpAnyH_ready (rs := [17]) (by kernel_rfl) (by simp) ?_
    refine AllReadyH.cons rfl (fun K hK => ?_) AllReadyH.nil
    go_simp
    have hpb := put3 hZ2' (.int .i64 vb'.f0) (.int .i64 vb'.f1) (.int .i64 vb'.f2)
    have hZ1' := (KO.set3 (Y + 1) 0 1 2 wy (.int .i64 vb'.f0) (.int .i64 vb'.f1) (.int .i64 vb'.f2)).blk hpa n7
    have hX'' := (KO.set3 (Y + 1) 0 1 2 wy (.int .i64 vb'.f0) (.int .i64 vb'.f1) (.int .i64 vb'.f2)).blk hX' m4
    have hBz := hpb.2 wd hBy (by omega)
    have hpb := hpb.1
    have hqb : Aside0 (∀ j, j < Y → (((wy.setCell ⟨Y + 1, 0, none⟩ (.int .i64 vb'.f0)).setCell ⟨Y + 1, 1, none⟩ (.int .i64 vb'.f1)).setCell ⟨Y + 1, 2, none⟩ (.int .i64 vb'.f2)).heap[j]? = wc.heap[j]?) := ⟨fun j hj => by
     exact (hKb.out wy hsz (.int .i64 vb'.f0) (.int .i64 vb'.f1) (.int .i64 vb'.f2) j hj).trans (hqa.out j hj)⟩
    generalize hwz : (((wy.setCell ⟨Y + 1, 0, none⟩ (.int .i64 vb'.f0)).setCell ⟨Y + 1, 1, none⟩ (.int .i64 vb'.f1)).setCell ⟨Y + 1, 2, none⟩ (.int .i64 vb'.f2)) = wz at hpb hZ1' hX'' hBz hqb ⊢
    clear hwz f3 f4 f5 c3 c4 c5 hpa hX' hZ2'
    have hCz := hC3.step hBz
    refine hK.out _ _ ?_ (fun hHeld => ?_)
    rotate_left 1
    clear hK K
    try simp only [Act.put, z1, z2, z3, z4, z5, z6]
    rotate_left 1
    ·exact hSS.out wz hqb.out
    refine wpAnyH_done (by kernel_rfl) ?_ _
    go_wp2
    go_meet
    case rel => exact ⟨hCz, hX'', hZ1', hpb⟩
  case rest =>
   obtain ⟨hC6, hX6, hY6, hV6⟩ := hcut
   have x0 : wc.cell? ⟨X, 0, none⟩ = some (.int .i64 x.f0) := blk_cell hX6 0
   have x1 : wc.cell? ⟨X, 1, none⟩ = some (.int .i64 x.f1) := blk_cell hX6 1
   have x2 : wc.cell? ⟨X, 2, none⟩ = some (.int .i64 x.f2) := blk_cell hX6 2
   have x3 : wc.cell? ⟨X, 3, none⟩ = some (.int .i64 x.f3) := blk_cell hX6 3
   have x4 : wc.cell? ⟨X, 4, none⟩ = some (.int .i64 x.f4) := blk_cell hX6 4
   have x5 : wc.cell? ⟨X, 5, none⟩ = some (.int .i64 x.f5) := blk_cell hX6 5
   have x6 : wc.cell? ⟨X, 6, none⟩ = some (.slice A6 x.f6.length c6) := blk_cell hX6 6
   have a0 : wc.cell? ⟨Y, 0, none⟩ = some (.int .i64 va.f0) := blk_cell hY6 0
   have a1 : wc.cell? ⟨Y, 1, none⟩ = some (.int .i64 va.f1) := blk_cell hY6 1
   have a2 : wc.cell? ⟨Y, 2, none⟩ = some (.int .i64 va.f2) := blk_cell hY6 2
   have b0 : wc.cell? ⟨Y + 1, 0, none⟩ = some (.int .i64 vb'.f0) := blk_cell hV6 0
   have b1 : wc.cell? ⟨Y + 1, 1, none⟩ = some (.int .i64 vb'.f1) := blk_cell hV6 1
   have b2 : wc.cell? ⟨Y + 1, 2, none⟩ = some (.int .i64 vb'.f2) := blk_cell hV6 2
   obtain ⟨o, ho⟩ : ∃ o, reckonL x va vb' = o := ⟨_, rfl⟩
   have hrk := Aside0.mk (fun W => reckon_any x A6 c6 va vb' W)
   rw [ho] at hrk
   replace ho := Aside0.mk ho
   obtain ⟨ov, hov⟩ : ∃ ov, o.getD zVal = ov := ⟨_, rfl⟩
   obtain ⟨ob, hob⟩ : ∃ ob, o.isSome = ob := ⟨_, rfl⟩
   unfold ReckonIs at hrk
   rw [hov, hob] at hrk
   replace hov := Aside0.mk hov
   replace hob := Aside0.mk hob
   go_upto_region 8 with (go_at_call 60; (refine (hrk.out _).mono ?_); rintro e w2 ⟨rfl, hB2⟩)
   obtain ⟨Z, hZ⟩ : ∃ Z, w2.heap.size = Z := ⟨_, rfl⟩
   have hB7 := hB2.alloc (.cells #[.int .i64 ov.f0, .int .i64 ov.f1, .int .i64 ov.f2] 89)
   have hZ7 : (w2.alloc (.cells #[.int .i64 ov.f0, .int .i64 ov.f1, .int .i64 ov.f2] 89)).heap[Z]? = some (.cells #[.int .i64 ov.f0, .int .i64 ov.f1, .int .i64 ov.f2] 89 (0, 0)) := heap_new' hZ.symm
   rw [hZ]
   have hC7 := hC6.step hB7
   have hX7 := hB7.blk hX6
   have hY7 := hB7.blk hY6
   have hV7 := hB7.blk hV6
   clear x0 x1 x2 x3 x4 x5 x6 a0 a1 a2 b0 b1 b2 hrk hB2
   generalize w2.alloc (.cells #[.int .i64 ov.f0, .int .i64 ov.f1, .int .i64 ov.f2] 89) = wf at hB7 hZ7 hC7 hX7 hY7 hV7 ⊢
   replace hZ := Aside0.mk hZ
   have hab : (0 ≤ va.f1 ∧ va.f1 ≤ s.heap.length) ∧ (0 ≤ vb'.f1 ∧ vb'.f1 ≤ s.heap.length) := by
    rw [← hva, ← hvb']
    exact ⟨hT.out.val _, hT.out.val _⟩
   have hva0 := Aside0.mk hva
   have hvb0 := Aside0.mk hvb'
   have hrok := Aside0.mk (fun v (q : reckonL x va vb' = some v) => reckon_ok hp.out hT.out (v := v) (by rw [hx.out, hva0.out, hvb0.out]; exact q))
   clear hva hvb' ra rb hbb
   cases ob with
   | true =>
    obtain ⟨v, hv1⟩ : ∃ v, o = some v := Option.isSome_iff_exists.1 hob.out
    have hv2 : v = ov := by have := hov.out; rw [hv1] at this; exact this
    have hrv := ho.out
    rw [hv1, hv2] at hrv
    have hset := hrok.out ov hrv
    rw [hx.out] at hset
    obtain ⟨d0, d1⟩ := hi.out.d hset.1
    rw [← hvl.out] at d1
    obtain ⟨kd, hkd⟩ : ∃ k : Nat, x.f1 = (k : Int) := ⟨x.f1.toNat, by omega⟩
    have hsl := Aside0.mk (stepL_some (p := p) (r := r) hst.out (v := ov) (by rw [hx.out, hva0.out, hvb0.out]; exact hrv))
    rw [hx.out, hkd] at hsl
    have x1 : wf.cell? ⟨X, 1, none⟩ = some (.int .i64 x.f1) := blk_cell hX7 1
    rw [hkd] at x1 d1
    have kdn : kd < f.vars.length := by omega
    have z0 : wf.cell? ⟨Z, 0, none⟩ = some (.int .i64 ov.f0) := blk_cell hZ7 0
    have z1 : wf.cell? ⟨Z, 1, none⟩ = some (.int .i64 ov.f1) := blk_cell hZ7 1
    have z2 : wf.cell? ⟨Z, 2, none⟩ = some (.int .i64 ov.f2) := blk_cell hZ7 2
    clear hrv hv1 hv2 hset d0 hkd
    go_upto_region 9 with (fail)
    obtain ⟨_, _, _, q0, hf⟩ := hC7.top rfl
    injection q0 with q0 q1
    cases q0
    clear q1
    obtain ⟨k0, k1, k2, k3, A4, c4, hfr7, _⟩ := hf.frame
    have hv7 : ValsAt wf vb f.vars := hf.vars
    clear hf
    have u5 : wf.cell? ⟨fb, 5, none⟩ = some (.slice (some ⟨vb, 0, none⟩) f.vars.length f.vars.length) := blk_cell hfr7 5
    go_still_tail 8, (by kernel_rfl)
    have hBd : Bel wf wf.drew := (Bel.refl wf).drewN 1
    have hC8 := hC7.step hBd
    have hv8 : ValsAt wf.drew vb f.vars := hBd.blk hv7
    change wpList _ _ _ _ _ wf.drew
    clear hB7 hZ7 hX7 hY7 hV7 hfr7 hv7 hC7 u5 x1 z0 z1 z2
    generalize wf.drew = wg at hC8 hv8 hBd ⊢
    clear hBd
    obtain ⟨y0, y1, y2⟩ := hv8.at_ kd kdn
    have p0 := blk_frozen hv8 (kd * 3)
    have p1 := blk_frozen hv8 (kd * 3 + 1)
    have p2 := blk_frozen hv8 (kd * 3 + 2)
    go_wp2
    exact bodyPost_ret (v := .tuple #[]) (by simp [results, Try.results42, go_sem]) rfl (by
     rw [hsl.out]
     exact ⟨rfl, _, _, _, _, _, (hC8.setV rfl (by simp) (KO.set3 vb _ _ _ wg _ _ _) (hv8.put kd kdn ov))⟩)
   | false =>
    have hn : reckonL x va vb' = none := by
     rw [ho.out]
     cases o with
     | none => rfl
     | some v => exact absurd hob.out (by simp)
    replace hn := Aside0.mk hn
    have hheap := Aside0.mk hr.out.heap
    have hsl : s.heap.length ≤ 100000 ∧ s.evs.length ≤ 100000 := by
     have h1 := hr.out.objs
     have h2 := hr.out.told
     exact ⟨by omega, by omega⟩
    have hal := Aside0.mk hi.out.alloc
    obtain ⟨t, ht⟩ : ∃ t, touchL x va vb' s.heap = t := ⟨_, rfl⟩
    have htc := Aside0.mk (fun W (q : Bel wf W) => touch_any w0 p mb W _ _ _ _ _ S (hC7.step q) hheap hsl.1 x A6 c6 va vb' hab.1 hab.2 hal.out)
    rw [show touchL x va vb' ({ s with stack := { f with pos := f.pos + 1 } :: r, steps := s.steps + 1 } : VSt).heap = t from ht] at htc
    obtain ⟨PA7, pc7, hm7, _⟩ := hC7.blk
    have hXm : X ≠ mb := two_types hX7 hm7 (by decide)
    have hYm : Y ≠ mb := two_types hY7 hm7 (by decide)
    clear hm7
    go_upto_region 10 with (fail)
    have x0 : wf.cell? ⟨X, 0, none⟩ = some (.int .i64 x.f0) := blk_cell hX7 0
    have x1 : wf.cell? ⟨X, 1, none⟩ = some (.int .i64 x.f1) := blk_cell hX7 1
    have x2 : wf.cell? ⟨X, 2, none⟩ = some (.int .i64 x.f2) := blk_cell hX7 2
    have x3 : wf.cell? ⟨X, 3, none⟩ = some (.int .i64 x.f3) := blk_cell hX7 3
    have x4 : wf.cell? ⟨X, 4, none⟩ = some (.int .i64 x.f4) := blk_cell hX7 4
    have x5 : wf.cell? ⟨X, 5, none⟩ = some (.int .i64 x.f5) := blk_cell hX7 5
    have x6 : wf.cell? ⟨X, 6, none⟩ = some (.slice A6 x.f6.length c6) := blk_cell hX7 6
    have a0 : wf.cell? ⟨Y, 0, none⟩ = some (.int .i64 va.f0) := blk_cell hY7 0
    have a1 : wf.cell? ⟨Y, 1, none⟩ = some (.int .i64 va.f1) := blk_cell hY7 1
    have a2 : wf.cell? ⟨Y, 2, none⟩ = some (.int .i64 va.f2) := blk_cell hY7 2
    have b0 : wf.cell? ⟨Y + 1, 0, none⟩ = some (.int .i64 vb'.f0) := blk_cell hV7 0
    have b1 : wf.cell? ⟨Y + 1, 1, none⟩ = some (.int .i64 vb'.f1) := blk_cell hV7 1
    have b2 : wf.cell? ⟨Y + 1, 2, none⟩ = some (.int .i64 vb'.f2) := blk_cell hV7 2
    cases t with
    | none =>
     have hsl2 := Aside0.mk (stepL_lead (p := p) (r := r) hst.out (by rw [hx.out, hva0.out, hvb0.out]; exact hn.out) (by rw [hx.out, hva0.out, hvb0.out]; exact ht))
     rw [hx.out] at hsl2
     have hop : x.f0 = 19 ∨ x.f0 = 20 ∨ x.f0 = 21 ∨ x.f0 = 22 ∨ x.f0 = 23 := lead_ops hi.out.op hn.out ht
     clear ht
     replace hop := Aside0.mk hop
     go_upto_region 11 with (fail)
     refine (htc.out _ (Bel.refl _)).mono ?_
     rintro e w3 hT3
     cases hT3 with
     | none hC8 hK8 =>
      rename_i v8 hv8
      clear x0 x1 x2 x3 x4 x5 x6 a0 a1 a2 b0 b1 b2
      have hX8 := hK8.blk hX7 hXm
      go_upto_region 12 with (fail)
      have hB8 := (Bel.refl w3).alloc (.cells #[.int .i64 v8.f0, .int .i64 v8.f1, .int .i64 v8.f2] 89)
      have hC9 := hC8.step hB8
      have hX9 := hB8.blk hX8
      generalize w3.alloc (.cells #[.int .i64 v8.f0, .int .i64 v8.f1, .int .i64 v8.f2] 89) = wh at hC9 hX9 ⊢
      have x0 : wh.cell? ⟨X, 0, none⟩ = some (.int .i64 x.f0) := blk_cell hX9 0
      have x1 : wh.cell? ⟨X, 1, none⟩ = some (.int .i64 x.f1) := blk_cell hX9 1
      have x2 : wh.cell? ⟨X, 2, none⟩ = some (.int .i64 x.f2) := blk_cell hX9 2
      have x3 : wh.cell? ⟨X, 3, none⟩ = some (.int .i64 x.f3) := blk_cell hX9 3
      have x4 : wh.cell? ⟨X, 4, none⟩ = some (.int .i64 x.f4) := blk_cell hX9 4
      have x5 : wh.cell? ⟨X, 5, none⟩ = some (.int .i64 x.f5) := blk_cell hX9 5
      have x6 : wh.cell? ⟨X, 6, none⟩ = some (.slice A6 x.f6.length c6) := blk_cell hX9 6
      have hw := Aside0.mk (fun g (hg : g ∈ r) => wait_ok hp.out (hG.out.rest g hg).1 (hG.out.rest g hg).2)
      have hld := Aside0.mk (lead_any w0 p mb wh _ _ r fb vb _ _ _ _ S hC9 rfl hfew.out hw hsl.2 x A6 c6 (hR6.step hC9.bel) hp.out hi.out hvl.out hop.out)
      rw [leadL_stack { s with steps := s.steps + 1 }, ← hsl2.out] at hld
      go_wp2_with (go_at_call 62; (refine hld.out.mono ?_); rintro e w4 ⟨rfl, hz⟩)
      go_end0
      exact ⟨rfl, hz⟩
    | some t3 =>
     obtain ⟨l, v, er⟩ := t3
     have hsl2 := Aside0.mk (stepL_touch (p := p) (r := r) hst.out (by rw [hx.out, hva0.out, hvb0.out]; exact hn.out) (by rw [hx.out, hva0.out, hvb0.out]; exact ht))
     have htk := Aside0.mk (touch_ok (e := er) hp.out hheap.out hT.out (by rw [hx.out, hva0.out, hvb0.out]; exact ht))
     rw [hx.out] at hsl2 htk
     clear ht
     go_upto_region 11 with (fail)
     refine (htc.out _ (Bel.refl _)).mono ?_
     rintro e w3 hT3
     cases hT3 with
     | some hC8 hK8 =>
      rename_i hv8
      clear x0 x1 x2 x3 x4 x5 x6 a0 a1 a2 b0 b1 b2
      have hX8 := hK8.blk hX7 hXm
      go_upto_region 13 with (fail)
      obtain ⟨Z8, hZ8⟩ : ∃ Z8, w3.heap.size = Z8 := ⟨_, rfl⟩
      have hB8 := (Bel.refl w3).alloc (.cells #[.int .i64 v.f0, .int .i64 v.f1, .int .i64 v.f2] 89)
      have hZ9 : (w3.alloc (.cells #[.int .i64 v.f0, .int .i64 v.f1, .int .i64 v.f2] 89)).heap[Z8]? = some (.cells #[.int .i64 v.f0, .int .i64 v.f1, .int .i64 v.f2] 89 (0, 0)) := heap_new' hZ8.symm
      rw [hZ8]
      have hC9 := hC8.step hB8
      have hX9 := hB8.blk hX8
      clear hC8 hX8 hC7 hX7 hY7 hV7 hZ7
      generalize w3.alloc (.cells #[.int .i64 v.f0, .int .i64 v.f1, .int .i64 v.f2] 89) = wf at hB8 hC9 hX9 hZ9 ⊢
      replace hZ8 := Aside0.mk hZ8
      by_cases he : er = 0
      ·subst he
       have hse := Aside0.mk (fun W => sets_any x.f0 W)
       have htn := Aside0.mk (fun a W => trap_no 0 rfl a W)
       have x0 : wf.cell? ⟨X, 0, none⟩ = some (.int .i64 x.f0) := blk_cell hX9 0
       obtain ⟨bs, hbs⟩ : ∃ bs, setsL x.f0 = bs := ⟨_, rfl⟩
       rw [hbs] at hse htk hsl2
       replace hbs := Aside0.mk hbs
       cases bs with
       | false =>
        go_wp2_with (first | (go_at_call 63; (refine (htn.out _ _).mono ?_); rintro e w4 ⟨rfl, rfl⟩) | (go_at_call 64; (refine (hse.out _).mono ?_); rintro e w4 ⟨rfl, rfl⟩))
        go_end0
        rw [hsl2.out, if_neg (by decide), if_neg (by decide)]
        exact ⟨rfl, _, _, _, _, _, hC9⟩
       | true =>
        obtain ⟨d0, d1⟩ := hi.out.d (htk.out.2.2.2.2.2.2.1 rfl).1
        rw [← hvl.out] at d1
        obtain ⟨kd, hkd⟩ : ∃ k : Nat, x.f1 = (k : Int) := ⟨x.f1.toNat, by omega⟩
        have x1 : wf.cell? ⟨X, 1, none⟩ = some (.int .i64 x.f1) := blk_cell hX9 1
        rw [hkd] at x1 d1 hsl2
        have kdn : kd < f.vars.length := by omega
        have z0 : wf.cell? ⟨Z8, 0, none⟩ = some (.int .i64 v.f0) := blk_cell hZ9 0
        have z1 : wf.cell? ⟨Z8, 1, none⟩ = some (.int .i64 v.f1) := blk_cell hZ9 1
        have z2 : wf.cell? ⟨Z8, 2, none⟩ = some (.int .i64 v.f2) := blk_cell hZ9 2
        clear d0 hkd
        go_upto_region 14 with (first | (go_at_call 63; (refine (htn.out _ _).mono ?_); rintro e w4 ⟨rfl, hq4⟩; obtain rfl := hq4.symm) | (go_at_call 64; (refine (hse.out _).mono ?_); rintro e w4 ⟨rfl, hq4⟩; obtain rfl := hq4.symm))
        have hC7 := hC9
        have hB7 := hB8
        have hX7 := hX9
        have hY7 := hX9
        have hV7 := hX9
        have hZ7 := hZ9
        clear hC9 hB8 hX9 hZ9 x0
        obtain ⟨_, _, _, q0, hf⟩ := hC7.top rfl
        injection q0 with q0 q1
        cases q0
        clear q1
        obtain ⟨k0, k1, k2, k3, A4, c4, hfr7, _⟩ := hf.frame
        have hv7 : ValsAt wf vb f.vars := hf.vars
        clear hf
        have u5 : wf.cell? ⟨fb, 5, none⟩ = some (.slice (some ⟨vb, 0, none⟩) f.vars.length f.vars.length) := blk_cell hfr7 5
        go_still_tail 8, (by kernel_rfl)
        have hBd : Bel wf wf.drew := (Bel.refl wf).drewN 1
        have hC8 := hC7.step hBd
        have hv8 : ValsAt wf.drew vb f.vars := hBd.blk hv7
        change wpList _ _ _ _ _ wf.drew
        clear hB7 hZ7 hX7 hY7 hV7 hfr7 hv7 hC7 u5 x1 z0 z1 z2
        generalize wf.drew = wg at hC8 hv8 hBd ⊢
        clear hBd
        obtain ⟨y0, y1, y2⟩ := hv8.at_ kd kdn
        have p0 := blk_frozen hv8 (kd * 3)
        have p1 := blk_frozen hv8 (kd * 3 + 1)
        have p2 := blk_frozen hv8 (kd * 3 + 2)
        go_wp2
        go_end0
        rw [hsl2.out, if_neg (by decide), if_pos trivial]
        exact ⟨rfl, _, _, _, _, _, (hC8.setV rfl (by simp) (KO.set3 vb _ _ _ wg _ _ _) (hv8.put kd kdn v))⟩
      ·have htn := Aside0.mk (trap_yes w0 p mb wf _ _ _ _ _ S hC9 er he)
       rw [if_pos he] at hsl2
       replace he := Aside0.mk he
       go_wp2_with (go_at_call 63; (refine htn.out.mono ?_); rintro e w4 ⟨rfl, hz⟩)
       go_end0
       rw [hsl2.out]
       exact ⟨rfl, _, _, _, _, _, hz⟩
end Go.Proofs.Ytodjpbidjldblaa.H
namespace Go.Proofs.Ytodjpbidjldblaa.H
open Go.RowKit Go.Proofs.YtodjpbidjldblaaW.PrintWords
set_option linter.unusedVariables false
set_option linter.unusedSimpArgs false
theorem RunP.going {p : SProg} {s : VSt} {f : VFr} {r : List VFr} (hst : s.stack = f :: r) (h0 : s.fin = 0) (hc : s.code = 0) (hv : s.val = 0) (hh : HeapP s.heap) (ho : s.heap.length ≤ s.steps) (he : s.evs.length ≤ s.steps)
  (ht : FrP p s.heap.length f) (hr : ∀ g ∈ r, FrP p s.heap.length g ∧ WaitP p g) (hn : r.length < 60) : RunP p s :=
 ⟨hh, ho, he, fun _ => ⟨f, r, hst, ht, hr, hn⟩, .inl h0, by rw [h0, hc]; decide, .inr hv⟩
theorem RunP.ended {p : SProg} {s : VSt} (hf : (s.fin = 1 ∧ s.code = 0) ∨ (s.fin = 2 ∧ s.code ≠ 0 ∧ s.val = 0)) (hh : HeapP s.heap) (ho : s.heap.length ≤ s.steps) (he : s.evs.length ≤ s.steps) : RunP p s := by
 rcases hf with ⟨h1, h2⟩ | ⟨h1, h2, h3⟩
 ·exact ⟨hh, ho, he, fun h => absurd (h1.symm.trans h) (by decide), .inr (.inl h1), by rw [h1, h2]; decide, .inl h1⟩
 ·exact ⟨hh, ho, he, fun h => absurd (h1.symm.trans h) (by decide), .inr (.inr h1), by rw [h1]; exact ⟨fun _ => h2, fun _ => rfl⟩, .inr h3⟩
theorem RunP.plain {p : SProg} {s : VSt} (h : RunP p s) (h0 : s.fin = 0) : s.code = 0 ∧ s.val = 0 := by
 refine ⟨?_, ?_⟩
 ·by_cases hc : s.code = 0
  ·exact hc
  ·have := h.trap.2 hc
   omega
 ·rcases h.halt with h1 | h1
  ·omega
  ·exact h1
theorem step_ok {p : SProg} {s : VSt} (hp : ProgP p) (h : RunP p s) (h0 : s.fin = 0) : RunP p (stepL p s) ∧ (stepL p s).steps = s.steps + 1 := by
 obtain ⟨f, r, hst, ht, hr, hn⟩ := h.go h0
 obtain ⟨hc, hv⟩ := h.plain h0
 have hh := h.heap
 have ho := h.objs
 have he := h.told
 obtain ⟨hi, hft⟩ := ht.ins hp
 unfold stepL
 rw [hst]
 dsimp only
 cases hk : reckonL (insAt p f) (varAt f.vars (insAt p f).f2) (varAt f.vars (insAt p f).f3) with
 | some v =>
  obtain ⟨hd, hl, hw, hz⟩ := reckon_ok hp ht hk
  refine ⟨RunP.going (f := { f with pos := f.pos + 1, vars := f.vars.set (insAt p f).f1.toNat v }) (r := r) rfl h0 hc hv hh (Nat.le_succ_of_le ho) (Nat.le_succ_of_le he) ?_ hr hn, rfl⟩
  exact (ht.next hp hl).set _ v hw hz
 | none =>
  dsimp only
  cases hto : touchL (insAt p f) (varAt f.vars (insAt p f).f2) (varAt f.vars (insAt p f).f3) s.heap with
  | some q =>
   obtain ⟨h1, v, e⟩ := q
   obtain ⟨hl, hh1, hle, hl1, hl2, hw, hset, herr⟩ := touch_ok hp hh ht hto
   dsimp only
   by_cases e0 : e = 0
   ·rw [if_neg (by simpa using e0)]
    have hr1 : ∀ g ∈ r, FrP p h1.length g ∧ WaitP p g := fun g hg => ⟨(hr g hg).1.more hle, (hr g hg).2⟩
    by_cases hs : setsL (insAt p f).f0 = true
    ·rw [if_pos hs]
     obtain ⟨hd, hz⟩ := hset hs
     refine ⟨RunP.going (f := { f with pos := f.pos + 1, vars := f.vars.set (insAt p f).f1.toNat v }) (r := r) rfl h0 hc hv hh1 (show h1.length ≤ s.steps + 1 by omega) (Nat.le_succ_of_le he) ?_ hr1 hn, rfl⟩
     exact ((ht.more hle).next hp hl).set _ v hw hz
    ·rw [if_neg hs]
     exact ⟨RunP.going (f := { f with pos := f.pos + 1 }) (r := r) rfl h0 hc hv hh1 (show h1.length ≤ s.steps + 1 by omega) (Nat.le_succ_of_le he) ((ht.more hle).next hp hl) hr1 hn, rfl⟩
   ·rw [if_pos e0]
    exact ⟨RunP.ended (.inr ⟨rfl, e0, hv⟩) hh1 (show h1.length ≤ s.steps + 1 by omega) (Nat.le_succ_of_le he), rfl⟩
  | none =>
   dsimp only
   unfold leadL
   dsimp only
   split
   ·rename_i ec
    have hcall := hi.call ec
    split
    ·exact ⟨RunP.ended (.inr ⟨rfl, (show (18 : Int) ≠ 0 by decide), hv⟩) hh (Nat.le_succ_of_le ho) (Nat.le_succ_of_le he), rfl⟩
    ·rename_i hdeep
     have hn2 : (insAt p f).f4.toNat < p.f0.length := by omega
     refine ⟨RunP.going (f := beginL p (insAt p f).f4.toNat ((insAt p f).f6.map (varAt f.vars))) (r := { f with pos := f.pos + 1, want := (insAt p f).f1.toNat } :: r) rfl h0 hc hv hh (Nat.le_succ_of_le ho) (Nat.le_succ_of_le he) ?_ ?_ (by simp; omega), rfl⟩
     ·exact begin_ok hp _ hn2 _ (by rw [List.length_map]; exact hcall.2) (fun v hv => by
       obtain ⟨i, hi, rfl⟩ := List.mem_map.1 hv
       exact ht.val i)
     ·intro g hg
      rcases List.mem_cons.1 hg with rfl | hg
      ·have hx := ht.next hp (by rw [ec]; decide)
       exact ⟨⟨hx.fn, hx.vars, hx.blk, hx.pos, hx.vals, hx.ders⟩, ⟨Nat.le_add_left _ _, ec, rfl⟩⟩
      ·exact hr g hg
   split
   ·rename_i ec
    exact ⟨RunP.going (f := { f with pos := f.pos + 1 }) (r := r) rfl h0 hc hv hh (Nat.le_succ_of_le ho) (by simp; omega) (ht.next hp (by rw [ec]; decide)) hr hn, rfl⟩
   split
   ·rename_i ec
    have hj := hi.jump ec
    exact ⟨RunP.going (f := { f with blk := (insAt p f).f4.toNat, pos := 0 }) (r := r) rfl h0 hc hv hh (Nat.le_succ_of_le ho) (Nat.le_succ_of_le he) (ht.jump hp _ (by omega)) hr hn, rfl⟩
   split
   ·rename_i ec
    have hj := hi.branch ec
    refine ⟨RunP.going (f := { f with blk := if (varAt f.vars (insAt p f).f2).f0 = 0 then (insAt p f).f5.toNat else (insAt p f).f4.toNat, pos := 0 }) (r := r) rfl h0 hc hv hh (Nat.le_succ_of_le ho) (Nat.le_succ_of_le he) (ht.jump hp _ ?_) hr hn, rfl⟩
    split <;> omega
   split
   ·rename_i ec
    cases r with
    | nil => exact ⟨RunP.ended (.inl ⟨rfl, hc⟩) hh (Nat.le_succ_of_le ho) (Nat.le_succ_of_le he), rfl⟩
    | cons g r =>
     obtain ⟨hg, hwt⟩ := hr g (List.mem_cons_self ..)
     have hpos := hg.pos
     obtain ⟨gi, gf⟩ := hp.ins g.fn hg.fn g.blk hg.blk (g.pos - 1) (by have := hwt.pos; omega)
     have hwant := hwt.want
     refine ⟨RunP.going (f := { g with vars := g.vars.set g.want (varAt f.vars (insAt p f).f2) }) (r := r) rfl h0 hc hv hh (Nat.le_succ_of_le ho) (Nat.le_succ_of_le he) ?_ (fun u hu => hr u (List.mem_cons_of_mem _ hu)) (by simp at hn; omega), rfl⟩
     have hset := hg.set ((codeAt p g.fn g.blk).getD (g.pos - 1) zIns).f1 (varAt f.vars (insAt p f).f2) (ht.val _) (fun hk => by
      rcases gf.der (by rw [hwt.op]; decide) hk with q1 | q1
      ·rw [hwt.op] at q1; exact absurd q1 (by decide)
      ·rw [hwt.op] at q1; exact absurd q1 (by decide))
     rw [hwant] at hset
     exact hset
   ·rename_i n19 n20 n21 n22 n23
    exfalso
    rcases op_cases hi.op with e | e | e | e | e | e | e | e | e | e | e | e | e | e | e | e | e | e | e | e | e | e | e
    all_goals first | (simp [reckonL, e] at hk; done) | (simp [touchL, e] at hto; done) | omega
theorem start_ok {p : SProg} (hp : ProgP p) : RunP p (startL p) :=
 RunP.going (f := beginL p 0 []) (r := []) rfl rfl rfl rfl (fun o ho => by cases ho) (Nat.le_refl _) (Nat.le_refl _) (begin_ok hp 0 hp.funcs.1 [] (by rw [hp.main]; rfl) (fun v hv => by cases hv)) (fun g hg => by cases hg) (by decide)
theorem runL_stuck {p : SProg} {s : VSt} (h : s.fin ≠ 0) (n : Nat) : runL p n s = s := by
 cases n with
 | zero => rfl
 | succ n => unfold runL; rw [if_neg h]
theorem runL_add {p : SProg} (m n : Nat) : ∀ s : VSt, runL p (m + n) s = runL p n (runL p m s) := by
 induction m with
 | zero => intro s; rw [Nat.zero_add]; rfl
 | succ m ih =>
  intro s
  rw [show m + 1 + n = (m + n) + 1 by omega]
  by_cases h : s.fin = 0
  ·rw [show runL p (m + n + 1) s = runL p (m + n) (stepL p s) by simp [runL, h], show runL p (m + 1) s = runL p m (stepL p s) by simp [runL, h]]
   exact ih _
  ·rw [runL_stuck h, runL_stuck h, runL_stuck h]
theorem runL_succ {p : SProg} (n : Nat) (s : VSt) : runL p (n + 1) s = if (runL p n s).fin = 0 then stepL p (runL p n s) else runL p n s := by
 rw [runL_add]
 simp [runL]
theorem run_ok {p : SProg} (hp : ProgP p) {s : VSt} (h : RunP p s) (n : Nat) : RunP p (runL p n s) ∧ ((runL p n s).fin = 0 → (runL p n s).steps = s.steps + n) ∧ (runL p n s).steps ≤ s.steps + n := by
 induction n with
 | zero => exact ⟨h, fun _ => rfl, Nat.le_refl _⟩
 | succ n ih =>
  obtain ⟨h1, h2, h3⟩ := ih
  rw [runL_succ]
  by_cases h0 : (runL p n s).fin = 0
  ·rw [if_pos h0]
   obtain ⟨k1, k2⟩ := step_ok hp h1 h0
   have := h2 h0
   exact ⟨k1, fun _ => by omega, by omega⟩
  ·rw [if_neg h0]
   exact ⟨h1, fun h => absurd h h0, by omega⟩
theorem run_start {p : SProg} (hp : ProgP p) (n : Nat) : RunP p (runL p n (startL p)) ∧ ((runL p n (startL p)).fin = 0 → (runL p n (startL p)).steps = n) ∧ (runL p n (startL p)).steps ≤ n := by
 have h := run_ok hp (start_ok hp) n
 have e : (startL p).steps + n = n := Nat.zero_add n
 rw [e] at h
 exact h
end Go.Proofs.Ytodjpbidjldblaa.H
namespace Go.Proofs.Ytodjpbidjldblaa.H
open Go.RowKit Go.Proofs.YtodjpbidjldblaaW.PrintWords Go.Proofs.YtodjpbidjldblaaW.PrintLast
open Go.Proofs.YtodjpbidjldblaaW.PrintMore
attribute [local go_sem] min2_int min_two
set_option linter.unusedVariables false
set_option linter.unusedSimpArgs false
set_option maxRecDepth 100000
def fuelN (n : Int) : Nat := (mn n 4000).toNat
def PlayIs (p : SProg) (w : World) (n : Int) (e : Ending) (W' : World) : Prop := ∃ mb fs sv ev hv S, e = .returned (.pointer (some ⟨mb, 0, none⟩)) ∧ CM w p mb W' (runL p (fuelN n) (startL p)) fs sv ev hv S
def stepsOf (mb : Nat) (W : World) : Int := match W.cell? ⟨mb, 7, none⟩ with | some (.int _ i) => i | _ => 0
def LoopIs (p : SProg) (w : World) (mb : Nat) (n : Int) (W : World) : Prop := ∃ k fs sv ev hv S, k ≤ fuelN n ∧ CM w p mb W (runL p k (startL p)) fs sv ev hv S ∧ (runL p k (startL p)).steps = k
set_option maxHeartbeats 4000000 in
theorem play_any (p : SProg) (w : World) (PA : Option Addr) (pc : Nat) (hP : Rd kFunc w PA p.f0) (hp : Aside0 (ProgP p)) (n : Int) :
  Calls Try.prog 24 #[.agg #[.slice PA p.f0.length pc], .int .i64 n] w (PlayIs p w n) := by
 obtain ⟨g, hg⟩ : ∃ g, w.heap.size = g := ⟨_, rfl⟩
 obtain ⟨wa, hwa⟩ : ∃ wa, wa = (w.alloc (.cells #[.slice PA p.f0.length pc] 24)).alloc (.cells #[.slice PA p.f0.length pc, .slice none 0 0, .slice none 0 0, .slice none 0 0, .int .i64 0, .int .i64 0, .int .i64 0, .int .i64 0] 67) := ⟨_, rfl⟩
 have hB : Bel w wa := by rw [hwa]; exact ((Bel.refl w).alloc _).alloc _
 have hm : wa.heap[g + 1]? = some (.cells #[.slice PA p.f0.length pc, .slice none 0 0, .slice none 0 0, .slice none 0 0, .int .i64 0, .int .i64 0, .int .i64 0, .int .i64 0] 67 (0, 0)) := by rw [hwa]; exact heap_new' (by simp [hg])
 have hC0 : CM w p (g + 1) wa ⟨[], [], [], 0, 0, 0, 0⟩ [] (.slice none 0 0) (.slice none 0 0) (.slice none 0 0) (fun k => k ≤ g + 1) := by
  refine ⟨hB, ⟨PA, pc, hm, hP⟩, OwnAt.nil _ _ _ _, OwnAt.nil _ _ _ _, ?_, .nil, List.nodup_nil, List.nodup_nil, ⟨by omega, (fun b hb => by cases hb)⟩, ?_, Nat.le_refl _, (fun k hk => by cases hk), (fun k hk => by cases hk), (fun b hb => by cases hb), (fun k hk => by show k ≤ g + 1; omega)⟩
  ·exact ⟨none, 0, rfl, Nat.le_refl _, fun W' _ => Kd.C_nil _ _⟩
  ·intro k hk
   exact Nat.lt_of_le_of_lt hk (blk_lt hm)
 have hfs := hp.out.funcs
 have hent : Aside0 (Calls Try.prog 41 #[.pointer (some ⟨g + 1, 0, none⟩), .int .i64 0, .slice none 0 0] wa fun e W' => e = .returned (.tuple #[]) ∧ ∃ fs1 sv1 S1, CM w p (g + 1) W' (startL p) fs1 sv1 (.slice none 0 0) (.slice none 0 0) S1) := ⟨enter_any w p (g + 1) wa _ _ _ _ _ _ hC0 0 (by omega) (by omega) [] none 0 ⟨Kd.C_nil kVal wa⟩ (Nat.zero_le _) (hp.out.func 0 (by omega)).vars (by decide)⟩
 clear hC0 hm
 go_enter Try.func24, Try.ntmps24
 go_upto_region 2 with (fail)
 rw [← hwa]
 by_cases hn4 : 4000 < n
 ·have hf : fuelN n = (4000 : Int).toNat := by unfold fuelN mn; rw [if_pos hn4]
  replace hf := Aside0.mk hf
  replace hwa := Aside0.mk hwa
  replace hg := Aside0.mk hg
  go_wp2_with (go_at_call 41; ((with_reducible refine hent.out.mono ?_); rintro e w2 ⟨rfl, fs, sv, S, hC⟩))
  go_loopw [] (fun W => LoopIs p w (g + 1) n W) (fun W => ((4000 : Int) - stepsOf (g + 1) W).toNat)
  case atStart => exact ⟨0, fs, sv, _, _, S, Nat.zero_le _, hC, rfl⟩
  case round =>
   clear hent hC
   obtain ⟨k, fs, sv, ev, hv, S, hk, hC, hs⟩ := hrel
   have hro := run_start hp.out k
   obtain ⟨PA2, pc2, hb, _⟩ := hC.blk
   obtain ⟨s, hsd⟩ : ∃ s, runL p k (startL p) = s := ⟨_, rfl⟩
   rw [hsd] at hC hs hro hb
   have z7 : wr.cell? ⟨g + 1, 7, none⟩ = some (.int .i64 (k : Int)) := by rw [← hs]; exact blk_cell hb 7
   have z4 : wr.cell? ⟨g + 1, 4, none⟩ = some (.int .i64 s.fin) := blk_cell hb 4
   have hst : stepsOf (g + 1) wr = k := by unfold stepsOf; rw [z7]
   rw [hf.out] at hk
   replace hst := Aside0.mk hst
   replace hsd := Aside0.mk hsd
   replace hs := Aside0.mk hs
   replace hro := Aside0.mk hro
   clear hb
   by_cases hlt : k < (4000 : Int).toNat
   ·have c1 : decide ((k : Int) < 4000) = true := decide_eq_true (by omega)
    have c2 : (k : Int) < 4000 := by omega
    by_cases hfin : s.fin = 0
    ·have c3 : (s.fin == 0) = true := by simp [hfin]
     have hstep := Aside0.mk (step_any w p (g + 1) wr s fs sv ev hv S hC hp ⟨hro.out.1⟩ hfin (by rw [hs.out]; omega))
     replace hfin := Aside0.mk hfin
     go_wp2_with (go_at_call 42; ((with_reducible refine hstep.out.mono ?_); rintro e w4 ⟨rfl, fs4, sv4, ev4, hv4, S4, hz⟩))
     go_roundw
     case rel =>
      have e1 : runL p (k + 1) (startL p) = stepL p s := by rw [runL_succ, hsd.out, if_pos hfin.out]
      refine ⟨k + 1, fs4, sv4, ev4, hv4, S4, by rw [hf.out]; omega, by rw [e1]; exact hz, ?_⟩
      rw [e1, (step_ok hp.out hro.out.1 hfin.out).2, hs.out]
     case measure =>
      obtain ⟨_, _, hb4, _⟩ := hz.blk
      have h4 : stepsOf (g + 1) w4 = (k : Int) + 1 := by
       unfold stepsOf
       rw [blk_cell hb4 7]
       show ((stepL p s).steps : Int) = k + 1
       rw [(step_ok hp.out hro.out.1 hfin.out).2, hs.out]
       rfl
      rw [h4, hst.out]
      omega
    ·have c3 : (s.fin == 0) = false := by simp [hfin]
     replace hfin := Aside0.mk hfin
     go_wp2
     go_ret
     have e1 : runL p (fuelN n) (startL p) = s := by
      rw [show fuelN n = k + (fuelN n - k) by rw [hf.out]; omega, runL_add, hsd.out, runL_stuck hfin.out]
     exact ⟨g + 1, fs, sv, ev, hv, S, rfl, by rw [e1]; exact hC⟩
   ·have c1 : decide ((k : Int) < 4000) = false := decide_eq_false (by omega)
    have c2 : ¬ (k : Int) < 4000 := by omega
    go_wp2
    go_ret
    have e1 : runL p (fuelN n) (startL p) = s := by
     rw [show fuelN n = k by rw [hf.out]; omega, hsd.out]
    exact ⟨g + 1, fs, sv, ev, hv, S, rfl, by rw [e1]; exact hC⟩
 ·have hf : fuelN n = n.toNat := by unfold fuelN mn; rw [if_neg hn4]
  replace hf := Aside0.mk hf
  have hn5 : n ≤ 4000 := by omega
  replace hwa := Aside0.mk hwa
  replace hg := Aside0.mk hg
  go_wp2_with (go_at_call 41; ((with_reducible refine hent.out.mono ?_); rintro e w2 ⟨rfl, fs, sv, S, hC⟩))
  go_loopw [] (fun W => LoopIs p w (g + 1) n W) (fun W => ((n : Int) - stepsOf (g + 1) W).toNat)
  case atStart => exact ⟨0, fs, sv, _, _, S, Nat.zero_le _, hC, rfl⟩
  case round =>
   clear hent hC
   obtain ⟨k, fs, sv, ev, hv, S, hk, hC, hs⟩ := hrel
   have hro := run_start hp.out k
   obtain ⟨PA2, pc2, hb, _⟩ := hC.blk
   obtain ⟨s, hsd⟩ : ∃ s, runL p k (startL p) = s := ⟨_, rfl⟩
   rw [hsd] at hC hs hro hb
   have z7 : wr.cell? ⟨g + 1, 7, none⟩ = some (.int .i64 (k : Int)) := by rw [← hs]; exact blk_cell hb 7
   have z4 : wr.cell? ⟨g + 1, 4, none⟩ = some (.int .i64 s.fin) := blk_cell hb 4
   have hst : stepsOf (g + 1) wr = k := by unfold stepsOf; rw [z7]
   rw [hf.out] at hk
   replace hst := Aside0.mk hst
   replace hsd := Aside0.mk hsd
   replace hs := Aside0.mk hs
   replace hro := Aside0.mk hro
   clear hb
   by_cases hlt : k < (n : Int).toNat
   ·have c1 : decide ((k : Int) < n) = true := decide_eq_true (by omega)
    have c2 : (k : Int) < n := by omega
    by_cases hfin : s.fin = 0
    ·have c3 : (s.fin == 0) = true := by simp [hfin]
     have hstep := Aside0.mk (step_any w p (g + 1) wr s fs sv ev hv S hC hp ⟨hro.out.1⟩ hfin (by rw [hs.out]; omega))
     replace hfin := Aside0.mk hfin
     go_wp2_with (go_at_call 42; ((with_reducible refine hstep.out.mono ?_); rintro e w4 ⟨rfl, fs4, sv4, ev4, hv4, S4, hz⟩))
     go_roundw
     case rel =>
      have e1 : runL p (k + 1) (startL p) = stepL p s := by rw [runL_succ, hsd.out, if_pos hfin.out]
      refine ⟨k + 1, fs4, sv4, ev4, hv4, S4, by rw [hf.out]; omega, by rw [e1]; exact hz, ?_⟩
      rw [e1, (step_ok hp.out hro.out.1 hfin.out).2, hs.out]
     case measure =>
      obtain ⟨_, _, hb4, _⟩ := hz.blk
      have h4 : stepsOf (g + 1) w4 = (k : Int) + 1 := by
       unfold stepsOf
       rw [blk_cell hb4 7]
       show ((stepL p s).steps : Int) = k + 1
       rw [(step_ok hp.out hro.out.1 hfin.out).2, hs.out]
       rfl
      rw [h4, hst.out]
      omega
    ·have c3 : (s.fin == 0) = false := by simp [hfin]
     replace hfin := Aside0.mk hfin
     go_wp2
     go_ret
     have e1 : runL p (fuelN n) (startL p) = s := by
      rw [show fuelN n = k + (fuelN n - k) by rw [hf.out]; omega, runL_add, hsd.out, runL_stuck hfin.out]
     exact ⟨g + 1, fs, sv, ev, hv, S, rfl, by rw [e1]; exact hC⟩
   ·have c1 : decide ((k : Int) < n) = false := decide_eq_false (by omega)
    have c2 : ¬ (k : Int) < n := by omega
    go_wp2
    go_ret
    have e1 : runL p (fuelN n) (startL p) = s := by
     rw [show fuelN n = k by rw [hf.out]; omega, hsd.out]
    exact ⟨g + 1, fs, sv, ev, hv, S, rfl, by rw [e1]; exact hC⟩
end Go.Proofs.Ytodjpbidjldblaa.H
