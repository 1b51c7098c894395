/- Texts joined. Conditions: each stands with its theorem. -/
import Derived.Test.YtodjpbidjldblaaX00
import Derived.Test.YtodjpbidjldblaaZ00
import Derived.StillTailTactics
import Derived.Test.YtodjpbidjldblaaX13
namespace Go.Proofs.Ytodjpbidjldblaa.H
open Go.RowKit Go.Proofs.YtodjpbidjldblaaW.PrintWords Go.Proofs.YtodjpbidjldblaaW.PrintLast
set_option linter.unusedVariables false
set_option linter.unusedSimpArgs false
set_option linter.unusedSectionVars false
set_option maxRecDepth 100000
theorem shift0 {p : SProg} {s : VSt} {f : VFr} {r : List VFr} (hp : ProgP p) (hG : GoP p s f r) (hop : (insAt p f).f0 = 16) : (varAt f.vars (insAt p f).f2).f0 = 0 := by
 obtain ⟨hi, hfi⟩ := hG.top.ins hp
 have h1 := hi.a (by rw [hop]; decide)
 have h2 := hfi.shift hop
 have hvl := hG.top.vars
 exact hG.top.ders (insAt p f).f2.toNat (by omega) h2
section
variable (w0 : World) (p : SProg) (sb : Nat) (W : World) (s : VSt) (fs : List Nat) (os : List (Nat × Nat)) (sv ev hv : Value) (PA : Option Addr) (pc : Nat) (hP : Rd kFunc w0 PA p.f0) (h : RM w0 sb W s fs os sv ev hv) (hp : Aside0 (ProgP p)) (hr : Aside0 (RunP p s)) (f : VFr) (r : List VFr) (hG : GoP p s f r) (hs4 : s.steps ≤ 4000)
include hP h hp hr hG hs4
set_option maxHeartbeats 4000000 in
theorem rstep1 (hop : (insAt p f).f0 = 1) : Calls Try.prog 23 #[.pointer (some ⟨sb, 0, none⟩), .agg #[.slice PA p.f0.length pc]] W (RStepIs w0 sb (stepL p s)) := by
 have hstep := stepL_some (p := p) hG.stack (v := ⟨(insAt p f).f4, 0, 0⟩) (by simp [reckonL, hop])
 obtain ⟨g, sc, vb, nn, b1, c4, d4, c6, cl, bl, pl, fs, adp, ad4, ad5, A6, x, rfl, rfl, rfl, hn60, e7, e1, l1, h, hB0, hb1, hY, hR6, lpos, lblk, lfn, ep, hpb, hi, hfi, hlen, hnn, hst, hx, hpl', hb1n, hT⟩ := rpre w0 p sb W s fs os sv ev hv PA pc hP h hp f r hG hs4
 rw [hx.out] at hop
 rw [hop] at hY
 replace hY := Aside0.mk hY
 rw [hpl'.out]
 replace hop := Aside0.mk hop
 replace hG := Aside0.mk hG
 go_enter Try.func23, Try.ntmps23
 go_upto_region 1 with (fail)
 rw [hb1n.out]
 have h := h.step hB0
 generalize W.alloc (.cells #[.slice (some adp) pl pc] 24) = wa at hB0 hb1 h ⊢
 have hm := h.blk
 have q0 := blk_frozen hm 6
 have q1 : wa.cell? ⟨sb, 6, none⟩ = some (.int .i64 s.steps) := blk_cell hm 6
 go_upto_region 2 with (fail)
 have hKs := KO.set sb 6 wa (.int .i64 ((s.steps : Int) + 1))
 have h := h.setS (s1 := { s with steps := s.steps + 1 }) hKs rfl rfl rfl ((blk_set hm 6 _).trans rfl)
 have hsb1 : b1 ≠ sb := two_types hb1 hm (by decide)
 replace hb1 := hKs.blk hb1 hsb1
 clear q0 q1 hm hKs hB0
 generalize wa.setCell ⟨sb, 6, none⟩ (.int .i64 ((s.steps : Int) + 1)) = wb at hb1 h ⊢
 have z0 : wb.cell? ⟨sb, 0, none⟩ = some (.slice (some ⟨g, 0, none⟩) (nn + 1) sc) := blk_cell h.blk 0
 go_quiet (fail)
 clear z0
 have hBn : Bel wb (wb.drewN nq) := (Bel.refl wb).drewN nq
 have h := h.step hBn
 replace hb1 := hBn.blk hb1
 generalize wb.drewN nq = wc at h hb1 ⊢
 clear hBn
 go_upto_region 3 with (fail)
 obtain ⟨u0, u1, u2, u3, -⟩ := h.top (f := f) (r := r) hst.out hnn.out
 have ub : wc.cell? ⟨b1, 0, none⟩ = some (.slice (some adp) pl pc) := blk_cell hb1 0
 have hS := Aside0.mk (fun (X : World) (q : Bel wc X) => hY.out wc X h.bel q ub u0 u2 u3)
 have hBd : Bel wc wc.drew := (Bel.refl wc).drewN 1
 clear u0 u1 u2 u3 ub hY
 refine wp_region_held_drew (S := SR b1 g nn f adp pl pc ad4 ad5 A6 bl c4 cl d4 c6 1 x) (by kernel_rfl) (hS.out _ hBd) (fun hHeld => ?_)
 refine takeH [0, 1, 2, 3, 4, 5, 6, 7, 8, 9, 10, 11, 12, 13, 14, 15, 16, 17, 18, 19, 20, 21] (by kernel_rfl) (by kernel_rfl) hHeld ?_
 iterate 22 (refine takeI (v := ?_) rfl rfl (fun _ _ _ h => h) (Or.inl ⟨by kernel_rfl, ?_⟩) ?_; rotate_left 1; focus (intro w hSw; (try dsimp only at hSw); go_simp; (try with_reducible rfl); done); try simp only [Act.put, z1, z2, z3, z4, z5, z6])
 refine takeE ?_
 try dsimp only
 refine wpAnyH_ready (rs := [22]) (by kernel_rfl) (by simp) ?_
 refine AllReadyH.cons rfl (fun K hK => ?_) AllReadyH.nil
 go_simp
 refine hK.out _ _ ?_ (fun hHeld => ?_)
 rotate_left 1
 clear hK K
 try simp only [Act.put, z1, z2, z3, z4, z5, z6]
 rotate_left 1
 ·exact hS.out _ (hBd.alloc _)
 refine wpAnyH_ready (rs := [23]) (by kernel_rfl) (by simp) ?_
 refine AllReadyH.cons rfl (fun K hK => ?_) AllReadyH.nil
 go_simp
 refine hK.out _ _ ?_ (fun hHeld => ?_)
 rotate_left 1
 clear hK K
 try simp only [Act.put, z1, z2, z3, z4, z5, z6]
 rotate_left 1
 ·exact hS.out _ (((Bel.refl wc).alloc _).drewN 1)
 refine wpAnyH_done (by kernel_rfl) ?_ _
 clear hS hHeld hBd
 obtain ⟨X, hX⟩ : ∃ X, wc.heap.size = X := ⟨_, rfl⟩
 have hBc : Bel wc (wc.alloc (.cells #[.int .i64 1, .int .i64 x.f1, .int .i64 x.f2, .int .i64 x.f3, .int .i64 x.f4, .int .i64 x.f5, .slice A6 x.f6.length c6] 57)).drew := ((Bel.refl wc).alloc _).drewN 1
 have hbX : (wc.alloc (.cells #[.int .i64 1, .int .i64 x.f1, .int .i64 x.f2, .int .i64 x.f3, .int .i64 x.f4, .int .i64 x.f5, .slice A6 x.f6.length c6] 57)).drew.heap[X]? = some (.cells #[.int .i64 1, .int .i64 x.f1, .int .i64 x.f2, .int .i64 x.f3, .int .i64 x.f4, .int .i64 x.f5, .slice A6 x.f6.length c6] 57 (0, 0)) := heap_new' (W := wc) hX.symm
 rw [hX]
 have h := h.step hBc
 replace hb1 := hBc.blk hb1
 generalize (wc.alloc (.cells #[.int .i64 1, .int .i64 x.f1, .int .i64 x.f2, .int .i64 x.f3, .int .i64 x.f4, .int .i64 x.f5, .slice A6 x.f6.length c6] 57)).drew = wd at hBc hbX h hb1 ⊢
 replace hX := Aside0.mk hX
 clear hBc
 obtain ⟨u0, u1, u2, u3, hz⟩ := h.top (f := f) (r := r) hst.out hnn.out
 have q0 := hz (nn * 4 + 3)
 clear u0 u1 u2 hz
 go_upto_region 5 with (fail)
 have hkg := KO.set g (nn * 4 + 3) wd (.int .i64 ((f.pos : Int) + 1))
 have hbg := h.neG hb1 (by decide)
 have hXg := h.neG hbX (by decide)
 replace hb1 := hkg.blk hb1 hbg
 replace hbX := hkg.blk hbX hXg
 have h := h.setPos (f := f) (r := r) hst.out hnn.out (f.pos + 1)
 rw [show (((f.pos + 1 : Nat) : Int)) = (f.pos : Int) + 1 by omega] at h
 clear hkg q0 u3
 generalize wd.setCell ⟨g, nn * 4 + 3, none⟩ (.int .i64 ((f.pos : Int) + 1)) = we at hb1 hbX h ⊢
 obtain ⟨u1, hfz, x0, x4, x5, x6, hvs⟩ := rpost (s := s) (f := f) (r := r) h hnn.out hbX
 rw [hx.out] at hstep
 replace hstep := Aside0.mk hstep
 have hvl := Aside0.mk hT.out.vars
 have hdd := hi.out.d (by rw [hop.out]; decide)
 obtain ⟨kd, hkd⟩ : ∃ k : Nat, x.f1 = (k : Int) := ⟨x.f1.toNat, by omega⟩
 have lkd : kd < f.vars.length := by have := hvl.out; omega
 have lkd' : (kd : Int) < (f.vars.length : Int) := by omega
 have x1 : we.cell? ⟨X, 1, none⟩ = some (.int .i64 kd) := by rw [← hkd]; exact blk_cell hbX 1
 have hkt : x.f1.toNat = kd := by omega
 clear hdd
 replace hkd := Aside0.mk hkd
 replace hkt := Aside0.mk hkt
 skip
 skip
 go_upto_region 8 with (fail)
 skip
 obtain ⟨y0, y1, y2⟩ := ValsAt.at_ hvs kd lkd
 have w0' := blk_frozen hvs (kd * 3)
 have w1' := blk_frozen hvs (kd * 3 + 1)
 have w2' := blk_frozen hvs (kd * 3 + 2)
 go_wp2
 go_end0
 have h := h.setV (f := { f with pos := f.pos + 1 }) (r := r) rfl (vs := f.vars.set kd ⟨x.f4, 0, 0⟩) (by simp) (KO.set3 vb _ _ _ _ _ _ _) (ValsAt.put hvs kd lkd ⟨x.f4, 0, 0⟩)
 refine .of h ?_
 rw [hstep.out, hkt.out]
 try rw [hva.out]
 try rw [hvb.out]
 all_goals rfl
end
end Go.Proofs.Ytodjpbidjldblaa.H
namespace Go.Proofs.Ytodjpbidjldblaa.H
open Go.RowKit Go.Proofs.YtodjpbidjldblaaW.PrintWords Go.Proofs.YtodjpbidjldblaaW.PrintLast
set_option linter.unusedVariables false
set_option linter.unusedSimpArgs false
set_option maxRecDepth 100000
section
variable {p : SProg} {s : VSt} {f : VFr} {r : List VFr} {l : List SObj} {v : SVal} {e : Int}
theorem stepL_err (hst : s.stack = f :: r) (h : reckonL (insAt p f) (varAt f.vars (insAt p f).f2) (varAt f.vars (insAt p f).f3) = none) (h2 : touchL (insAt p f) (varAt f.vars (insAt p f).f2) (varAt f.vars (insAt p f).f3) s.heap = some (l, v, e)) (he : e ≠ 0) :
  stepL p s = { s with stack := { f with pos := f.pos + 1 } :: r, heap := l, fin := 2, code := e, steps := s.steps + 1 } := by
 rw [stepL_touch hst h h2, if_pos he]
theorem stepL_set (hst : s.stack = f :: r) (h : reckonL (insAt p f) (varAt f.vars (insAt p f).f2) (varAt f.vars (insAt p f).f3) = none) (h2 : touchL (insAt p f) (varAt f.vars (insAt p f).f2) (varAt f.vars (insAt p f).f3) s.heap = some (l, v, 0)) (hs : setsL (insAt p f).f0 = true) :
  stepL p s = { s with stack := { f with pos := f.pos + 1, vars := f.vars.set (insAt p f).f1.toNat v } :: r, heap := l, steps := s.steps + 1 } := by
 rw [stepL_touch hst h h2, if_neg (by simp), if_pos hs]
theorem stepL_put (hst : s.stack = f :: r) (h : reckonL (insAt p f) (varAt f.vars (insAt p f).f2) (varAt f.vars (insAt p f).f3) = none) (h2 : touchL (insAt p f) (varAt f.vars (insAt p f).f2) (varAt f.vars (insAt p f).f3) s.heap = some (l, v, 0)) (hs : setsL (insAt p f).f0 = false) :
  stepL p s = { s with stack := { f with pos := f.pos + 1 } :: r, heap := l, steps := s.steps + 1 } := by
 rw [stepL_touch hst h h2, if_neg (by simp), if_neg (by simp [hs])]
end
theorem getF_no {h : List SObj} {o : Int} (l : List Int) (n : Int) (ho : objE h o ≠ 0) : getF h o l n = (0, 14) := by unfold getF; rw [if_pos ho]
theorem getF_out {h : List SObj} {o : Int} {l : List Int} {n : Int} (ho : objE h o = 0) (hf : fldE l n ≠ 0) : getF h o l n = (0, 15) := by unfold getF; rw [if_neg (by simp [ho]), if_pos hf]
theorem getF_at {h : List SObj} {o : Int} {l : List Int} {n : Int} (ho : objE h o = 0) (hf : fldE l n = 0) : getF h o l n = (l.getD n.toNat 0, 0) := by unfold getF; rw [if_neg (by simp [ho]), if_neg (by simp [hf])]
theorem putF_no {h : List SObj} {o : Int} (l : List Int) (n : Int) (q : SObj) (ho : objE h o ≠ 0) : putF h o l n q = (h, 14) := by unfold putF; rw [if_pos ho]
theorem putF_out {h : List SObj} {o : Int} {l : List Int} {n : Int} (q : SObj) (ho : objE h o = 0) (hf : fldE l n ≠ 0) : putF h o l n q = (h, 15) := by unfold putF; rw [if_neg (by simp [ho]), if_pos hf]
theorem putF_at {h : List SObj} {o : Int} {l : List Int} {n : Int} (q : SObj) (ho : objE h o = 0) (hf : fldE l n = 0) : putF h o l n q = (h.set (o - 1).toNat q, 0) := by unfold putF; rw [if_neg (by simp [ho]), if_neg (by simp [hf])]
theorem objE_nat {h : List SObj} {o : Int} (ho : objE h o = 0) : ∃ k : Nat, o = (k : Int) + 1 ∧ k < h.length := by
 unfold objE at ho
 split at ho
 ·rename_i q
  exact ⟨(o - 1).toNat, by omega, by omega⟩
 ·cases ho
theorem objAt_nat {h : List SObj} {k : Nat} (hk : k < h.length) : objAt h ((k : Int) + 1) = h[k] := by
 unfold objAt
 rw [show ((k : Int) + 1 - 1).toNat = k by omega, List.getD_eq_getElem?_getD, List.getElem?_eq_getElem hk, Option.getD_some]
theorem fldE_nat {l : List Int} {n : Int} (h : fldE l n = 0) : ∃ k : Nat, n = (k : Int) ∧ k < l.length := by
 unfold fldE at h
 split at h
 ·exact ⟨n.toNat, by omega, by omega⟩
 ·cases h
theorem IntsAt.at_ {W : World} {b : Nat} {l : List Int} (h : IntsAt W b l) (k : Nat) (hk : k < l.length) : W.cell? ⟨b, k, none⟩ = some (.int .i64 (l.getD k 0)) := by
 rw [blk_cell h]
 simp [nums, List.getD_eq_getElem?_getD, List.getElem?_eq_getElem hk]
theorem IntsAt.put {W : World} {b : Nat} {l : List Int} (h : IntsAt W b l) (k : Nat) (v : Int) : IntsAt (W.setCell ⟨b, k, none⟩ (.int .i64 v)) b (l.set k v) := by
 have h1 := blk_set h k (.int .i64 v)
 show _ = some _
 rw [h1]
 simp [nums, List.map_set]
section
variable {w0 : World} {sb : Nat} {W : World} {s : VSt} {fs : List Nat} {os : List (Nat × Nat)} {sv ev hv : Value}
theorem RM.objAt (h : RM w0 sb W s fs os sv ev hv) (k : Nat) (hk : k < s.heap.length) : ∃ (g c : Nat) (hk' : k < os.length), hv = .slice (some ⟨g, 0, none⟩) s.heap.length c ∧ W.cell? ⟨g, k * 2, none⟩ = some (.slice (some ⟨os[k].1, 0, none⟩) (s.heap[k]).f0.length (s.heap[k]).f0.length) ∧ W.cell? ⟨g, k * 2 + 1, none⟩ = some (.slice (some ⟨os[k].2, 0, none⟩) (s.heap[k]).f1.length (s.heap[k]).f1.length) ∧ IntsAt W os[k].1 (s.heap[k]).f0 ∧ IntsAt W os[k].2 (s.heap[k]).f1 ∧ os[k].1 ≠ os[k].2 := by
 have h0 := h.objs.out
 have hl := h.flds.len
 have hk' : k < os.length := by omega
 obtain ⟨g, c, e⟩ : ∃ g c, hv = .slice (some ⟨g, 0, none⟩) s.heap.length c := by
  rcases h0.2 with ⟨e, hl0⟩ | ⟨g, c, cur, e, _⟩
  ·omega
  ·exact ⟨g, c, e⟩
 subst e
 obtain ⟨a0, a1⟩ := obCells_at s.heap os hl k hk hk'
 obtain ⟨i0, i1⟩ := h.flds.at_ k hk hk'
 refine ⟨g, c, hk', rfl, (h0.cellAt (k * 2) (by omega)).trans a0, (h0.cellAt (k * 2 + 1) (by omega)).trans a1, i0, i1, fun e => ?_⟩
 have nd := h.ndo
 have key : ∀ (l : List (Nat × Nat)), (fldB l).Nodup → ∀ b ∈ l, b.1 ≠ b.2 := by
  intro l
  induction l with
  | nil => intro _ b hb; cases hb
  | cons a l ih =>
   intro hn b hb
   have e1 : fldB (a :: l) = a.1 :: a.2 :: fldB l := rfl
   rw [e1] at hn
   simp only [List.nodup_cons, List.mem_cons, not_or] at hn
   rcases List.mem_cons.1 hb with rfl | hb
   ·exact hn.1.1
   ·exact ih hn.2.2 b hb
 exact key os nd _ (List.getElem_mem hk') e
theorem rin_yes (h : RM w0 sb W s fs os sv ev hv) (l : List Int) (A : Option Addr) (c : Nat) (n : Int) (hf : fldE l n = 0) :
  Calls Try.prog 39 #[.pointer (some ⟨sb, 0, none⟩), .slice A l.length c, .int .i64 n] W fun r W' => r = .returned (.bool true) ∧ W' = W := by
 refine (rin_any h l A c n).mono fun r W' q => ?_
 obtain ⟨rfl, q2, -⟩ := q
 exact ⟨by rw [decide_eq_true hf], q2 hf⟩
theorem rin_no (h : RM w0 sb W s fs os sv ev hv) (l : List Int) (A : Option Addr) (c : Nat) (n : Int) (hf : fldE l n ≠ 0) :
  Calls Try.prog 39 #[.pointer (some ⟨sb, 0, none⟩), .slice A l.length c, .int .i64 n] W fun r W' => r = .returned (.bool false) ∧ RM w0 sb W' { s with fin := 2, code := 15 } fs os sv ev hv := by
 refine (rin_any h l A c n).mono fun r W' q => ?_
 obtain ⟨rfl, -, q2⟩ := q
 exact ⟨by rw [decide_eq_false hf], q2 hf⟩
end
theorem IntsAt.rd {W : World} {b : Nat} {l : List Int} (h : IntsAt W b l) (hl : l.length ≤ 9223372036854775807) : RdI W (some ⟨b, 0, none⟩) l :=
 ⟨⟨rfl, hl, fun _ => ⟨_, rfl, fun j p hp => ⟨[.int .i64 p], rfl, rfl, fun i u hi => by
  obtain ⟨hj, rfl⟩ := List.getElem?_eq_some_iff.1 hp
  cases i with
  | succ i => simp at hi
  | zero =>
   simp at hi
   subst hi
   have := h.at_ j hj
   rw [List.getD_eq_getElem?_getD, List.getElem?_eq_getElem hj, Option.getD_some] at this
   rw [show j * (Kd.int .i64).sz + 0 = j from Nat.mul_one j, addr_add0]
   exact this⟩⟩⟩⟩
section
variable {W : World} {base : Nat} {l : List Int} {hl' : List SObj} {os : List (Nat × Nat)} {ev hv : Value}
theorem evs_rd (h0 : W.ownsRow base 3 1 ev l.length (nums .i64 l)) (hl : l.length ≤ 100000) : ∃ EA ec, ev = .slice EA l.length ec ∧ RdI W EA l := by
 rcases h0.2 with ⟨e, hl0⟩ | ⟨g, c, cur, e, _⟩
 ·rw [hl0]
  refine ⟨none, 0, e, ⟨rfl, by omega, fun hn => by omega⟩⟩
 ·subst e
  refine ⟨_, c, rfl, ⟨rfl, by omega, fun _ => ⟨_, rfl, fun j p hp => ⟨[.int .i64 p], rfl, rfl, fun i u hi => ?_⟩⟩⟩⟩
  obtain ⟨hj, rfl⟩ := List.getElem?_eq_some_iff.1 hp
  cases i with
  | succ i => simp at hi
  | zero =>
   simp at hi
   subst hi
   rw [show j * (Kd.int .i64).sz + 0 = j from Nat.mul_one j, addr_add0, h0.cellAt j (by omega)]
   simp [nums, hj]
theorem objs_rd (h0 : W.ownsRow base 71 2 hv hl'.length (obCells hl' os)) (hf : ObjsAt W os hl') (hl : hl'.length ≤ 100000) (h8 : ∀ o ∈ hl', o.f0.length ≤ 8 ∧ o.f1.length ≤ 8) : ∃ HA hc, hv = .slice HA hl'.length hc ∧ Rd kObj W HA hl' := by
 have hlen := hf.len
 rcases h0.2 with ⟨e, hl0⟩ | ⟨g, c, cur, e, _⟩
 ·rw [hl0]
  refine ⟨none, 0, e, ⟨rfl, by omega, fun hn => by omega⟩⟩
 ·subst e
  refine ⟨_, c, rfl, ⟨rfl, by omega, fun _ => ⟨_, rfl, fun j p hp => ?_⟩⟩⟩
  obtain ⟨hj, rfl⟩ := List.getElem?_eq_some_iff.1 hp
  have hj' : j < os.length := by omega
  obtain ⟨a0, a1⟩ := obCells_at hl' os hlen j hj hj'
  obtain ⟨i0, i1⟩ := hf.at_ j hj hj'
  have u0 := (h0.cellAt (j * 2) (by omega)).trans a0
  have u1 := (h0.cellAt (j * 2 + 1) (by omega)).trans a1
  have h9 := h8 _ (List.getElem_mem hj)
  refine ⟨_, rfl, kObj_mk W hl'[j] (Nat.le_refl _) (i0.rd (by omega)).out (Nat.le_refl _) (i1.rd (by omega)).out, fun i u hi => ?_⟩
  rw [show kObj.sz = 2 from rfl, addr_add0]
  match i, hi with
  | 0, hi => simp at hi; subst hi; exact u0
  | 1, hi => simp at hi; subst hi; exact u1
  | i + 2, hi => simp at hi
end
end Go.Proofs.Ytodjpbidjldblaa.H
namespace Go.Proofs.Ytodjpbidjldblaa.H
open Go.RowKit Go.Proofs.YtodjpbidjldblaaW.PrintWords Go.Proofs.YtodjpbidjldblaaW.PrintLast
set_option linter.unusedVariables false
set_option linter.unusedSimpArgs false
set_option linter.unusedSectionVars false
set_option maxRecDepth 100000
section
variable (w0 : World) (p : SProg) (sb : Nat) (W : World) (s : VSt) (fs : List Nat) (os : List (Nat × Nat)) (sv ev hv : Value) (PA : Option Addr) (pc : Nat) (hP : Rd kFunc w0 PA p.f0) (h : RM w0 sb W s fs os sv ev hv) (hp : Aside0 (ProgP p)) (hr : Aside0 (RunP p s)) (f : VFr) (r : List VFr) (hG : GoP p s f r) (hs4 : s.steps ≤ 4000)
include hP h hp hr hG hs4
set_option maxHeartbeats 4000000 in
theorem rstep2 (hop : (insAt p f).f0 = 2) : Calls Try.prog 23 #[.pointer (some ⟨sb, 0, none⟩), .agg #[.slice PA p.f0.length pc]] W (RStepIs w0 sb (stepL p s)) := by
 have hstep := stepL_some (p := p) hG.stack (v := (varAt f.vars (insAt p f).f2)) (by simp [reckonL, hop])
 obtain ⟨g, sc, vb, nn, b1, c4, d4, c6, cl, bl, pl, fs, adp, ad4, ad5, A6, x, rfl, rfl, rfl, hn60, e7, e1, l1, h, hB0, hb1, hY, hR6, lpos, lblk, lfn, ep, hpb, hi, hfi, hlen, hnn, hst, hx, hpl', hb1n, hT⟩ := rpre w0 p sb W s fs os sv ev hv PA pc hP h hp f r hG hs4
 rw [hx.out] at hop
 rw [hop] at hY
 replace hY := Aside0.mk hY
 rw [hpl'.out]
 replace hop := Aside0.mk hop
 replace hG := Aside0.mk hG
 go_enter Try.func23, Try.ntmps23
 go_upto_region 1 with (fail)
 rw [hb1n.out]
 have h := h.step hB0
 generalize W.alloc (.cells #[.slice (some adp) pl pc] 24) = wa at hB0 hb1 h ⊢
 have hm := h.blk
 have q0 := blk_frozen hm 6
 have q1 : wa.cell? ⟨sb, 6, none⟩ = some (.int .i64 s.steps) := blk_cell hm 6
 go_upto_region 2 with (fail)
 have hKs := KO.set sb 6 wa (.int .i64 ((s.steps : Int) + 1))
 have h := h.setS (s1 := { s with steps := s.steps + 1 }) hKs rfl rfl rfl ((blk_set hm 6 _).trans rfl)
 have hsb1 : b1 ≠ sb := two_types hb1 hm (by decide)
 replace hb1 := hKs.blk hb1 hsb1
 clear q0 q1 hm hKs hB0
 generalize wa.setCell ⟨sb, 6, none⟩ (.int .i64 ((s.steps : Int) + 1)) = wb at hb1 h ⊢
 have z0 : wb.cell? ⟨sb, 0, none⟩ = some (.slice (some ⟨g, 0, none⟩) (nn + 1) sc) := blk_cell h.blk 0
 go_quiet (fail)
 clear z0
 have hBn : Bel wb (wb.drewN nq) := (Bel.refl wb).drewN nq
 have h := h.step hBn
 replace hb1 := hBn.blk hb1
 generalize wb.drewN nq = wc at h hb1 ⊢
 clear hBn
 go_upto_region 3 with (fail)
 obtain ⟨u0, u1, u2, u3, -⟩ := h.top (f := f) (r := r) hst.out hnn.out
 have ub : wc.cell? ⟨b1, 0, none⟩ = some (.slice (some adp) pl pc) := blk_cell hb1 0
 have hS := Aside0.mk (fun (X : World) (q : Bel wc X) => hY.out wc X h.bel q ub u0 u2 u3)
 have hBd : Bel wc wc.drew := (Bel.refl wc).drewN 1
 clear u0 u1 u2 u3 ub hY
 refine wp_region_held_drew (S := SR b1 g nn f adp pl pc ad4 ad5 A6 bl c4 cl d4 c6 2 x) (by kernel_rfl) (hS.out _ hBd) (fun hHeld => ?_)
 refine takeH [0, 1, 2, 3, 4, 5, 6, 7, 8, 9, 10, 11, 12, 13, 14, 15, 16, 17, 18, 19, 20, 21] (by kernel_rfl) (by kernel_rfl) hHeld ?_
 iterate 22 (refine takeI (v := ?_) rfl rfl (fun _ _ _ h => h) (Or.inl ⟨by kernel_rfl, ?_⟩) ?_; rotate_left 1; focus (intro w hSw; (try dsimp only at hSw); go_simp; (try with_reducible rfl); done); try simp only [Act.put, z1, z2, z3, z4, z5, z6])
 refine takeE ?_
 try dsimp only
 refine wpAnyH_ready (rs := [22]) (by kernel_rfl) (by simp) ?_
 refine AllReadyH.cons rfl (fun K hK => ?_) AllReadyH.nil
 go_simp
 refine hK.out _ _ ?_ (fun hHeld => ?_)
 rotate_left 1
 clear hK K
 try simp only [Act.put, z1, z2, z3, z4, z5, z6]
 rotate_left 1
 ·exact hS.out _ (hBd.alloc _)
 refine wpAnyH_ready (rs := [23]) (by kernel_rfl) (by simp) ?_
 refine AllReadyH.cons rfl (fun K hK => ?_) AllReadyH.nil
 go_simp
 refine hK.out _ _ ?_ (fun hHeld => ?_)
 rotate_left 1
 clear hK K
 try simp only [Act.put, z1, z2, z3, z4, z5, z6]
 rotate_left 1
 ·exact hS.out _ (((Bel.refl wc).alloc _).drewN 1)
 refine wpAnyH_done (by kernel_rfl) ?_ _
 clear hS hHeld hBd
 obtain ⟨X, hX⟩ : ∃ X, wc.heap.size = X := ⟨_, rfl⟩
 have hBc : Bel wc (wc.alloc (.cells #[.int .i64 2, .int .i64 x.f1, .int .i64 x.f2, .int .i64 x.f3, .int .i64 x.f4, .int .i64 x.f5, .slice A6 x.f6.length c6] 57)).drew := ((Bel.refl wc).alloc _).drewN 1
 have hbX : (wc.alloc (.cells #[.int .i64 2, .int .i64 x.f1, .int .i64 x.f2, .int .i64 x.f3, .int .i64 x.f4, .int .i64 x.f5, .slice A6 x.f6.length c6] 57)).drew.heap[X]? = some (.cells #[.int .i64 2, .int .i64 x.f1, .int .i64 x.f2, .int .i64 x.f3, .int .i64 x.f4, .int .i64 x.f5, .slice A6 x.f6.length c6] 57 (0, 0)) := heap_new' (W := wc) hX.symm
 rw [hX]
 have h := h.step hBc
 replace hb1 := hBc.blk hb1
 generalize (wc.alloc (.cells #[.int .i64 2, .int .i64 x.f1, .int .i64 x.f2, .int .i64 x.f3, .int .i64 x.f4, .int .i64 x.f5, .slice A6 x.f6.length c6] 57)).drew = wd at hBc hbX h hb1 ⊢
 replace hX := Aside0.mk hX
 clear hBc
 obtain ⟨u0, u1, u2, u3, hz⟩ := h.top (f := f) (r := r) hst.out hnn.out
 have q0 := hz (nn * 4 + 3)
 clear u0 u1 u2 hz
 go_upto_region 5 with (fail)
 have hkg := KO.set g (nn * 4 + 3) wd (.int .i64 ((f.pos : Int) + 1))
 have hbg := h.neG hb1 (by decide)
 have hXg := h.neG hbX (by decide)
 replace hb1 := hkg.blk hb1 hbg
 replace hbX := hkg.blk hbX hXg
 have h := h.setPos (f := f) (r := r) hst.out hnn.out (f.pos + 1)
 rw [show (((f.pos + 1 : Nat) : Int)) = (f.pos : Int) + 1 by omega] at h
 clear hkg q0 u3
 generalize wd.setCell ⟨g, nn * 4 + 3, none⟩ (.int .i64 ((f.pos : Int) + 1)) = we at hb1 hbX h ⊢
 obtain ⟨u1, hfz, x0, x4, x5, x6, hvs⟩ := rpost (s := s) (f := f) (r := r) h hnn.out hbX
 rw [hx.out] at hstep
 replace hstep := Aside0.mk hstep
 have hvl := Aside0.mk hT.out.vars
 have hdd := hi.out.d (by rw [hop.out]; decide)
 obtain ⟨kd, hkd⟩ : ∃ k : Nat, x.f1 = (k : Int) := ⟨x.f1.toNat, by omega⟩
 have lkd : kd < f.vars.length := by have := hvl.out; omega
 have lkd' : (kd : Int) < (f.vars.length : Int) := by omega
 have x1 : we.cell? ⟨X, 1, none⟩ = some (.int .i64 kd) := by rw [← hkd]; exact blk_cell hbX 1
 have hkt : x.f1.toNat = kd := by omega
 clear hdd
 replace hkd := Aside0.mk hkd
 replace hkt := Aside0.mk hkt
 have hda := hi.out.a (by rw [hop.out]; decide)
 obtain ⟨ka, hka⟩ : ∃ k : Nat, x.f2 = (k : Int) := ⟨x.f2.toNat, by omega⟩
 have lka : ka < f.vars.length := by have := hT.out.vars; omega
 have lka' : (ka : Int) < (f.vars.length : Int) := by omega
 have x2 : we.cell? ⟨X, 2, none⟩ = some (.int .i64 ka) := by rw [← hka]; exact blk_cell hbX 2
 obtain ⟨va, hva⟩ : ∃ v, varAt f.vars x.f2 = v := ⟨_, rfl⟩
 obtain ⟨a0, a1, a2⟩ := vals_at hvs ka lka
 rw [← hka, hva] at a0 a1 a2
 clear hda
 replace hka := Aside0.mk hka
 replace hva := Aside0.mk hva
 skip
 go_upto_region 10 with (fail)
 go_still_tail 9, (by kernel_rfl)
 have hBd : Bel we we.drew := (Bel.refl we).drewN 1
 have h := h.step hBd
 replace hvs : ValsAt we.drew vb f.vars := hBd.blk hvs
 change wpList _ _ _ _ _ we.drew
 generalize we.drew = we at h hvs ⊢
 obtain ⟨y0, y1, y2⟩ := ValsAt.at_ hvs kd lkd
 have w0' := blk_frozen hvs (kd * 3)
 have w1' := blk_frozen hvs (kd * 3 + 1)
 have w2' := blk_frozen hvs (kd * 3 + 2)
 go_wp2
 go_end0
 have h := h.setV (f := { f with pos := f.pos + 1 }) (r := r) rfl (vs := f.vars.set kd va) (by simp) (KO.set3 vb _ _ _ _ _ _ _) (ValsAt.put hvs kd lkd va)
 refine .of h ?_
 rw [hstep.out, hkt.out]
 try rw [hva.out]
 try rw [hvb.out]
 all_goals rfl
set_option maxHeartbeats 4000000 in
theorem rstep16 (hop : (insAt p f).f0 = 16) : Calls Try.prog 23 #[.pointer (some ⟨sb, 0, none⟩), .agg #[.slice PA p.f0.length pc]] W (RStepIs w0 sb (stepL p s)) := by
 have hstep := stepL_some (p := p) hG.stack (v := ⟨0, (varAt f.vars (insAt p f).f2).f1, wr64 ((varAt f.vars (insAt p f).f2).f2 + (insAt p f).f4)⟩) (by have h0 := shift0 hp.out hG hop; simp [reckonL, hop, h0])
 obtain ⟨g, sc, vb, nn, b1, c4, d4, c6, cl, bl, pl, fs, adp, ad4, ad5, A6, x, rfl, rfl, rfl, hn60, e7, e1, l1, h, hB0, hb1, hY, hR6, lpos, lblk, lfn, ep, hpb, hi, hfi, hlen, hnn, hst, hx, hpl', hb1n, hT⟩ := rpre w0 p sb W s fs os sv ev hv PA pc hP h hp f r hG hs4
 rw [hx.out] at hop
 rw [hop] at hY
 replace hY := Aside0.mk hY
 rw [hpl'.out]
 replace hop := Aside0.mk hop
 replace hG := Aside0.mk hG
 go_enter Try.func23, Try.ntmps23
 go_upto_region 1 with (fail)
 rw [hb1n.out]
 have h := h.step hB0
 generalize W.alloc (.cells #[.slice (some adp) pl pc] 24) = wa at hB0 hb1 h ⊢
 have hm := h.blk
 have q0 := blk_frozen hm 6
 have q1 : wa.cell? ⟨sb, 6, none⟩ = some (.int .i64 s.steps) := blk_cell hm 6
 go_upto_region 2 with (fail)
 have hKs := KO.set sb 6 wa (.int .i64 ((s.steps : Int) + 1))
 have h := h.setS (s1 := { s with steps := s.steps + 1 }) hKs rfl rfl rfl ((blk_set hm 6 _).trans rfl)
 have hsb1 : b1 ≠ sb := two_types hb1 hm (by decide)
 replace hb1 := hKs.blk hb1 hsb1
 clear q0 q1 hm hKs hB0
 generalize wa.setCell ⟨sb, 6, none⟩ (.int .i64 ((s.steps : Int) + 1)) = wb at hb1 h ⊢
 have z0 : wb.cell? ⟨sb, 0, none⟩ = some (.slice (some ⟨g, 0, none⟩) (nn + 1) sc) := blk_cell h.blk 0
 go_quiet (fail)
 clear z0
 have hBn : Bel wb (wb.drewN nq) := (Bel.refl wb).drewN nq
 have h := h.step hBn
 replace hb1 := hBn.blk hb1
 generalize wb.drewN nq = wc at h hb1 ⊢
 clear hBn
 go_upto_region 3 with (fail)
 obtain ⟨u0, u1, u2, u3, -⟩ := h.top (f := f) (r := r) hst.out hnn.out
 have ub : wc.cell? ⟨b1, 0, none⟩ = some (.slice (some adp) pl pc) := blk_cell hb1 0
 have hS := Aside0.mk (fun (X : World) (q : Bel wc X) => hY.out wc X h.bel q ub u0 u2 u3)
 have hBd : Bel wc wc.drew := (Bel.refl wc).drewN 1
 clear u0 u1 u2 u3 ub hY
 refine wp_region_held_drew (S := SR b1 g nn f adp pl pc ad4 ad5 A6 bl c4 cl d4 c6 16 x) (by kernel_rfl) (hS.out _ hBd) (fun hHeld => ?_)
 refine takeH [0, 1, 2, 3, 4, 5, 6, 7, 8, 9, 10, 11, 12, 13, 14, 15, 16, 17, 18, 19, 20, 21] (by kernel_rfl) (by kernel_rfl) hHeld ?_
 iterate 22 (refine takeI (v := ?_) rfl rfl (fun _ _ _ h => h) (Or.inl ⟨by kernel_rfl, ?_⟩) ?_; rotate_left 1; focus (intro w hSw; (try dsimp only at hSw); go_simp; (try with_reducible rfl); done); try simp only [Act.put, z1, z2, z3, z4, z5, z6])
 refine takeE ?_
 try dsimp only
 refine wpAnyH_ready (rs := [22]) (by kernel_rfl) (by simp) ?_
 refine AllReadyH.cons rfl (fun K hK => ?_) AllReadyH.nil
 go_simp
 refine hK.out _ _ ?_ (fun hHeld => ?_)
 rotate_left 1
 clear hK K
 try simp only [Act.put, z1, z2, z3, z4, z5, z6]
 rotate_left 1
 ·exact hS.out _ (hBd.alloc _)
 refine wpAnyH_ready (rs := [23]) (by kernel_rfl) (by simp) ?_
 refine AllReadyH.cons rfl (fun K hK => ?_) AllReadyH.nil
 go_simp
 refine hK.out _ _ ?_ (fun hHeld => ?_)
 rotate_left 1
 clear hK K
 try simp only [Act.put, z1, z2, z3, z4, z5, z6]
 rotate_left 1
 ·exact hS.out _ (((Bel.refl wc).alloc _).drewN 1)
 refine wpAnyH_done (by kernel_rfl) ?_ _
 clear hS hHeld hBd
 obtain ⟨X, hX⟩ : ∃ X, wc.heap.size = X := ⟨_, rfl⟩
 have hBc : Bel wc (wc.alloc (.cells #[.int .i64 16, .int .i64 x.f1, .int .i64 x.f2, .int .i64 x.f3, .int .i64 x.f4, .int .i64 x.f5, .slice A6 x.f6.length c6] 57)).drew := ((Bel.refl wc).alloc _).drewN 1
 have hbX : (wc.alloc (.cells #[.int .i64 16, .int .i64 x.f1, .int .i64 x.f2, .int .i64 x.f3, .int .i64 x.f4, .int .i64 x.f5, .slice A6 x.f6.length c6] 57)).drew.heap[X]? = some (.cells #[.int .i64 16, .int .i64 x.f1, .int .i64 x.f2, .int .i64 x.f3, .int .i64 x.f4, .int .i64 x.f5, .slice A6 x.f6.length c6] 57 (0, 0)) := heap_new' (W := wc) hX.symm
 rw [hX]
 have h := h.step hBc
 replace hb1 := hBc.blk hb1
 generalize (wc.alloc (.cells #[.int .i64 16, .int .i64 x.f1, .int .i64 x.f2, .int .i64 x.f3, .int .i64 x.f4, .int .i64 x.f5, .slice A6 x.f6.length c6] 57)).drew = wd at hBc hbX h hb1 ⊢
 replace hX := Aside0.mk hX
 clear hBc
 obtain ⟨u0, u1, u2, u3, hz⟩ := h.top (f := f) (r := r) hst.out hnn.out
 have q0 := hz (nn * 4 + 3)
 clear u0 u1 u2 hz
 go_upto_region 5 with (fail)
 have hkg := KO.set g (nn * 4 + 3) wd (.int .i64 ((f.pos : Int) + 1))
 have hbg := h.neG hb1 (by decide)
 have hXg := h.neG hbX (by decide)
 replace hb1 := hkg.blk hb1 hbg
 replace hbX := hkg.blk hbX hXg
 have h := h.setPos (f := f) (r := r) hst.out hnn.out (f.pos + 1)
 rw [show (((f.pos + 1 : Nat) : Int)) = (f.pos : Int) + 1 by omega] at h
 clear hkg q0 u3
 generalize wd.setCell ⟨g, nn * 4 + 3, none⟩ (.int .i64 ((f.pos : Int) + 1)) = we at hb1 hbX h ⊢
 obtain ⟨u1, hfz, x0, x4, x5, x6, hvs⟩ := rpost (s := s) (f := f) (r := r) h hnn.out hbX
 rw [hx.out] at hstep
 replace hstep := Aside0.mk hstep
 have hvl := Aside0.mk hT.out.vars
 have hdd := hi.out.d (by rw [hop.out]; decide)
 obtain ⟨kd, hkd⟩ : ∃ k : Nat, x.f1 = (k : Int) := ⟨x.f1.toNat, by omega⟩
 have lkd : kd < f.vars.length := by have := hvl.out; omega
 have lkd' : (kd : Int) < (f.vars.length : Int) := by omega
 have x1 : we.cell? ⟨X, 1, none⟩ = some (.int .i64 kd) := by rw [← hkd]; exact blk_cell hbX 1
 have hkt : x.f1.toNat = kd := by omega
 clear hdd
 replace hkd := Aside0.mk hkd
 replace hkt := Aside0.mk hkt
 have hda := hi.out.a (by rw [hop.out]; decide)
 obtain ⟨ka, hka⟩ : ∃ k : Nat, x.f2 = (k : Int) := ⟨x.f2.toNat, by omega⟩
 have lka : ka < f.vars.length := by have := hT.out.vars; omega
 have lka' : (ka : Int) < (f.vars.length : Int) := by omega
 have x2 : we.cell? ⟨X, 2, none⟩ = some (.int .i64 ka) := by rw [← hka]; exact blk_cell hbX 2
 obtain ⟨va, hva⟩ : ∃ v, varAt f.vars x.f2 = v := ⟨_, rfl⟩
 obtain ⟨a0, a1, a2⟩ := vals_at hvs ka lka
 rw [← hka, hva] at a0 a1 a2
 clear hda
 replace hka := Aside0.mk hka
 replace hva := Aside0.mk hva
 skip
 go_upto_region 49 with (fail)
 go_still_tail 20, (by kernel_rfl)
 have hBd : Bel we we.drew := (Bel.refl we).drewN 1
 have h := h.step hBd
 replace hvs : ValsAt we.drew vb f.vars := hBd.blk hvs
 change wpList _ _ _ _ _ we.drew
 generalize we.drew = we at h hvs ⊢
 obtain ⟨y0, y1, y2⟩ := ValsAt.at_ hvs kd lkd
 have w0' := blk_frozen hvs (kd * 3)
 have w1' := blk_frozen hvs (kd * 3 + 1)
 have w2' := blk_frozen hvs (kd * 3 + 2)
 go_wp2
 go_end0
 have h := h.setV (f := { f with pos := f.pos + 1 }) (r := r) rfl (vs := f.vars.set kd ⟨0, va.f1, wr64 (va.f2 + x.f4)⟩) (by simp) (KO.set3 vb _ _ _ _ _ _ _) (ValsAt.put hvs kd lkd ⟨0, va.f1, wr64 (va.f2 + x.f4)⟩)
 refine .of h ?_
 rw [hstep.out, hkt.out]
 try rw [hva.out]
 try rw [hvb.out]
 all_goals rfl
set_option maxHeartbeats 4000000 in
theorem rstep7 (hop : (insAt p f).f0 = 7) : Calls Try.prog 23 #[.pointer (some ⟨sb, 0, none⟩), .agg #[.slice PA p.f0.length pc]] W (RStepIs w0 sb (stepL p s)) := by
 have hstep := stepL_some (p := p) hG.stack (v := ⟨0, 0, 0⟩) (by simp [reckonL, hop])
 obtain ⟨g, sc, vb, nn, b1, c4, d4, c6, cl, bl, pl, fs, adp, ad4, ad5, A6, x, rfl, rfl, rfl, hn60, e7, e1, l1, h, hB0, hb1, hY, hR6, lpos, lblk, lfn, ep, hpb, hi, hfi, hlen, hnn, hst, hx, hpl', hb1n, hT⟩ := rpre w0 p sb W s fs os sv ev hv PA pc hP h hp f r hG hs4
 rw [hx.out] at hop
 rw [hop] at hY
 replace hY := Aside0.mk hY
 rw [hpl'.out]
 replace hop := Aside0.mk hop
 replace hG := Aside0.mk hG
 go_enter Try.func23, Try.ntmps23
 go_upto_region 1 with (fail)
 rw [hb1n.out]
 have h := h.step hB0
 generalize W.alloc (.cells #[.slice (some adp) pl pc] 24) = wa at hB0 hb1 h ⊢
 have hm := h.blk
 have q0 := blk_frozen hm 6
 have q1 : wa.cell? ⟨sb, 6, none⟩ = some (.int .i64 s.steps) := blk_cell hm 6
 go_upto_region 2 with (fail)
 have hKs := KO.set sb 6 wa (.int .i64 ((s.steps : Int) + 1))
 have h := h.setS (s1 := { s with steps := s.steps + 1 }) hKs rfl rfl rfl ((blk_set hm 6 _).trans rfl)
 have hsb1 : b1 ≠ sb := two_types hb1 hm (by decide)
 replace hb1 := hKs.blk hb1 hsb1
 clear q0 q1 hm hKs hB0
 generalize wa.setCell ⟨sb, 6, none⟩ (.int .i64 ((s.steps : Int) + 1)) = wb at hb1 h ⊢
 have z0 : wb.cell? ⟨sb, 0, none⟩ = some (.slice (some ⟨g, 0, none⟩) (nn + 1) sc) := blk_cell h.blk 0
 go_quiet (fail)
 clear z0
 have hBn : Bel wb (wb.drewN nq) := (Bel.refl wb).drewN nq
 have h := h.step hBn
 replace hb1 := hBn.blk hb1
 generalize wb.drewN nq = wc at h hb1 ⊢
 clear hBn
 go_upto_region 3 with (fail)
 obtain ⟨u0, u1, u2, u3, -⟩ := h.top (f := f) (r := r) hst.out hnn.out
 have ub : wc.cell? ⟨b1, 0, none⟩ = some (.slice (some adp) pl pc) := blk_cell hb1 0
 have hS := Aside0.mk (fun (X : World) (q : Bel wc X) => hY.out wc X h.bel q ub u0 u2 u3)
 have hBd : Bel wc wc.drew := (Bel.refl wc).drewN 1
 clear u0 u1 u2 u3 ub hY
 refine wp_region_held_drew (S := SR b1 g nn f adp pl pc ad4 ad5 A6 bl c4 cl d4 c6 7 x) (by kernel_rfl) (hS.out _ hBd) (fun hHeld => ?_)
 refine takeH [0, 1, 2, 3, 4, 5, 6, 7, 8, 9, 10, 11, 12, 13, 14, 15, 16, 17, 18, 19, 20, 21] (by kernel_rfl) (by kernel_rfl) hHeld ?_
 iterate 22 (refine takeI (v := ?_) rfl rfl (fun _ _ _ h => h) (Or.inl ⟨by kernel_rfl, ?_⟩) ?_; rotate_left 1; focus (intro w hSw; (try dsimp only at hSw); go_simp; (try with_reducible rfl); done); try simp only [Act.put, z1, z2, z3, z4, z5, z6])
 refine takeE ?_
 try dsimp only
 refine wpAnyH_ready (rs := [22]) (by kernel_rfl) (by simp) ?_
 refine AllReadyH.cons rfl (fun K hK => ?_) AllReadyH.nil
 go_simp
 refine hK.out _ _ ?_ (fun hHeld => ?_)
 rotate_left 1
 clear hK K
 try simp only [Act.put, z1, z2, z3, z4, z5, z6]
 rotate_left 1
 ·exact hS.out _ (hBd.alloc _)
 refine wpAnyH_ready (rs := [23]) (by kernel_rfl) (by simp) ?_
 refine AllReadyH.cons rfl (fun K hK => ?_) AllReadyH.nil
 go_simp
 refine hK.out _ _ ?_ (fun hHeld => ?_)
 rotate_left 1
 clear hK K
 try simp only [Act.put, z1, z2, z3, z4, z5, z6]
 rotate_left 1
 ·exact hS.out _ (((Bel.refl wc).alloc _).drewN 1)
 refine wpAnyH_done (by kernel_rfl) ?_ _
 clear hS hHeld hBd
 obtain ⟨X, hX⟩ : ∃ X, wc.heap.size = X := ⟨_, rfl⟩
 have hBc : Bel wc (wc.alloc (.cells #[.int .i64 7, .int .i64 x.f1, .int .i64 x.f2, .int .i64 x.f3, .int .i64 x.f4, .int .i64 x.f5, .slice A6 x.f6.length c6] 57)).drew := ((Bel.refl wc).alloc _).drewN 1
 have hbX : (wc.alloc (.cells #[.int .i64 7, .int .i64 x.f1, .int .i64 x.f2, .int .i64 x.f3, .int .i64 x.f4, .int .i64 x.f5, .slice A6 x.f6.length c6] 57)).drew.heap[X]? = some (.cells #[.int .i64 7, .int .i64 x.f1, .int .i64 x.f2, .int .i64 x.f3, .int .i64 x.f4, .int .i64 x.f5, .slice A6 x.f6.length c6] 57 (0, 0)) := heap_new' (W := wc) hX.symm
 rw [hX]
 have h := h.step hBc
 replace hb1 := hBc.blk hb1
 generalize (wc.alloc (.cells #[.int .i64 7, .int .i64 x.f1, .int .i64 x.f2, .int .i64 x.f3, .int .i64 x.f4, .int .i64 x.f5, .slice A6 x.f6.length c6] 57)).drew = wd at hBc hbX h hb1 ⊢
 replace hX := Aside0.mk hX
 clear hBc
 obtain ⟨u0, u1, u2, u3, hz⟩ := h.top (f := f) (r := r) hst.out hnn.out
 have q0 := hz (nn * 4 + 3)
 clear u0 u1 u2 hz
 go_upto_region 5 with (fail)
 have hkg := KO.set g (nn * 4 + 3) wd (.int .i64 ((f.pos : Int) + 1))
 have hbg := h.neG hb1 (by decide)
 have hXg := h.neG hbX (by decide)
 replace hb1 := hkg.blk hb1 hbg
 replace hbX := hkg.blk hbX hXg
 have h := h.setPos (f := f) (r := r) hst.out hnn.out (f.pos + 1)
 rw [show (((f.pos + 1 : Nat) : Int)) = (f.pos : Int) + 1 by omega] at h
 clear hkg q0 u3
 generalize wd.setCell ⟨g, nn * 4 + 3, none⟩ (.int .i64 ((f.pos : Int) + 1)) = we at hb1 hbX h ⊢
 obtain ⟨u1, hfz, x0, x4, x5, x6, hvs⟩ := rpost (s := s) (f := f) (r := r) h hnn.out hbX
 rw [hx.out] at hstep
 replace hstep := Aside0.mk hstep
 have hvl := Aside0.mk hT.out.vars
 have hdd := hi.out.d (by rw [hop.out]; decide)
 obtain ⟨kd, hkd⟩ : ∃ k : Nat, x.f1 = (k : Int) := ⟨x.f1.toNat, by omega⟩
 have lkd : kd < f.vars.length := by have := hvl.out; omega
 have lkd' : (kd : Int) < (f.vars.length : Int) := by omega
 have x1 : we.cell? ⟨X, 1, none⟩ = some (.int .i64 kd) := by rw [← hkd]; exact blk_cell hbX 1
 have hkt : x.f1.toNat = kd := by omega
 clear hdd
 replace hkd := Aside0.mk hkd
 replace hkt := Aside0.mk hkt
 skip
 skip
 go_upto_region 20 with (fail)
 skip
 obtain ⟨y0, y1, y2⟩ := ValsAt.at_ hvs kd lkd
 have w0' := blk_frozen hvs (kd * 3)
 have w1' := blk_frozen hvs (kd * 3 + 1)
 have w2' := blk_frozen hvs (kd * 3 + 2)
 go_wp2
 go_end0
 have h := h.setV (f := { f with pos := f.pos + 1 }) (r := r) rfl (vs := f.vars.set kd ⟨0, 0, 0⟩) (by simp) (KO.set3 vb _ _ _ _ _ _ _) (ValsAt.put hvs kd lkd ⟨0, 0, 0⟩)
 refine .of h ?_
 rw [hstep.out, hkt.out]
 try rw [hva.out]
 try rw [hvb.out]
 all_goals rfl
set_option maxHeartbeats 4000000 in
theorem rstep3 (hop : (insAt p f).f0 = 3) : Calls Try.prog 23 #[.pointer (some ⟨sb, 0, none⟩), .agg #[.slice PA p.f0.length pc]] W (RStepIs w0 sb (stepL p s)) := by
 have hstep := stepL_some (p := p) hG.stack (v := ⟨wr64 ((varAt f.vars (insAt p f).f2).f0 + (varAt f.vars (insAt p f).f3).f0), 0, 0⟩) (by simp [reckonL, hop])
 obtain ⟨g, sc, vb, nn, b1, c4, d4, c6, cl, bl, pl, fs, adp, ad4, ad5, A6, x, rfl, rfl, rfl, hn60, e7, e1, l1, h, hB0, hb1, hY, hR6, lpos, lblk, lfn, ep, hpb, hi, hfi, hlen, hnn, hst, hx, hpl', hb1n, hT⟩ := rpre w0 p sb W s fs os sv ev hv PA pc hP h hp f r hG hs4
 rw [hx.out] at hop
 rw [hop] at hY
 replace hY := Aside0.mk hY
 rw [hpl'.out]
 replace hop := Aside0.mk hop
 replace hG := Aside0.mk hG
 go_enter Try.func23, Try.ntmps23
 go_upto_region 1 with (fail)
 rw [hb1n.out]
 have h := h.step hB0
 generalize W.alloc (.cells #[.slice (some adp) pl pc] 24) = wa at hB0 hb1 h ⊢
 have hm := h.blk
 have q0 := blk_frozen hm 6
 have q1 : wa.cell? ⟨sb, 6, none⟩ = some (.int .i64 s.steps) := blk_cell hm 6
 go_upto_region 2 with (fail)
 have hKs := KO.set sb 6 wa (.int .i64 ((s.steps : Int) + 1))
 have h := h.setS (s1 := { s with steps := s.steps + 1 }) hKs rfl rfl rfl ((blk_set hm 6 _).trans rfl)
 have hsb1 : b1 ≠ sb := two_types hb1 hm (by decide)
 replace hb1 := hKs.blk hb1 hsb1
 clear q0 q1 hm hKs hB0
 generalize wa.setCell ⟨sb, 6, none⟩ (.int .i64 ((s.steps : Int) + 1)) = wb at hb1 h ⊢
 have z0 : wb.cell? ⟨sb, 0, none⟩ = some (.slice (some ⟨g, 0, none⟩) (nn + 1) sc) := blk_cell h.blk 0
 go_quiet (fail)
 clear z0
 have hBn : Bel wb (wb.drewN nq) := (Bel.refl wb).drewN nq
 have h := h.step hBn
 replace hb1 := hBn.blk hb1
 generalize wb.drewN nq = wc at h hb1 ⊢
 clear hBn
 go_upto_region 3 with (fail)
 obtain ⟨u0, u1, u2, u3, -⟩ := h.top (f := f) (r := r) hst.out hnn.out
 have ub : wc.cell? ⟨b1, 0, none⟩ = some (.slice (some adp) pl pc) := blk_cell hb1 0
 have hS := Aside0.mk (fun (X : World) (q : Bel wc X) => hY.out wc X h.bel q ub u0 u2 u3)
 have hBd : Bel wc wc.drew := (Bel.refl wc).drewN 1
 clear u0 u1 u2 u3 ub hY
 refine wp_region_held_drew (S := SR b1 g nn f adp pl pc ad4 ad5 A6 bl c4 cl d4 c6 3 x) (by kernel_rfl) (hS.out _ hBd) (fun hHeld => ?_)
 refine takeH [0, 1, 2, 3, 4, 5, 6, 7, 8, 9, 10, 11, 12, 13, 14, 15, 16, 17, 18, 19, 20, 21] (by kernel_rfl) (by kernel_rfl) hHeld ?_
 iterate 22 (refine takeI (v := ?_) rfl rfl (fun _ _ _ h => h) (Or.inl ⟨by kernel_rfl, ?_⟩) ?_; rotate_left 1; focus (intro w hSw; (try dsimp only at hSw); go_simp; (try with_reducible rfl); done); try simp only [Act.put, z1, z2, z3, z4, z5, z6])
 refine takeE ?_
 try dsimp only
 refine wpAnyH_ready (rs := [22]) (by kernel_rfl) (by simp) ?_
 refine AllReadyH.cons rfl (fun K hK => ?_) AllReadyH.nil
 go_simp
 refine hK.out _ _ ?_ (fun hHeld => ?_)
 rotate_left 1
 clear hK K
 try simp only [Act.put, z1, z2, z3, z4, z5, z6]
 rotate_left 1
 ·exact hS.out _ (hBd.alloc _)
 refine wpAnyH_ready (rs := [23]) (by kernel_rfl) (by simp) ?_
 refine AllReadyH.cons rfl (fun K hK => ?_) AllReadyH.nil
 go_simp
 refine hK.out _ _ ?_ (fun hHeld => ?_)
 rotate_left 1
 clear hK K
 try simp only [Act.put, z1, z2, z3, z4, z5, z6]
 rotate_left 1
 ·exact hS.out _ (((Bel.refl wc).alloc _).drewN 1)
 refine wpAnyH_done (by kernel_rfl) ?_ _
 clear hS hHeld hBd
 obtain ⟨X, hX⟩ : ∃ X, wc.heap.size = X := ⟨_, rfl⟩
 have hBc : Bel wc (wc.alloc (.cells #[.int .i64 3, .int .i64 x.f1, .int .i64 x.f2, .int .i64 x.f3, .int .i64 x.f4, .int .i64 x.f5, .slice A6 x.f6.length c6] 57)).drew := ((Bel.refl wc).alloc _).drewN 1
 have hbX : (wc.alloc (.cells #[.int .i64 3, .int .i64 x.f1, .int .i64 x.f2, .int .i64 x.f3, .int .i64 x.f4, .int .i64 x.f5, .slice A6 x.f6.length c6] 57)).drew.heap[X]? = some (.cells #[.int .i64 3, .int .i64 x.f1, .int .i64 x.f2, .int .i64 x.f3, .int .i64 x.f4, .int .i64 x.f5, .slice A6 x.f6.length c6] 57 (0, 0)) := heap_new' (W := wc) hX.symm
 rw [hX]
 have h := h.step hBc
 replace hb1 := hBc.blk hb1
 generalize (wc.alloc (.cells #[.int .i64 3, .int .i64 x.f1, .int .i64 x.f2, .int .i64 x.f3, .int .i64 x.f4, .int .i64 x.f5, .slice A6 x.f6.length c6] 57)).drew = wd at hBc hbX h hb1 ⊢
 replace hX := Aside0.mk hX
 clear hBc
 obtain ⟨u0, u1, u2, u3, hz⟩ := h.top (f := f) (r := r) hst.out hnn.out
 have q0 := hz (nn * 4 + 3)
 clear u0 u1 u2 hz
 go_upto_region 5 with (fail)
 have hkg := KO.set g (nn * 4 + 3) wd (.int .i64 ((f.pos : Int) + 1))
 have hbg := h.neG hb1 (by decide)
 have hXg := h.neG hbX (by decide)
 replace hb1 := hkg.blk hb1 hbg
 replace hbX := hkg.blk hbX hXg
 have h := h.setPos (f := f) (r := r) hst.out hnn.out (f.pos + 1)
 rw [show (((f.pos + 1 : Nat) : Int)) = (f.pos : Int) + 1 by omega] at h
 clear hkg q0 u3
 generalize wd.setCell ⟨g, nn * 4 + 3, none⟩ (.int .i64 ((f.pos : Int) + 1)) = we at hb1 hbX h ⊢
 obtain ⟨u1, hfz, x0, x4, x5, x6, hvs⟩ := rpost (s := s) (f := f) (r := r) h hnn.out hbX
 rw [hx.out] at hstep
 replace hstep := Aside0.mk hstep
 have hvl := Aside0.mk hT.out.vars
 have hdd := hi.out.d (by rw [hop.out]; decide)
 obtain ⟨kd, hkd⟩ : ∃ k : Nat, x.f1 = (k : Int) := ⟨x.f1.toNat, by omega⟩
 have lkd : kd < f.vars.length := by have := hvl.out; omega
 have lkd' : (kd : Int) < (f.vars.length : Int) := by omega
 have x1 : we.cell? ⟨X, 1, none⟩ = some (.int .i64 kd) := by rw [← hkd]; exact blk_cell hbX 1
 have hkt : x.f1.toNat = kd := by omega
 clear hdd
 replace hkd := Aside0.mk hkd
 replace hkt := Aside0.mk hkt
 have hda := hi.out.a (by rw [hop.out]; decide)
 obtain ⟨ka, hka⟩ : ∃ k : Nat, x.f2 = (k : Int) := ⟨x.f2.toNat, by omega⟩
 have lka : ka < f.vars.length := by have := hT.out.vars; omega
 have lka' : (ka : Int) < (f.vars.length : Int) := by omega
 have x2 : we.cell? ⟨X, 2, none⟩ = some (.int .i64 ka) := by rw [← hka]; exact blk_cell hbX 2
 obtain ⟨va, hva⟩ : ∃ v, varAt f.vars x.f2 = v := ⟨_, rfl⟩
 obtain ⟨a0, a1, a2⟩ := vals_at hvs ka lka
 rw [← hka, hva] at a0 a1 a2
 clear hda
 replace hka := Aside0.mk hka
 replace hva := Aside0.mk hva
 have hdb := hi.out.b (by rw [hop.out]; decide)
 obtain ⟨kb, hkb⟩ : ∃ k : Nat, x.f3 = (k : Int) := ⟨x.f3.toNat, by omega⟩
 have lkb : kb < f.vars.length := by have := hT.out.vars; omega
 have lkb' : (kb : Int) < (f.vars.length : Int) := by omega
 have x3 : we.cell? ⟨X, 3, none⟩ = some (.int .i64 kb) := by rw [← hkb]; exact blk_cell hbX 3
 obtain ⟨vb', hvb⟩ : ∃ v, varAt f.vars x.f3 = v := ⟨_, rfl⟩
 obtain ⟨z0, z1, z2⟩ := vals_at hvs kb lkb
 rw [← hkb, hvb] at z0 z1 z2
 clear hdb
 replace hkb := Aside0.mk hkb
 replace hvb := Aside0.mk hvb
 go_upto_region 12 with (fail)
 go_still_tail 18, (by kernel_rfl)
 have hBd : Bel we we.drew := (Bel.refl we).drewN 1
 have h := h.step hBd
 replace hvs : ValsAt we.drew vb f.vars := hBd.blk hvs
 change wpList _ _ _ _ _ we.drew
 generalize we.drew = we at h hvs ⊢
 obtain ⟨y0, y1, y2⟩ := ValsAt.at_ hvs kd lkd
 have w0' := blk_frozen hvs (kd * 3)
 have w1' := blk_frozen hvs (kd * 3 + 1)
 have w2' := blk_frozen hvs (kd * 3 + 2)
 go_wp2
 go_end0
 have h := h.setV (f := { f with pos := f.pos + 1 }) (r := r) rfl (vs := f.vars.set kd ⟨wr64 (va.f0 + vb'.f0), 0, 0⟩) (by simp) (KO.set3 vb _ _ _ _ _ _ _) (ValsAt.put hvs kd lkd ⟨wr64 (va.f0 + vb'.f0), 0, 0⟩)
 refine .of h ?_
 rw [hstep.out, hkt.out]
 try rw [hva.out]
 try rw [hvb.out]
 all_goals rfl
end
end Go.Proofs.Ytodjpbidjldblaa.H
