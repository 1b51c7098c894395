/- Texts joined. Conditions: each stands with its theorem. -/
import Derived.Test.YtodjpbidjldblaaX00
import Derived.Test.YtodjpbidjldblaaZ01
import Derived.Test.YtodjpbidjldblaaX12
import Derived.StillTailTactics
import Derived.Test.YtodjpbidjldblaaZ00
import Derived.Test.YtodjpbidjldblaaZ02
import Derived.Test.YtodjpbidjldblaaZ03
import Derived.Test.YtodjpbidjldblaaZ04
import Derived.Test.YtodjpbidjldblaaZ05
import Derived.Test.YtodjpbidjldblaaX14
namespace Go.Proofs.Ytodjpbidjldblaa.H
open Go.RowKit Go.Proofs.YtodjpbidjldblaaW.PrintWords Go.Proofs.YtodjpbidjldblaaW.PrintLast
set_option linter.unusedVariables false
set_option linter.unusedSimpArgs false
set_option linter.unusedSectionVars false
set_option maxRecDepth 100000
section
variable (w0 : World) (p : SProg) (sb : Nat) (W : World) (s : VSt) (fs : List Nat) (os : List (Nat × Nat)) (sv ev hv : Value) (PA : Option Addr) (pc : Nat) (hP : Rd kFunc w0 PA p.f0) (h : RM w0 sb W s fs os sv ev hv) (hp : Aside0 (ProgP p)) (hr : Aside0 (RunP p s)) (f : VFr) (r : List VFr) (hG : GoP p s f r) (hs4 : s.steps ≤ 4000)
include hP h hp hr hG hs4
set_option maxHeartbeats 40000000 in
theorem rstep19 (hop : (insAt p f).f0 = 19) : Calls Try.prog 23 #[.pointer (some ⟨sb, 0, none⟩), .agg #[.slice PA p.f0.length pc]] W (RStepIs w0 sb (stepL p s)) := by
 have hstep := stepL_lead (p := p) hG.stack (by simp [reckonL, hop]) (by simp [touchL, hop])
 obtain ⟨g, sc, vb, nn, b1, c4, d4, c6, cl, bl, pl, fs, adp, ad4, ad5, A6, x, rfl, rfl, rfl, hn60, e7, e1, l1, h, hB0, hb1, hY, hR6, lpos, lblk, lfn, ep, hpb, hi, hfi, hlen, hnn, hst, hx, hpl', hb1n, hT⟩ := rpre w0 p sb W s fs os sv ev hv PA pc hP h hp f r hG hs4
 rw [hx.out] at hop
 rw [hop] at hY
 replace hY := Aside0.mk hY
 rw [hpl'.out]
 replace hop := Aside0.mk hop
 replace hG := Aside0.mk hG
 go_enter Try.func23, Try.ntmps23
 go_upto_region 1 with (fail)
 rw [hb1n.out]
 have h := h.step hB0
 generalize W.alloc (.cells #[.slice (some adp) pl pc] 24) = wa at hB0 hb1 h ⊢
 have hm := h.blk
 have q0 := blk_frozen hm 6
 have q1 : wa.cell? ⟨sb, 6, none⟩ = some (.int .i64 s.steps) := blk_cell hm 6
 go_upto_region 2 with (fail)
 have hKs := KO.set sb 6 wa (.int .i64 ((s.steps : Int) + 1))
 have h := h.setS (s1 := { s with steps := s.steps + 1 }) hKs rfl rfl rfl ((blk_set hm 6 _).trans rfl)
 have hsb1 : b1 ≠ sb := two_types hb1 hm (by decide)
 replace hb1 := hKs.blk hb1 hsb1
 clear q0 q1 hm hKs hB0
 generalize wa.setCell ⟨sb, 6, none⟩ (.int .i64 ((s.steps : Int) + 1)) = wb at hb1 h ⊢
 have z0 : wb.cell? ⟨sb, 0, none⟩ = some (.slice (some ⟨g, 0, none⟩) (nn + 1) sc) := blk_cell h.blk 0
 go_quiet (fail)
 clear z0
 have hBn : Bel wb (wb.drewN nq) := (Bel.refl wb).drewN nq
 have h := h.step hBn
 replace hb1 := hBn.blk hb1
 generalize wb.drewN nq = wc at h hb1 ⊢
 clear hBn
 go_upto_region 3 with (fail)
 obtain ⟨u0, u1, u2, u3, -⟩ := h.top (f := f) (r := r) hst.out hnn.out
 have ub : wc.cell? ⟨b1, 0, none⟩ = some (.slice (some adp) pl pc) := blk_cell hb1 0
 have hS := Aside0.mk (fun (X : World) (q : Bel wc X) => hY.out wc X h.bel q ub u0 u2 u3)
 have hBd : Bel wc wc.drew := (Bel.refl wc).drewN 1
 clear u0 u1 u2 u3 ub hY
 refine wp_region_held_drew (S := SR b1 g nn f adp pl pc ad4 ad5 A6 bl c4 cl d4 c6 19 x) (by kernel_rfl) (hS.out _ hBd) (fun hHeld => ?_)
 refine takeH [0, 1, 2, 3, 4, 5, 6, 7, 8, 9, 10, 11, 12, 13, 14, 15, 16, 17, 18, 19, 20, 21] (by kernel_rfl) (by kernel_rfl) hHeld ?_
 iterate 22 (refine takeI (v := ?_) rfl rfl (fun _ _ _ h => h) (Or.inl ⟨by kernel_rfl, ?_⟩) ?_; rotate_left 1; focus (intro w hSw; (try dsimp only at hSw); go_simp; (try with_reducible rfl); done); try simp only [Act.put, z1, z2, z3, z4, z5, z6])
 refine takeE ?_
 try dsimp only
 refine wpAnyH_ready (rs := [22]) (by kernel_rfl) (by simp) ?_
 refine AllReadyH.cons rfl (fun K hK => ?_) AllReadyH.nil
 go_simp
 refine hK.out _ _ ?_ (fun hHeld => ?_)
 rotate_left 1
 clear hK K
 try simp only [Act.put, z1, z2, z3, z4, z5, z6]
 rotate_left 1
 ·exact hS.out _ (hBd.alloc _)
 refine wpAnyH_ready (rs := [23]) (by kernel_rfl) (by simp) ?_
 refine AllReadyH.cons rfl (fun K hK => ?_) AllReadyH.nil
 go_simp
 refine hK.out _ _ ?_ (fun hHeld => ?_)
 rotate_left 1
 clear hK K
 try simp only [Act.put, z1, z2, z3, z4, z5, z6]
 rotate_left 1
 ·exact hS.out _ (((Bel.refl wc).alloc _).drewN 1)
 refine wpAnyH_done (by kernel_rfl) ?_ _
 clear hS hHeld hBd
 obtain ⟨X, hX⟩ : ∃ X, wc.heap.size = X := ⟨_, rfl⟩
 have hBc : Bel wc (wc.alloc (.cells #[.int .i64 19, .int .i64 x.f1, .int .i64 x.f2, .int .i64 x.f3, .int .i64 x.f4, .int .i64 x.f5, .slice A6 x.f6.length c6] 57)).drew := ((Bel.refl wc).alloc _).drewN 1
 have hbX : (wc.alloc (.cells #[.int .i64 19, .int .i64 x.f1, .int .i64 x.f2, .int .i64 x.f3, .int .i64 x.f4, .int .i64 x.f5, .slice A6 x.f6.length c6] 57)).drew.heap[X]? = some (.cells #[.int .i64 19, .int .i64 x.f1, .int .i64 x.f2, .int .i64 x.f3, .int .i64 x.f4, .int .i64 x.f5, .slice A6 x.f6.length c6] 57 (0, 0)) := heap_new' (W := wc) hX.symm
 rw [hX]
 have h := h.step hBc
 replace hb1 := hBc.blk hb1
 generalize (wc.alloc (.cells #[.int .i64 19, .int .i64 x.f1, .int .i64 x.f2, .int .i64 x.f3, .int .i64 x.f4, .int .i64 x.f5, .slice A6 x.f6.length c6] 57)).drew = wd at hBc hbX h hb1 ⊢
 replace hX := Aside0.mk hX
 clear hBc
 obtain ⟨u0, u1, u2, u3, hz⟩ := h.top (f := f) (r := r) hst.out hnn.out
 have q0 := hz (nn * 4 + 3)
 clear u0 u1 u2 hz
 go_upto_region 5 with (fail)
 have hkg := KO.set g (nn * 4 + 3) wd (.int .i64 ((f.pos : Int) + 1))
 have hbg := h.neG hb1 (by decide)
 have hXg := h.neG hbX (by decide)
 replace hb1 := hkg.blk hb1 hbg
 replace hbX := hkg.blk hbX hXg
 have h := h.setPos (f := f) (r := r) hst.out hnn.out (f.pos + 1)
 rw [show (((f.pos + 1 : Nat) : Int)) = (f.pos : Int) + 1 by omega] at h
 clear hkg q0 u3
 generalize wd.setCell ⟨g, nn * 4 + 3, none⟩ (.int .i64 ((f.pos : Int) + 1)) = we at hb1 hbX h ⊢
 obtain ⟨u1, hfz, x0, x4, x5, x6, hvs⟩ := rpost (s := s) (f := f) (r := r) h hnn.out hbX
 rw [hx.out] at hstep
 have hcl := hi.out.call hop.out
 have hargs := Aside0.mk (hi.out.l (by rw [hop.out]; decide))
 obtain ⟨kn, hkn⟩ : ∃ k : Nat, x.f4 = (k : Int) := ⟨x.f4.toNat, by omega⟩
 have hkt : x.f4.toNat = kn := by omega
 have hvl := Aside0.mk hT.out.vars
 by_cases hdeep : 60 ≤ nn + 1
 ·have hstep2 : stepL p s = { s with stack := { f with pos := f.pos + 1 } :: r, steps := s.steps + 1, fin := 2, code := 18 } := by
   rw [hstep]
   unfold leadL
   rw [if_pos hop.out, if_pos (by rw [hnn.out]; exact hdeep)]
  replace hstep2 := Aside0.mk hstep2
  clear hstep
  have z0 : we.cell? ⟨sb, 0, none⟩ = some (.slice (some ⟨g, 0, none⟩) (nn + 1) sc) := blk_cell h.blk 0
  have b9 : (60 : Int) ≤ (nn : Int) + 1 := by omega
  have ht := Aside0.mk (rtrap_any h 18)
  replace hkn := Aside0.mk hkn
  replace hkt := Aside0.mk hkt
  clear hcl
  replace hdeep := Aside0.mk hdeep
  go_wp2_with (go_at_call 40; ((with_reducible refine ht.out.mono ?_); rintro e w2 ⟨rfl, hz⟩))
  refine bodyPost_ret (v := .tuple #[]) (by simp [results, Try.results23, go_sem]) rfl ?_
  refine .of hz ?_
  rw [hstep2.out]
 ·have hstep2 : stepL p s = { s with stack := beginL p kn (x.f6.map (varAt f.vars)) :: { f with pos := f.pos + 1, want := x.f1.toNat } :: r, steps := s.steps + 1 } := by
   rw [hstep]
   unfold leadL
   rw [if_pos hop.out, if_neg (by rw [hnn.out]; exact hdeep), hkt]
  replace hstep2 := Aside0.mk hstep2
  clear hstep
  have z0 : we.cell? ⟨sb, 0, none⟩ = some (.slice (some ⟨g, 0, none⟩) (nn + 1) sc) := blk_cell h.blk 0
  have b9 : decide ((60 : Int) ≤ (nn : Int) + 1) = false := decide_eq_false (by omega)
  have hknp : kn < p.f0.length := by omega
  have hal : x.f6.length ≤ (fnAt p kn).f0.length := by
   have h1 := hcl.2
   rw [hkt] at h1
   have h2 := (hp.out.func kn hknp).par
   omega
  have h48 := (hp.out.func kn hknp).vars
  rw [hkn] at x4
  replace hkn := Aside0.mk hkn
  replace hkt := Aside0.mk hkt
  obtain ⟨al, hale⟩ : ∃ al, x.f6.length = al := ⟨_, rfl⟩
  rw [hale] at x6
  have hal48 : al ≤ 48 := by omega
  replace hale := Aside0.mk hale
  clear hcl hfz
  replace hdeep := Aside0.mk hdeep
  go_wp2
  clear x0 x5 u1
  go_loopw [21, 22] (fun v i W => ∃ k : Nat, k ≤ al ∧ i = .int .i64 k ∧ Own kVal 89 we W v ((x.f6.take k).map (varAt f.vars)) ∧ Bel we W) (fun _ i _ => al - (intOf i).toNat)
  case atStart => exact ⟨0, by omega, rfl, Own.nil _ _ _ _, Bel.refl _⟩
  case round =>
   obtain ⟨k, hk, rfl, hO, hBr⟩ := hrel
   by_cases hlt : k < al
   ·have hlt1 : (k : Int) < (al : Int) := by omega
    have hlt2 : k < x.f6.length := by rw [hale.out]; exact hlt
    obtain ⟨ad, hA6, hcell⟩ := rd_atN (hR6.step (h.bel.trans hBr)) k hlt2
    subst hA6
    have hv1 := hargs.out x.f6[k] (List.getElem_mem hlt2)
    have hrd : rd x.f6 (k : Int) = x.f6[k] := by simp [rd, List.getD_eq_getElem?_getD, List.getElem?_eq_getElem hlt2]
    obtain ⟨ka, hka⟩ : ∃ ka : Nat, x.f6[k] = (ka : Int) := ⟨x.f6[k].toNat, by omega⟩
    rw [hrd, hka] at hcell
    have hkv : ka < f.vars.length := by have := hvl.out; omega
    have hkl : (ka : Int) < (f.vars.length : Int) := by omega
    have hsn : (x.f6.take (k + 1)).map (varAt f.vars) = (x.f6.take k).map (varAt f.vars) ++ [varAt f.vars (ka : Int)] := by rw [take_snocL x.f6 k hlt2, List.map_append, hka]; rfl
    obtain ⟨y0, y1, y2⟩ := vals_at (hBr.blk hvs) ka hkv
    have z8 : wr.cell? ⟨X, 6, none⟩ = some (.slice (some ad) al c6) := Bel.cell hBr x6
    obtain ⟨v, hv0⟩ : ∃ v, varAt f.vars (ka : Int) = v := ⟨_, rfl⟩
    rw [hv0] at y0 y1 y2 hsn
    obtain ⟨l1, hl1⟩ : ∃ l1, (x.f6.take k).map (varAt f.vars) = l1 := ⟨_, rfl⟩
    have hln : l1.length ≤ 1000000 := by rw [← hl1]; simp; omega
    rw [hl1] at hO hsn
    replace hsn := Aside0.mk hsn
    replace hka := Aside0.mk hka
    replace hv1 := Aside0.mk hv1
    clear hrd hl1
    obtain ⟨A8, c8, rfl, _, _⟩ := hO.reads
    go_wp2_with (refine app_val v hO hBr rfl _ _ rfl hln rfl rfl ?_; intro v1 w2 ho2 hB2)
    go_roundw
    case rel => exact ⟨k + 1, by omega, by go_num, by rw [hsn.out]; exact ho2, hB2⟩
    case measure => simp [intOf]; omega
   ·obtain rfl : k = al := by omega
    have hlt1 : ¬ (k : Int) < (k : Int) := by omega
    have ez : (x.f6.take k).map (varAt f.vars) = x.f6.map (varAt f.vars) := by rw [List.take_of_length_le (by rw [hale.out]; exact Nat.le_refl _)]
    rw [ez] at hO
    clear ez
    have z8 : wr.cell? ⟨X, 6, none⟩ = some (.slice A6 k c6) := Bel.cell hBr x6
    obtain ⟨args, hag⟩ : ∃ a, x.f6.map (varAt f.vars) = a := ⟨_, rfl⟩
    have hag2 : args.length = k := by rw [← hag]; simp [hale.out]
    rw [hag] at hO
    replace hag := Aside0.mk hag
    obtain ⟨A8, c8, rfl, _, hR8⟩ := hO.reads
    have hal3 : args.length ≤ (fnAt p kn).f0.length := by rw [hag2, ← hale.out]; exact hal
    have hp100 : p.f0.length ≤ 100 := by rw [hpl'.out]; omega
    have hbn := Aside0.mk (fun (Y : World) (q : Bel wr Y) => begin_any p Y (some adp) pc (hP.step ((h.bel.trans hBr).trans q)) kn hknp hp100 args A8 c8 (hR8.step q) hal3 h48)
    obtain ⟨nv, hnv⟩ : ∃ nv, (fnAt p kn).f0.length = nv := ⟨_, rfl⟩
    have hbl : (beginL p kn args).vars.length = nv := by rw [← hnv]; unfold beginL; simp; omega
    simp only [hpl'.out, hnv, hag2] at hbn
    rw [hag2] at hO ⊢
    replace hnv := Aside0.mk hnv
    replace hbl := Aside0.mk hbl
    replace hag2 := Aside0.mk hag2
    have h := (h.want (f := { f with pos := f.pos + 1 }) (r := r) rfl x.f1.toNat).step hBr
    have hBd : Bel wr wr.drew := (Bel.refl wr).drewN 1
    have hS := Aside0.mk (fun (Y : World) (q : Bel wr Y) => And.intro (Bel.cell q (show wr.cell? ⟨sb, 0, none⟩ = some (.slice (some ⟨g, 0, none⟩) (nn + 1) sc) from blk_cell h.blk 0)) (And.intro (Bel.cell q (show wr.cell? ⟨b1, 0, none⟩ = some (.slice (some adp) pl pc) from blk_cell (hBr.blk hb1) 0)) (Bel.cell (hBr.trans q) x4)))
    clear hal48 hal hal3 hp100
    go_upto_region 66 with (fail)
    clear z8 x4 x6 z0
    refine wp_region_last_drew (S := fun w' => w'.cell? ⟨sb, 0, none⟩ = some (.slice (some ⟨g, 0, none⟩) (nn + 1) sc) ∧ w'.cell? ⟨b1, 0, none⟩ = some (.slice (some adp) pl pc) ∧ w'.cell? ⟨X, 4, none⟩ = some (.int .i64 kn)) (ds := [11, 14]) (by kernel_rfl) (hS.out _ hBd) (fun hHeld => ?_)
    refine wpAnyLast_any (i := 0) (v := ?_) rfl (Region.noSelect_spec (by kernel_rfl)) (fun _ _ _ h => h) _ _ _ _ (Region.free_spec rfl (by kernel_rfl)) (mem_of_contains (by kernel_rfl)) (Or.inl ⟨by kernel_rfl, ?_⟩) ?_
    rotate_left 1
    focus (intro w; go_simp; (try with_reducible rfl); done)
    try simp only [Act.put, z1, z2, z3, z4, z5, z6]
    refine takeL [1, 2, 3, 4, 5, 6, 7, 8] (by kernel_rfl) (by kernel_rfl) hHeld ?_
    iterate 8 (refine takeI (v := ?_) rfl rfl (fun _ _ _ h => h) (Or.inl ⟨by kernel_rfl, ?_⟩) ?_; rotate_left 1; focus (intro w hSw; (try dsimp only at hSw); go_simp; (try with_reducible rfl); done); try simp only [Act.put, z1, z2, z3, z4, z5, z6])
    refine takeE ?_
    try dsimp only
    refine wpAnyLast_ready (rs := [9]) (by kernel_rfl) (by simp) ?_
    refine AllReadyL.cons rfl (by decide) (fun K hK => ?_) AllReadyL.nil
    go_simp
    (go_at_call 22; refine (hbn.out _ hBd).mono ?_; rintro ex w2 ⟨vb', rfl, hv2, hge, hB2⟩)
    replace hB2 := hBd.trans hB2
    refine hK.out _ _ ?_ (fun hHeld => ?_)
    rotate_left 1
    clear hK K
    try simp only [Act.put, z1, z2, z3, z4, z5, z6]
    rotate_left 1
    ·exact hS.out _ hB2
    replace hv2 := Aside0.mk hv2
    refine wpAnyLast_ready (rs := [10]) (by kernel_rfl) (by simp) ?_
    refine AllReadyL.cons rfl (by decide) (fun K hK => ?_) AllReadyL.nil
    go_simp
    refine hK.out _ _ ?_ (fun hHeld => ?_)
    rotate_left 1
    clear hK K
    try simp only [Act.put, z1, z2, z3, z4, z5, z6]
    rotate_left 1
    ·exact hS.out _ (hB2.alloc _)
    have hz := h.step hB2
    have h8 : w2.ownsRow w0.heap.size 62 4 (.slice (some ⟨g, 0, none⟩) (nn + 1) sc) ({ f with pos := f.pos + 1, want := x.f1.toNat } :: r).length (rfCells ({ f with pos := f.pos + 1, want := x.f1.toNat } :: r) (vb :: fs)) := hz.stack.out
    rw [List.length_cons, hnn.out] at h8
    have hne := Aside0.mk (own_neT h8 hz.blk (by decide))
    refine wpAnyLast_ready (rs := [11]) (by kernel_rfl) (by simp) ?_
    refine AllReadyL.cons_last rfl (by decide) (fun K hK => ?_) AllReadyL.nil
    refine step_append_cells (w0 := w0) (W := w2) w0.heap.size rfl _ _ 27 62 (.agg #[.int .i64 0, .slice none 0 0, .int .i64 0, .int .i64 0]) 4 48 rfl Try.underlying27 (by kernel_rfl) rfl (by decide) (by decide) (.slice (some ⟨g, 0, none⟩) (nn + 1) sc) (nn + 1) _ [.int .i64 kn, .slice (some ⟨vb', 0, none⟩) nv nv, .int .i64 0, .int .i64 0] rfl rfl rfl (by simp [Value.oneCell']) h8 hz.bel.out hz.bel.size (by omega) ?_
    intro v1 w3 ho2 _ hg2 hat2
    obtain ⟨A9, c9, rfl⟩ := own_slice ho2
    have hm1 := (hg2.block sb (blk_lt hz.blk) (fun e => hne.out sb e.symm rfl)).trans hz.blk
    have q0 := blk_frozen hm1 0
    have q1 : w3.cell? ⟨sb, 0, none⟩ = some (.slice (some ⟨g, 0, none⟩) (nn + 1) sc) := blk_cell hm1 0
    replace hg2 := Aside0.mk hg2
    replace ho2 := Aside0.mk ho2
    replace hm1 := Aside0.mk hm1
    replace h8 := Aside0.mk h8
    clear hz hHeld hat2
    refine hK.out _ _ ?_
    clear hK K
    try simp only [Act.put, z1, z2, z3, z4, z5, z6]
    refine wpAnyLast_any (i := 12) (v := ?_) rfl (Region.noSelect_spec (by kernel_rfl)) (fun _ _ _ h => h) _ _ _ _ (Region.free_spec rfl (by kernel_rfl)) (mem_of_contains (by kernel_rfl)) (Or.inl ⟨by kernel_rfl, ?_⟩) ?_
    rotate_left 1
    focus (intro w; go_simp; (try with_reducible rfl); done)
    try simp only [Act.put, z1, z2, z3, z4, z5, z6]
    refine wpAnyLast_any (i := 13) (v := ?_) rfl (Region.noSelect_spec (by kernel_rfl)) (fun _ _ _ h => h) _ _ _ _ (Region.free_spec rfl (by kernel_rfl)) (mem_of_contains (by kernel_rfl)) (Or.inl ⟨by kernel_rfl, ?_⟩) ?_
    rotate_left 1
    focus (intro w; go_simp; (try with_reducible rfl); done)
    try simp only [Act.put, z1, z2, z3, z4, z5, z6]
    refine wpAnyLast_ready (rs := [14]) (by kernel_rfl) (by simp) ?_
    refine AllReadyL.cons_last rfl (by decide) (fun K hK => ?_) AllReadyL.nil
    go_simp
    refine hK.out _ _ ?_
    clear hK K
    try simp only [Act.put, z1, z2, z3, z4, z5, z6]
    refine wpAnyLast_done (by kernel_rfl) ?_ _
    go_wp2
    go_end0
    have hq := h.push (f := beginL p kn args) (vb := vb') hB2 hv2.out hge (by
     show w3.ownsRow _ _ _ _ (({ f with pos := f.pos + 1, want := x.f1.toNat } :: r).length + 1) _
     rw [List.length_cons, hnn.out, hbl.out]
     exact ho2.out) hg2.out (KO.set sb 0 w3 (.slice A9 (nn + 1 + 1) c9)) ((blk_set hm1.out 0 (.slice A9 (nn + 1 + 1) c9)).trans rfl)
    refine .of hq ?_
    rw [hstep2.out, hag.out]
end
end Go.Proofs.Ytodjpbidjldblaa.H
namespace Go.Proofs.Ytodjpbidjldblaa.H
open Go.RowKit Go.Proofs.YtodjpbidjldblaaW.PrintWords Go.Proofs.YtodjpbidjldblaaW.PrintLast
set_option linter.unusedVariables false
set_option linter.unusedSimpArgs false
set_option maxRecDepth 100000
theorem rstep_any (w0 : World) (p : SProg) (sb : Nat) (W : World) (s : VSt) (fs : List Nat) (os : List (Nat × Nat)) (sv ev hv : Value) (PA : Option Addr) (pc : Nat) (hP : Rd kFunc w0 PA p.f0) (h : RM w0 sb W s fs os sv ev hv) (hp : Aside0 (ProgP p)) (hr : Aside0 (RunP p s)) (h0 : s.fin = 0) (hs4 : s.steps ≤ 4000) :
  Calls Try.prog 23 #[.pointer (some ⟨sb, 0, none⟩), .agg #[.slice PA p.f0.length pc]] W (RStepIs w0 sb (stepL p s)) := by
 obtain ⟨f, r, hG⟩ := hr.out.go h0
 rcases op_cases (hG.top.ins hp.out).1.op with e | e | e | e | e | e | e | e | e | e | e | e | e | e | e | e | e | e | e | e | e | e | e
 ·exact rstep1 w0 p sb W s fs os sv ev hv PA pc hP h hp hr f r hG hs4 e
 ·exact rstep2 w0 p sb W s fs os sv ev hv PA pc hP h hp hr f r hG hs4 e
 ·exact rstep3 w0 p sb W s fs os sv ev hv PA pc hP h hp hr f r hG hs4 e
 ·exact rstep4 w0 p sb W s fs os sv ev hv PA pc hP h hp hr f r hG hs4 e
 ·exact rstep5 w0 p sb W s fs os sv ev hv PA pc hP h hp hr f r hG hs4 e
 ·exact rstep6 w0 p sb W s fs os sv ev hv PA pc hP h hp hr f r hG hs4 e
 ·exact rstep7 w0 p sb W s fs os sv ev hv PA pc hP h hp hr f r hG hs4 e
 ·exact rstep8 w0 p sb W s fs os sv ev hv PA pc hP h hp hr f r hG hs4 e
 ·exact rstep9 w0 p sb W s fs os sv ev hv PA pc hP h hp hr f r hG hs4 e
 ·exact rstep10 w0 p sb W s fs os sv ev hv PA pc hP h hp hr f r hG hs4 e
 ·exact rstep11 w0 p sb W s fs os sv ev hv PA pc hP h hp hr f r hG hs4 e
 ·exact rstep12 w0 p sb W s fs os sv ev hv PA pc hP h hp hr f r hG hs4 e
 ·exact rstep13 w0 p sb W s fs os sv ev hv PA pc hP h hp hr f r hG hs4 e
 ·exact rstep14 w0 p sb W s fs os sv ev hv PA pc hP h hp hr f r hG hs4 e
 ·exact rstep15 w0 p sb W s fs os sv ev hv PA pc hP h hp hr f r hG hs4 e
 ·exact rstep16 w0 p sb W s fs os sv ev hv PA pc hP h hp hr f r hG hs4 e
 ·exact rstep17 w0 p sb W s fs os sv ev hv PA pc hP h hp hr f r hG hs4 e
 ·exact rstep18 w0 p sb W s fs os sv ev hv PA pc hP h hp hr f r hG hs4 e
 ·exact rstep19 w0 p sb W s fs os sv ev hv PA pc hP h hp hr f r hG hs4 e
 ·exact rstep20 w0 p sb W s fs os sv ev hv PA pc hP h hp hr f r hG hs4 e
 ·exact rstep21 w0 p sb W s fs os sv ev hv PA pc hP h hp hr f r hG hs4 e
 ·exact rstep22 w0 p sb W s fs os sv ev hv PA pc hP h hp hr f r hG hs4 e
 ·exact rstep23 w0 p sb W s fs os sv ev hv PA pc hP h hp hr f r hG hs4 e
theorem RM.start {p : SProg} {W w2 : World} {vb : Nat} (hB : Bel W w2) (hv : ValsAt w2 vb (beginL p 0 []).vars) (hge : W.heap.size ≤ vb) :
  RM W (w2.heap.size + 1) ((w2.alloc (.cells #[.int .i64 0, .slice (some ⟨vb, 0, none⟩) (beginL p 0 []).vars.length (beginL p 0 []).vars.length, .int .i64 0, .int .i64 0] 62)).alloc (.cells #[.slice (some ⟨w2.heap.size, 0, none⟩) 1 1, .slice none 0 0, .slice none 0 0, .int .i64 0, .int .i64 0, .int .i64 0, .int .i64 0] 36)) (startL p) [vb] [] (.slice (some ⟨w2.heap.size, 0, none⟩) 1 1) (.slice none 0 0) (.slice none 0 0) := by
 have hs := hB.size
 have hB1 : Bel w2 (w2.alloc (.cells #[.int .i64 0, .slice (some ⟨vb, 0, none⟩) (beginL p 0 []).vars.length (beginL p 0 []).vars.length, .int .i64 0, .int .i64 0] 62)) := (Bel.refl _).alloc _
 have hB2 := hB1.trans ((Bel.refl _).alloc (.cells #[.slice (some ⟨w2.heap.size, 0, none⟩) 1 1, .slice none 0 0, .slice none 0 0, .int .i64 0, .int .i64 0, .int .i64 0, .int .i64 0] 36))
 refine ⟨hB.trans hB2, heap_new' (by simp), ⟨?_⟩, .cons (hB2.blk hv) .nil, ⟨World.ownsRow_nil _ _ _ _⟩, ⟨World.ownsRow_nil _ _ _ _⟩, .nil, by simp, by simp [fldB], (fun b hb => by simp [fldB] at hb), ⟨by omega, (fun b hb => by simp at hb; omega), (fun b hb => by simp [fldB] at hb)⟩⟩
 have h := World.ownsRow_lit (base := W.heap.size) (e := 62) (size := 4) w2 #[.int .i64 0, .slice (some ⟨vb, 0, none⟩) (beginL p 0 []).vars.length (beginL p 0 []).vars.length, .int .i64 0, .int .i64 0] 1 hs (by simp [maxLen]) rfl
 exact h.alloc _
theorem put7 {W : World} {b t : Nat} {c0 c1 c2 c3 c4 c5 c6 : Value} (hb : W.heap[b]? = some (.cells #[c0, c1, c2, c3, c4, c5, c6] t (0, 0))) (u0 u1 u2 u3 u4 u5 u6 : Value) :
  (((((((W.setCell ⟨b, 0, none⟩ u0).setCell ⟨b, 1, none⟩ u1).setCell ⟨b, 2, none⟩ u2).setCell ⟨b, 3, none⟩ u3).setCell ⟨b, 4, none⟩ u4).setCell ⟨b, 5, none⟩ u5).setCell ⟨b, 6, none⟩ u6).heap[b]? = some (.cells #[u0, u1, u2, u3, u4, u5, u6] t (0, 0)) ∧ KO b W (((((((W.setCell ⟨b, 0, none⟩ u0).setCell ⟨b, 1, none⟩ u1).setCell ⟨b, 2, none⟩ u2).setCell ⟨b, 3, none⟩ u3).setCell ⟨b, 4, none⟩ u4).setCell ⟨b, 5, none⟩ u5).setCell ⟨b, 6, none⟩ u6) := by
 have h0 : _ = some (Obj.cells #[u0, c1, c2, c3, c4, c5, c6] t (0, 0)) := blk_set hb 0 u0
 have h1 : _ = some (Obj.cells #[u0, u1, c2, c3, c4, c5, c6] t (0, 0)) := blk_set h0 1 u1
 have h2 : _ = some (Obj.cells #[u0, u1, u2, c3, c4, c5, c6] t (0, 0)) := blk_set h1 2 u2
 have h3 : _ = some (Obj.cells #[u0, u1, u2, u3, c4, c5, c6] t (0, 0)) := blk_set h2 3 u3
 have h4 : _ = some (Obj.cells #[u0, u1, u2, u3, u4, c5, c6] t (0, 0)) := blk_set h3 4 u4
 have h5 : _ = some (Obj.cells #[u0, u1, u2, u3, u4, u5, c6] t (0, 0)) := blk_set h4 5 u5
 have h6 : _ = some (Obj.cells #[u0, u1, u2, u3, u4, u5, u6] t (0, 0)) := blk_set h5 6 u6
 exact ⟨h6, ((((((KO.set b 0 W u0).trans (KO.set b 1 _ u1)).trans (KO.set b 2 _ u2)).trans (KO.set b 3 _ u3)).trans (KO.set b 4 _ u4)).trans (KO.set b 5 _ u5)).trans (KO.set b 6 _ u6)⟩
theorem fuel_lt {n : Int} {k : Nat} : k < fuelN n ↔ (k : Int) < n ∧ (k : Int) < 4000 := by
 unfold fuelN mn
 split <;> omega
theorem RM.far {w0 W W1 : World} {sb b : Nat} {s : VSt} {fs : List Nat} {os : List (Nat × Nat)} {sv ev hv : Value} (h : RM w0 sb W s fs os sv ev hv) (k : KO b W W1) (hb : b < w0.heap.size) (hl : s.evs.length ≤ 100000) (hl2 : s.heap.length ≤ 100000) (h8 : ∀ o ∈ s.heap, o.f0.length ≤ 8 ∧ o.f1.length ≤ 8) :
  ∃ EA ec HA hc, ev = .slice EA s.evs.length ec ∧ hv = .slice HA s.heap.length hc ∧ RdI W1 EA s.evs ∧ Rd kObj W1 HA s.heap := by
 have kb := k.kb
 have n1 : ∀ i, ev.ownBlock = some i → some i ≠ some b := fun i hi e => by
  have := own_base h.evs.out i hi
  injection e with e
  omega
 have n2 : ∀ i, hv.ownBlock = some i → some i ≠ some b := fun i hi e => by
  have := own_base h.objs.out i hi
  injection e with e
  omega
 obtain ⟨EA, ec, e1, r1⟩ := evs_rd (kb.own h.evs.out n1) hl
 obtain ⟨HA, hc, e2, r2⟩ := objs_rd (kb.own h.objs.out n2) (h.flds.keep (fun c hc => by
  obtain ⟨m1, m2⟩ := fldB_mem hc
  have b1 := h.base.2.2 _ m1
  have b2 := h.base.2.2 _ m2
  exact ⟨fun hl => k.keep _ hl (by omega), fun hl => k.keep _ hl (by omega)⟩)) hl2 h8
 exact ⟨EA, ec, HA, hc, e1, e2, r1, r2⟩
def GoIs (p : SProg) (w : World) (n : Int) (e : Ending) (W' : World) : Prop := ∃ SA sl sc EA ec HA hc, e = .returned (.agg #[.slice SA sl sc, .slice HA (endL p n).heap.length hc, .slice EA (endL p n).evs.length ec, .int .i64 (endL p n).fin, .int .i64 (endL p n).val, .int .i64 (endL p n).code, .int .i64 (endL p n).steps]) ∧ RdI W' EA (endL p n).evs ∧ Rd kObj W' HA (endL p n).heap ∧ Bel w W'
def stepsR (sb : Nat) (W : World) : Int := match W.cell? ⟨sb, 6, none⟩ with | some (.int _ i) => i | _ => 0
def LoopR (p : SProg) (w : World) (sb : Nat) (n : Int) (W : World) : Prop := ∃ k fs os sv ev hv, k ≤ fuelN n ∧ RM w sb W (runL p k (startL p)) fs os sv ev hv ∧ (runL p k (startL p)).steps = k
set_option maxHeartbeats 4000000 in
theorem Go_any (p : SProg) (w : World) (PA : Option Addr) (pc : Nat) (hP : Rd kFunc w PA p.f0) (hp : Aside0 (ProgP p)) (n : Int) :
  Calls Try.prog 10 #[.agg #[.slice PA p.f0.length pc], .int .i64 n] w (GoIs p w n) := by
 obtain ⟨g, hg⟩ : ∃ g, w.heap.size = g := ⟨_, rfl⟩
 obtain ⟨wa, hwa⟩ : ∃ wa, wa = (w.alloc (.cells #[.slice PA p.f0.length pc] 24)).alloc (.cells #[.slice none 0 0, .slice none 0 0, .slice none 0 0, .int .i64 0, .int .i64 0, .int .i64 0, .int .i64 0] 36) := ⟨_, rfl⟩
 have hB : Bel w wa := by rw [hwa]; exact ((Bel.refl w).alloc _).alloc _
 have hb0 : wa.heap[g]? = some (.cells #[.slice PA p.f0.length pc] 24 (0, 0)) := by rw [hwa]; exact heap_old (heap_new' hg.symm)
 have hb1 : wa.heap[g + 1]? = some (.cells #[.slice none 0 0, .slice none 0 0, .slice none 0 0, .int .i64 0, .int .i64 0, .int .i64 0, .int .i64 0] 36 (0, 0)) := by rw [hwa]; exact heap_new' (by simp [hg])
 have hfs := hp.out.funcs
 have hbn := begin_any p wa PA pc (hP.step hB) 0 (by omega) (by omega) [] none 0 ⟨Kd.C_nil kVal wa⟩ (Nat.zero_le _) (hp.out.func 0 (by omega)).vars
 have ebl : (beginL p 0 []).vars.length = (fnAt p 0).f0.length := by unfold beginL; simp
 rw [← ebl] at hbn
 rw [show ((0 : Nat) : Int) = 0 from rfl, List.length_nil] at hbn
 replace hbn := Aside0.mk hbn
 replace ebl := Aside0.mk ebl
 go_enter Try.func10, Try.ntmps10
 go_upto_region 1 with (fail)
 rw [← hwa]
 have z0 : wa.cell? ⟨g, 0, none⟩ = some (.slice PA p.f0.length pc) := blk_cell hb0 0
 replace hwa := Aside0.mk hwa
 replace hg := Aside0.mk hg
 obtain ⟨nv, hnv⟩ : ∃ nv, (beginL p 0 []).vars.length = nv := ⟨_, rfl⟩
 have hrs := Aside0.mk (fun (w2 : World) (vb : Nat) => RM.start (p := p) (W := wa) (w2 := w2) (vb := vb))
 rw [hnv] at hrs hbn
 replace hnv := Aside0.mk hnv
 go_wp2_with (go_at_call 22; ((with_reducible refine hbn.out.mono ?_); rintro e w2 ⟨vb, rfl, hv2, hge, hB2⟩))
 obtain ⟨sb, hsb⟩ : ∃ sb, w2.heap.size + 1 = sb := ⟨_, rfl⟩
 have h0 := hrs.out w2 vb hB2 hv2 hge
 rw [hsb] at h0 ⊢
 clear hrs hbn z0
 generalize (w2.alloc (.cells #[.int .i64 0, .slice (some ⟨vb, 0, none⟩) nv nv, .int .i64 0, .int .i64 0] 62)).alloc (.cells #[.slice (some ⟨w2.heap.size, 0, none⟩) 1 1, .slice none 0 0, .slice none 0 0, .int .i64 0, .int .i64 0, .int .i64 0, .int .i64 0] 36) = wq at h0 ⊢
 replace hsb := Aside0.mk hsb
 go_loopw [] (fun W => LoopR p wa sb n W) (fun W => ((4000 : Int) - stepsR sb W).toNat)
 case atStart => exact ⟨0, _, _, _, _, _, Nat.zero_le _, h0, rfl⟩
 case round =>
  clear h0
  obtain ⟨k, fs, os, sv, ev, hv, hk, hM, hs⟩ := hrel
  have hro := run_start hp.out k
  obtain ⟨s, hsd⟩ : ∃ s, runL p k (startL p) = s := ⟨_, rfl⟩
  rw [hsd] at hM hs hro
  have hbk := hM.blk
  have z6 : wr.cell? ⟨sb, 6, none⟩ = some (.int .i64 (k : Int)) := by rw [← hs]; exact blk_cell hbk 6
  have z3 : wr.cell? ⟨sb, 3, none⟩ = some (.int .i64 s.fin) := blk_cell hbk 3
  have ub : wr.cell? ⟨g, 0, none⟩ = some (.slice PA p.f0.length pc) := blk_cell (hM.bel.blk hb0) 0
  have hst : stepsR sb wr = k := by unfold stepsR; rw [z6]
  replace hst := Aside0.mk hst
  replace hsd := Aside0.mk hsd
  replace hs := Aside0.mk hs
  replace hro := Aside0.mk hro
  by_cases hlt : k < fuelN n
  ·obtain ⟨c1, c2⟩ := fuel_lt.1 hlt
   by_cases hfin : s.fin = 0
   ·have c3 : (s.fin == 0) = true := by simp [hfin]
    have hstep := Aside0.mk (rstep_any wa p sb wr s fs os sv ev hv PA pc (hP.step hB) hM hp ⟨hro.out.1⟩ hfin (by rw [hs.out]; omega))
    replace hfin := Aside0.mk hfin
    go_wp2_with (go_at_call 23; ((with_reducible refine hstep.out.mono ?_); rintro e w4 ⟨rfl, fs4, os4, sv4, ev4, hv4, hz⟩))
    go_roundw
    case rel =>
     have e1 : runL p (k + 1) (startL p) = stepL p s := by rw [runL_succ, hsd.out, if_pos hfin.out]
     refine ⟨k + 1, fs4, os4, sv4, ev4, hv4, by omega, by rw [e1]; exact hz, ?_⟩
     rw [e1, (step_ok hp.out hro.out.1 hfin.out).2, hs.out]
    case measure =>
     have h4 : stepsR sb w4 = (k : Int) + 1 := by
      unfold stepsR
      rw [blk_cell hz.blk 6]
      show ((stepL p s).steps : Int) = k + 1
      rw [(step_ok hp.out hro.out.1 hfin.out).2, hs.out]
      rfl
     rw [h4, hst.out]
     omega
   ·have c3 : (s.fin == 0) = false := by simp [hfin]
    have e1 : endL p n = s := by
     show runL p (fuelN n) (startL p) = s
     rw [show fuelN n = k + (fuelN n - k) by omega, runL_add, hsd.out, runL_stuck hfin]
    replace hfin := Aside0.mk hfin
    have hob := hro.out.1.objs
    have htl := hro.out.1.told
    have hk4 : k ≤ 4000 := by
     rcases Nat.lt_or_ge 4000 k with q | q
     ·have := (fuel_lt (n := n) (k := 4000)).1 (by omega)
      omega
     ·exact q
    have hs4 := hs.out
    have h88 := Aside0.mk (fun o (ho : o ∈ s.heap) => And.intro (hro.out.1.heap o ho).1 (hro.out.1.heap o ho).2.1)
    have hfar := Aside0.mk (fun (W1 : World) (q : KO (g + 1) wr W1) => hM.far q (blk_lt hb1) (by omega) (by omega) h88.out)
    obtain ⟨EA, ec, HA, hc, rfl, rfl, -, -⟩ := hfar.out wr (KO.refl _ _)
    obtain ⟨SA, sc, rfl⟩ := own_slice hM.stack.out
    have hbr := hM.bel.blk hb1
    have v0 : wr.cell? ⟨sb, 0, none⟩ = some (.slice SA s.stack.length sc) := blk_cell hbk 0
    have v1 : wr.cell? ⟨sb, 1, none⟩ = some (.slice HA s.heap.length hc) := blk_cell hbk 1
    have v2 : wr.cell? ⟨sb, 2, none⟩ = some (.slice EA s.evs.length ec) := blk_cell hbk 2
    have v4 : wr.cell? ⟨sb, 4, none⟩ = some (.int .i64 s.val) := blk_cell hbk 4
    have v5 : wr.cell? ⟨sb, 5, none⟩ = some (.int .i64 s.code) := blk_cell hbk 5
    have t0 := blk_frozen hbr 0
    have t1 := blk_frozen hbr 1
    have t2 := blk_frozen hbr 2
    have t3 := blk_frozen hbr 3
    have t4 := blk_frozen hbr 4
    have t5 := blk_frozen hbr 5
    have t6 := blk_frozen hbr 6
    have o0 : wr.cell? ⟨g + 1, 0, none⟩ = some (.slice none 0 0) := blk_cell hbr 0
    have o1 : wr.cell? ⟨g + 1, 1, none⟩ = some (.slice none 0 0) := blk_cell hbr 1
    have o2 : wr.cell? ⟨g + 1, 2, none⟩ = some (.slice none 0 0) := blk_cell hbr 2
    have o3 : wr.cell? ⟨g + 1, 3, none⟩ = some (.int .i64 0) := blk_cell hbr 3
    have o4 : wr.cell? ⟨g + 1, 4, none⟩ = some (.int .i64 0) := blk_cell hbr 4
    have o5 : wr.cell? ⟨g + 1, 5, none⟩ = some (.int .i64 0) := blk_cell hbr 5
    have o6 : wr.cell? ⟨g + 1, 6, none⟩ = some (.int .i64 0) := blk_cell hbr 6
    have hp7 := Aside0.mk (put7 hbr (.slice SA s.stack.length sc) (.slice HA s.heap.length hc) (.slice EA s.evs.length ec) (.int .i64 s.fin) (.int .i64 s.val) (.int .i64 s.code) (.int .i64 (k : Int)))
    have hbl := hM.bel
    clear hM hob htl hs4 hbk
    replace e1 := Aside0.mk e1
    go_wp2
    refine bodyPost_ret (results_cell_row rfl _ _ (g + 1) 36 #[.slice SA s.stack.length sc, .slice HA s.heap.length hc, .slice EA s.evs.length ec, .int .i64 s.fin, .int .i64 s.val, .int .i64 s.code, .int .i64 (k : Int)] (0, 0) _ rfl hp7.out.1 Try.underlying36 rfl (by kernel_rfl)) rfl ?_
    obtain ⟨EA2, ec2, HA2, hc2, q1, q2, r1, r2⟩ := hfar.out _ hp7.out.2
    injection q1 with q1 _ _
    injection q2 with q2 _ _
    subst q1 q2
    unfold GoIs
    rw [e1.out]
    exact ⟨SA, s.stack.length, sc, EA, ec, HA, hc, by rw [hs.out], r1, r2, hp7.out.2.bel (hB.trans hbl) (by have := hg.out; omega)⟩
  ·have e1 : endL p n = s := by
    show runL p (fuelN n) (startL p) = s
    rw [show fuelN n = k by omega, hsd.out]
   by_cases c1 : (k : Int) < n
   ·have c2 : ¬ (k : Int) < 4000 := fun q => hlt (fuel_lt.2 ⟨c1, q⟩)
    replace hlt := Aside0.mk hlt
    have hob := hro.out.1.objs
    have htl := hro.out.1.told
    have hk4 : k ≤ 4000 := by
     rcases Nat.lt_or_ge 4000 k with q | q
     ·have := (fuel_lt (n := n) (k := 4000)).1 (by omega)
      omega
     ·exact q
    have hs4 := hs.out
    have h88 := Aside0.mk (fun o (ho : o ∈ s.heap) => And.intro (hro.out.1.heap o ho).1 (hro.out.1.heap o ho).2.1)
    have hfar := Aside0.mk (fun (W1 : World) (q : KO (g + 1) wr W1) => hM.far q (blk_lt hb1) (by omega) (by omega) h88.out)
    obtain ⟨EA, ec, HA, hc, rfl, rfl, -, -⟩ := hfar.out wr (KO.refl _ _)
    obtain ⟨SA, sc, rfl⟩ := own_slice hM.stack.out
    have hbr := hM.bel.blk hb1
    have v0 : wr.cell? ⟨sb, 0, none⟩ = some (.slice SA s.stack.length sc) := blk_cell hbk 0
    have v1 : wr.cell? ⟨sb, 1, none⟩ = some (.slice HA s.heap.length hc) := blk_cell hbk 1
    have v2 : wr.cell? ⟨sb, 2, none⟩ = some (.slice EA s.evs.length ec) := blk_cell hbk 2
    have v4 : wr.cell? ⟨sb, 4, none⟩ = some (.int .i64 s.val) := blk_cell hbk 4
    have v5 : wr.cell? ⟨sb, 5, none⟩ = some (.int .i64 s.code) := blk_cell hbk 5
    have t0 := blk_frozen hbr 0
    have t1 := blk_frozen hbr 1
    have t2 := blk_frozen hbr 2
    have t3 := blk_frozen hbr 3
    have t4 := blk_frozen hbr 4
    have t5 := blk_frozen hbr 5
    have t6 := blk_frozen hbr 6
    have o0 : wr.cell? ⟨g + 1, 0, none⟩ = some (.slice none 0 0) := blk_cell hbr 0
    have o1 : wr.cell? ⟨g + 1, 1, none⟩ = some (.slice none 0 0) := blk_cell hbr 1
    have o2 : wr.cell? ⟨g + 1, 2, none⟩ = some (.slice none 0 0) := blk_cell hbr 2
    have o3 : wr.cell? ⟨g + 1, 3, none⟩ = some (.int .i64 0) := blk_cell hbr 3
    have o4 : wr.cell? ⟨g + 1, 4, none⟩ = some (.int .i64 0) := blk_cell hbr 4
    have o5 : wr.cell? ⟨g + 1, 5, none⟩ = some (.int .i64 0) := blk_cell hbr 5
    have o6 : wr.cell? ⟨g + 1, 6, none⟩ = some (.int .i64 0) := blk_cell hbr 6
    have hp7 := Aside0.mk (put7 hbr (.slice SA s.stack.length sc) (.slice HA s.heap.length hc) (.slice EA s.evs.length ec) (.int .i64 s.fin) (.int .i64 s.val) (.int .i64 s.code) (.int .i64 (k : Int)))
    have hbl := hM.bel
    clear hM hob htl hs4 hbk
    replace e1 := Aside0.mk e1
    go_wp2
    refine bodyPost_ret (results_cell_row rfl _ _ (g + 1) 36 #[.slice SA s.stack.length sc, .slice HA s.heap.length hc, .slice EA s.evs.length ec, .int .i64 s.fin, .int .i64 s.val, .int .i64 s.code, .int .i64 (k : Int)] (0, 0) _ rfl hp7.out.1 Try.underlying36 rfl (by kernel_rfl)) rfl ?_
    obtain ⟨EA2, ec2, HA2, hc2, q1, q2, r1, r2⟩ := hfar.out _ hp7.out.2
    injection q1 with q1 _ _
    injection q2 with q2 _ _
    subst q1 q2
    unfold GoIs
    rw [e1.out]
    exact ⟨SA, s.stack.length, sc, EA, ec, HA, hc, by rw [hs.out], r1, r2, hp7.out.2.bel (hB.trans hbl) (by have := hg.out; omega)⟩
   ·replace hlt := Aside0.mk hlt
    have hob := hro.out.1.objs
    have htl := hro.out.1.told
    have hk4 : k ≤ 4000 := by
     rcases Nat.lt_or_ge 4000 k with q | q
     ·have := (fuel_lt (n := n) (k := 4000)).1 (by omega)
      omega
     ·exact q
    have hs4 := hs.out
    have h88 := Aside0.mk (fun o (ho : o ∈ s.heap) => And.intro (hro.out.1.heap o ho).1 (hro.out.1.heap o ho).2.1)
    have hfar := Aside0.mk (fun (W1 : World) (q : KO (g + 1) wr W1) => hM.far q (blk_lt hb1) (by omega) (by omega) h88.out)
    obtain ⟨EA, ec, HA, hc, rfl, rfl, -, -⟩ := hfar.out wr (KO.refl _ _)
    obtain ⟨SA, sc, rfl⟩ := own_slice hM.stack.out
    have hbr := hM.bel.blk hb1
    have v0 : wr.cell? ⟨sb, 0, none⟩ = some (.slice SA s.stack.length sc) := blk_cell hbk 0
    have v1 : wr.cell? ⟨sb, 1, none⟩ = some (.slice HA s.heap.length hc) := blk_cell hbk 1
    have v2 : wr.cell? ⟨sb, 2, none⟩ = some (.slice EA s.evs.length ec) := blk_cell hbk 2
    have v4 : wr.cell? ⟨sb, 4, none⟩ = some (.int .i64 s.val) := blk_cell hbk 4
    have v5 : wr.cell? ⟨sb, 5, none⟩ = some (.int .i64 s.code) := blk_cell hbk 5
    have t0 := blk_frozen hbr 0
    have t1 := blk_frozen hbr 1
    have t2 := blk_frozen hbr 2
    have t3 := blk_frozen hbr 3
    have t4 := blk_frozen hbr 4
    have t5 := blk_frozen hbr 5
    have t6 := blk_frozen hbr 6
    have o0 : wr.cell? ⟨g + 1, 0, none⟩ = some (.slice none 0 0) := blk_cell hbr 0
    have o1 : wr.cell? ⟨g + 1, 1, none⟩ = some (.slice none 0 0) := blk_cell hbr 1
    have o2 : wr.cell? ⟨g + 1, 2, none⟩ = some (.slice none 0 0) := blk_cell hbr 2
    have o3 : wr.cell? ⟨g + 1, 3, none⟩ = some (.int .i64 0) := blk_cell hbr 3
    have o4 : wr.cell? ⟨g + 1, 4, none⟩ = some (.int .i64 0) := blk_cell hbr 4
    have o5 : wr.cell? ⟨g + 1, 5, none⟩ = some (.int .i64 0) := blk_cell hbr 5
    have o6 : wr.cell? ⟨g + 1, 6, none⟩ = some (.int .i64 0) := blk_cell hbr 6
    have hp7 := Aside0.mk (put7 hbr (.slice SA s.stack.length sc) (.slice HA s.heap.length hc) (.slice EA s.evs.length ec) (.int .i64 s.fin) (.int .i64 s.val) (.int .i64 s.code) (.int .i64 (k : Int)))
    have hbl := hM.bel
    clear hM hob htl hs4 hbk
    replace e1 := Aside0.mk e1
    go_wp2
    refine bodyPost_ret (results_cell_row rfl _ _ (g + 1) 36 #[.slice SA s.stack.length sc, .slice HA s.heap.length hc, .slice EA s.evs.length ec, .int .i64 s.fin, .int .i64 s.val, .int .i64 s.code, .int .i64 (k : Int)] (0, 0) _ rfl hp7.out.1 Try.underlying36 rfl (by kernel_rfl)) rfl ?_
    obtain ⟨EA2, ec2, HA2, hc2, q1, q2, r1, r2⟩ := hfar.out _ hp7.out.2
    injection q1 with q1 _ _
    injection q2 with q2 _ _
    subst q1 q2
    unfold GoIs
    rw [e1.out]
    exact ⟨SA, s.stack.length, sc, EA, ec, HA, hc, by rw [hs.out], r1, r2, hp7.out.2.bel (hB.trans hbl) (by have := hg.out; omega)⟩
end Go.Proofs.Ytodjpbidjldblaa.H
