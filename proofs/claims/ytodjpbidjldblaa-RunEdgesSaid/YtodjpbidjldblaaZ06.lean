/- Texts joined. Conditions: each stands with its theorem. -/
import Derived.Test.YtodjpbidjldblaaZ01
import Derived.Test.YtodjpbidjldblaaZ05
import Derived.Test.YtodjpbidjldblaaX14
namespace Go.Proofs.Ytodjpbidjldblaa.H
open Go.RowKit Go.Proofs.YtodjpbidjldblaaW.PrintWords Go.Proofs.YtodjpbidjldblaaW.PrintLast
set_option linter.unusedVariables false
set_option linter.unusedSimpArgs false
set_option maxRecDepth 100000
theorem RM.start {p : SProg} {W w2 : World} {vb : Nat} (hB : Bel W w2) (hv : ValsAt w2 vb (beginL p 0 []).vars) (hge : W.heap.size ≤ vb) :
  RM W (w2.heap.size + 1) ((w2.alloc (.cells #[.int .i64 0, .slice (some ⟨vb, 0, none⟩) (beginL p 0 []).vars.length (beginL p 0 []).vars.length, .int .i64 0, .int .i64 0] 62)).alloc (.cells #[.slice (some ⟨w2.heap.size, 0, none⟩) 1 1, .slice none 0 0, .slice none 0 0, .int .i64 0, .int .i64 0, .int .i64 0, .int .i64 0] 36)) (startL p) [vb] [] (.slice (some ⟨w2.heap.size, 0, none⟩) 1 1) (.slice none 0 0) (.slice none 0 0) := by
 have hs := hB.size
 have hB1 : Bel w2 (w2.alloc (.cells #[.int .i64 0, .slice (some ⟨vb, 0, none⟩) (beginL p 0 []).vars.length (beginL p 0 []).vars.length, .int .i64 0, .int .i64 0] 62)) := (Bel.refl _).alloc _
 have hB2 := hB1.trans ((Bel.refl _).alloc (.cells #[.slice (some ⟨w2.heap.size, 0, none⟩) 1 1, .slice none 0 0, .slice none 0 0, .int .i64 0, .int .i64 0, .int .i64 0, .int .i64 0] 36))
 refine ⟨hB.trans hB2, heap_new' (by simp), ⟨?_⟩, .cons (hB2.blk hv) .nil, ⟨World.ownsRow_nil _ _ _ _⟩, ⟨World.ownsRow_nil _ _ _ _⟩, .nil, by simp, by simp [fldB], (fun b hb => by simp [fldB] at hb), ⟨by omega, (fun b hb => by simp at hb; omega), (fun b hb => by simp [fldB] at hb)⟩⟩
 have h := World.ownsRow_lit (base := W.heap.size) (e := 62) (size := 4) w2 #[.int .i64 0, .slice (some ⟨vb, 0, none⟩) (beginL p 0 []).vars.length (beginL p 0 []).vars.length, .int .i64 0, .int .i64 0] 1 hs (by simp [maxLen]) rfl
 exact h.alloc _
theorem put7 {W : World} {b t : Nat} {c0 c1 c2 c3 c4 c5 c6 : Value} (hb : W.heap[b]? = some (.cells #[c0, c1, c2, c3, c4, c5, c6] t (0, 0))) (u0 u1 u2 u3 u4 u5 u6 : Value) :
  (((((((W.setCell ⟨b, 0, none⟩ u0).setCell ⟨b, 1, none⟩ u1).setCell ⟨b, 2, none⟩ u2).setCell ⟨b, 3, none⟩ u3).setCell ⟨b, 4, none⟩ u4).setCell ⟨b, 5, none⟩ u5).setCell ⟨b, 6, none⟩ u6).heap[b]? = some (.cells #[u0, u1, u2, u3, u4, u5, u6] t (0, 0)) ∧ KO b W (((((((W.setCell ⟨b, 0, none⟩ u0).setCell ⟨b, 1, none⟩ u1).setCell ⟨b, 2, none⟩ u2).setCell ⟨b, 3, none⟩ u3).setCell ⟨b, 4, none⟩ u4).setCell ⟨b, 5, none⟩ u5).setCell ⟨b, 6, none⟩ u6) := by
 have h0 : _ = some (Obj.cells #[u0, c1, c2, c3, c4, c5, c6] t (0, 0)) := blk_set hb 0 u0
 have h1 : _ = some (Obj.cells #[u0, u1, c2, c3, c4, c5, c6] t (0, 0)) := blk_set h0 1 u1
 have h2 : _ = some (Obj.cells #[u0, u1, u2, c3, c4, c5, c6] t (0, 0)) := blk_set h1 2 u2
 have h3 : _ = some (Obj.cells #[u0, u1, u2, u3, c4, c5, c6] t (0, 0)) := blk_set h2 3 u3
 have h4 : _ = some (Obj.cells #[u0, u1, u2, u3, u4, c5, c6] t (0, 0)) := blk_set h3 4 u4
 have h5 : _ = some (Obj.cells #[u0, u1, u2, u3, u4, u5, c6] t (0, 0)) := blk_set h4 5 u5
 have h6 : _ = some (Obj.cells #[u0, u1, u2, u3, u4, u5, u6] t (0, 0)) := blk_set h5 6 u6
 exact ⟨h6, ((((((KO.set b 0 W u0).trans (KO.set b 1 _ u1)).trans (KO.set b 2 _ u2)).trans (KO.set b 3 _ u3)).trans (KO.set b 4 _ u4)).trans (KO.set b 5 _ u5)).trans (KO.set b 6 _ u6)⟩
theorem fuel_lt {n : Int} {k : Nat} : k < fuelN n ↔ (k : Int) < n ∧ (k : Int) < 4000 := by
 unfold fuelN mn
 split <;> omega
theorem RM.far {w0 W W1 : World} {sb b : Nat} {s : VSt} {fs : List Nat} {os : List (Nat × Nat)} {sv ev hv : Value} (h : RM w0 sb W s fs os sv ev hv) (k : KO b W W1) (hb : b < w0.heap.size) (hl : s.evs.length ≤ 100000) (hl2 : s.heap.length ≤ 100000) (h8 : ∀ o ∈ s.heap, o.f0.length ≤ 8 ∧ o.f1.length ≤ 8) :
  ∃ EA ec HA hc, ev = .slice EA s.evs.length ec ∧ hv = .slice HA s.heap.length hc ∧ RdI W1 EA s.evs ∧ Rd kObj W1 HA s.heap := by
 have kb := k.kb
 have n1 : ∀ i, ev.ownBlock = some i → some i ≠ some b := fun i hi e => by
  have := own_base h.evs.out i hi
  injection e with e
  omega
 have n2 : ∀ i, hv.ownBlock = some i → some i ≠ some b := fun i hi e => by
  have := own_base h.objs.out i hi
  injection e with e
  omega
 obtain ⟨EA, ec, e1, r1⟩ := evs_rd (kb.own h.evs.out n1) hl
 obtain ⟨HA, hc, e2, r2⟩ := objs_rd (kb.own h.objs.out n2) (h.flds.keep (fun c hc => by
  obtain ⟨m1, m2⟩ := fldB_mem hc
  have b1 := h.base.2.2 _ m1
  have b2 := h.base.2.2 _ m2
  exact ⟨fun hl => k.keep _ hl (by omega), fun hl => k.keep _ hl (by omega)⟩)) hl2 h8
 exact ⟨EA, ec, HA, hc, e1, e2, r1, r2⟩
def GoIs (p : SProg) (w : World) (n : Int) (e : Ending) (W' : World) : Prop := ∃ SA sl sc EA ec HA hc, e = .returned (.agg #[.slice SA sl sc, .slice HA (endL p n).heap.length hc, .slice EA (endL p n).evs.length ec, .int .i64 (endL p n).fin, .int .i64 (endL p n).val, .int .i64 (endL p n).code, .int .i64 (endL p n).steps]) ∧ RdI W' EA (endL p n).evs ∧ Rd kObj W' HA (endL p n).heap ∧ Bel w W'
def stepsR (sb : Nat) (W : World) : Int := match W.cell? ⟨sb, 6, none⟩ with | some (.int _ i) => i | _ => 0
def LoopR (p : SProg) (w : World) (sb : Nat) (n : Int) (W : World) : Prop := ∃ k fs os sv ev hv, k ≤ fuelN n ∧ RM w sb W (runL p k (startL p)) fs os sv ev hv ∧ (runL p k (startL p)).steps = k
set_option maxHeartbeats 4000000 in
theorem Go_any (p : SProg) (w : World) (PA : Option Addr) (pc : Nat) (hP : Rd kFunc w PA p.f0) (hp : Aside0 (ProgP p)) (n : Int) :
  Calls Try.prog 10 #[.agg #[.slice PA p.f0.length pc], .int .i64 n] w (GoIs p w n) := by
 obtain ⟨g, hg⟩ : ∃ g, w.heap.size = g := ⟨_, rfl⟩
 obtain ⟨wa, hwa⟩ : ∃ wa, wa = (w.alloc (.cells #[.slice PA p.f0.length pc] 24)).alloc (.cells #[.slice none 0 0, .slice none 0 0, .slice none 0 0, .int .i64 0, .int .i64 0, .int .i64 0, .int .i64 0] 36) := ⟨_, rfl⟩
 have hB : Bel w wa := by rw [hwa]; exact ((Bel.refl w).alloc _).alloc _
 have hb0 : wa.heap[g]? = some (.cells #[.slice PA p.f0.length pc] 24 (0, 0)) := by rw [hwa]; exact heap_old (heap_new' hg.symm)
 have hb1 : wa.heap[g + 1]? = some (.cells #[.slice none 0 0, .slice none 0 0, .slice none 0 0, .int .i64 0, .int .i64 0, .int .i64 0, .int .i64 0] 36 (0, 0)) := by rw [hwa]; exact heap_new' (by simp [hg])
 have hfs := hp.out.funcs
 have hbn := begin_any p wa PA pc (hP.step hB) 0 (by omega) (by omega) [] none 0 ⟨Kd.C_nil kVal wa⟩ (Nat.zero_le _) (hp.out.func 0 (by omega)).vars
 have ebl : (beginL p 0 []).vars.length = (fnAt p 0).f0.length := by unfold beginL; simp
 rw [← ebl] at hbn
 rw [show ((0 : Nat) : Int) = 0 from rfl, List.length_nil] at hbn
 replace hbn := Aside0.mk hbn
 replace ebl := Aside0.mk ebl
 go_enter Try.func10, Try.ntmps10
 go_upto_region 1 with (fail)
 rw [← hwa]
 have z0 : wa.cell? ⟨g, 0, none⟩ = some (.slice PA p.f0.length pc) := blk_cell hb0 0
 replace hwa := Aside0.mk hwa
 replace hg := Aside0.mk hg
 obtain ⟨nv, hnv⟩ : ∃ nv, (beginL p 0 []).vars.length = nv := ⟨_, rfl⟩
 have hrs := Aside0.mk (fun (w2 : World) (vb : Nat) => RM.start (p := p) (W := wa) (w2 := w2) (vb := vb))
 rw [hnv] at hrs hbn
 replace hnv := Aside0.mk hnv
 go_wp2_with (go_at_call 22; ((with_reducible refine hbn.out.mono ?_); rintro e w2 ⟨vb, rfl, hv2, hge, hB2⟩))
 obtain ⟨sb, hsb⟩ : ∃ sb, w2.heap.size + 1 = sb := ⟨_, rfl⟩
 have h0 := hrs.out w2 vb hB2 hv2 hge
 rw [hsb] at h0 ⊢
 clear hrs hbn z0
 generalize (w2.alloc (.cells #[.int .i64 0, .slice (some ⟨vb, 0, none⟩) nv nv, .int .i64 0, .int .i64 0] 62)).alloc (.cells #[.slice (some ⟨w2.heap.size, 0, none⟩) 1 1, .slice none 0 0, .slice none 0 0, .int .i64 0, .int .i64 0, .int .i64 0, .int .i64 0] 36) = wq at h0 ⊢
 replace hsb := Aside0.mk hsb
 go_loopw [] (fun W => LoopR p wa sb n W) (fun W => ((4000 : Int) - stepsR sb W).toNat)
 case atStart => exact ⟨0, _, _, _, _, _, Nat.zero_le _, h0, rfl⟩
 case round =>
  clear h0
  obtain ⟨k, fs, os, sv, ev, hv, hk, hM, hs⟩ := hrel
  have hro := run_start hp.out k
  obtain ⟨s, hsd⟩ : ∃ s, runL p k (startL p) = s := ⟨_, rfl⟩
  rw [hsd] at hM hs hro
  have hbk := hM.blk
  have z6 : wr.cell? ⟨sb, 6, none⟩ = some (.int .i64 (k : Int)) := by rw [← hs]; exact blk_cell hbk 6
  have z3 : wr.cell? ⟨sb, 3, none⟩ = some (.int .i64 s.fin) := blk_cell hbk 3
  have ub : wr.cell? ⟨g, 0, none⟩ = some (.slice PA p.f0.length pc) := blk_cell (hM.bel.blk hb0) 0
  have hst : stepsR sb wr = k := by unfold stepsR; rw [z6]
  replace hst := Aside0.mk hst
  replace hsd := Aside0.mk hsd
  replace hs := Aside0.mk hs
  replace hro := Aside0.mk hro
  by_cases hlt : k < fuelN n
  ·obtain ⟨c1, c2⟩ := fuel_lt.1 hlt
   by_cases hfin : s.fin = 0
   ·have c3 : (s.fin == 0) = true := by simp [hfin]
    have hstep := Aside0.mk (rstep_any wa p sb wr s fs os sv ev hv PA pc (hP.step hB) hM hp ⟨hro.out.1⟩ hfin (by rw [hs.out]; omega))
    replace hfin := Aside0.mk hfin
    go_wp2_with (go_at_call 23; ((with_reducible refine hstep.out.mono ?_); rintro e w4 ⟨rfl, fs4, os4, sv4, ev4, hv4, hz⟩))
    go_roundw
    case rel =>
     have e1 : runL p (k + 1) (startL p) = stepL p s := by rw [runL_succ, hsd.out, if_pos hfin.out]
     refine ⟨k + 1, fs4, os4, sv4, ev4, hv4, by omega, by rw [e1]; exact hz, ?_⟩
     rw [e1, (step_ok hp.out hro.out.1 hfin.out).2, hs.out]
    case measure =>
     have h4 : stepsR sb w4 = (k : Int) + 1 := by
      unfold stepsR
      rw [blk_cell hz.blk 6]
      show ((stepL p s).steps : Int) = k + 1
      rw [(step_ok hp.out hro.out.1 hfin.out).2, hs.out]
      rfl
     rw [h4, hst.out]
     omega
   ·have c3 : (s.fin == 0) = false := by simp [hfin]
    have e1 : endL p n = s := by
     show runL p (fuelN n) (startL p) = s
     rw [show fuelN n = k + (fuelN n - k) by omega, runL_add, hsd.out, runL_stuck hfin]
    replace hfin := Aside0.mk hfin
    have hob := hro.out.1.objs
    have htl := hro.out.1.told
    have hk4 : k ≤ 4000 := by
     rcases Nat.lt_or_ge 4000 k with q | q
     ·have := (fuel_lt (n := n) (k := 4000)).1 (by omega)
      omega
     ·exact q
    have hs4 := hs.out
    have h88 := Aside0.mk (fun o (ho : o ∈ s.heap) => And.intro (hro.out.1.heap o ho).1 (hro.out.1.heap o ho).2.1)
    have hfar := Aside0.mk (fun (W1 : World) (q : KO (g + 1) wr W1) => hM.far q (blk_lt hb1) (by omega) (by omega) h88.out)
    obtain ⟨EA, ec, HA, hc, rfl, rfl, -, -⟩ := hfar.out wr (KO.refl _ _)
    obtain ⟨SA, sc, rfl⟩ := own_slice hM.stack.out
    have hbr := hM.bel.blk hb1
    have v0 : wr.cell? ⟨sb, 0, none⟩ = some (.slice SA s.stack.length sc) := blk_cell hbk 0
    have v1 : wr.cell? ⟨sb, 1, none⟩ = some (.slice HA s.heap.length hc) := blk_cell hbk 1
    have v2 : wr.cell? ⟨sb, 2, none⟩ = some (.slice EA s.evs.length ec) := blk_cell hbk 2
    have v4 : wr.cell? ⟨sb, 4, none⟩ = some (.int .i64 s.val) := blk_cell hbk 4
    have v5 : wr.cell? ⟨sb, 5, none⟩ = some (.int .i64 s.code) := blk_cell hbk 5
    have t0 := blk_frozen hbr 0
    have t1 := blk_frozen hbr 1
    have t2 := blk_frozen hbr 2
    have t3 := blk_frozen hbr 3
    have t4 := blk_frozen hbr 4
    have t5 := blk_frozen hbr 5
    have t6 := blk_frozen hbr 6
    have o0 : wr.cell? ⟨g + 1, 0, none⟩ = some (.slice none 0 0) := blk_cell hbr 0
    have o1 : wr.cell? ⟨g + 1, 1, none⟩ = some (.slice none 0 0) := blk_cell hbr 1
    have o2 : wr.cell? ⟨g + 1, 2, none⟩ = some (.slice none 0 0) := blk_cell hbr 2
    have o3 : wr.cell? ⟨g + 1, 3, none⟩ = some (.int .i64 0) := blk_cell hbr 3
    have o4 : wr.cell? ⟨g + 1, 4, none⟩ = some (.int .i64 0) := blk_cell hbr 4
    have o5 : wr.cell? ⟨g + 1, 5, none⟩ = some (.int .i64 0) := blk_cell hbr 5
    have o6 : wr.cell? ⟨g + 1, 6, none⟩ = some (.int .i64 0) := blk_cell hbr 6
    have hp7 := Aside0.mk (put7 hbr (.slice SA s.stack.length sc) (.slice HA s.heap.length hc) (.slice EA s.evs.length ec) (.int .i64 s.fin) (.int .i64 s.val) (.int .i64 s.code) (.int .i64 (k : Int)))
    have hbl := hM.bel
    clear hM hob htl hs4 hbk
    replace e1 := Aside0.mk e1
    go_wp2
    refine bodyPost_ret (results_cell_row rfl _ _ (g + 1) 36 #[.slice SA s.stack.length sc, .slice HA s.heap.length hc, .slice EA s.evs.length ec, .int .i64 s.fin, .int .i64 s.val, .int .i64 s.code, .int .i64 (k : Int)] (0, 0) _ rfl hp7.out.1 Try.underlying36 rfl (by kernel_rfl)) rfl ?_
    obtain ⟨EA2, ec2, HA2, hc2, q1, q2, r1, r2⟩ := hfar.out _ hp7.out.2
    injection q1 with q1 _ _
    injection q2 with q2 _ _
    subst q1 q2
    unfold GoIs
    rw [e1.out]
    exact ⟨SA, s.stack.length, sc, EA, ec, HA, hc, by rw [hs.out], r1, r2, hp7.out.2.bel (hB.trans hbl) (by have := hg.out; omega)⟩
  ·have e1 : endL p n = s := by
    show runL p (fuelN n) (startL p) = s
    rw [show fuelN n = k by omega, hsd.out]
   by_cases c1 : (k : Int) < n
   ·have c2 : ¬ (k : Int) < 4000 := fun q => hlt (fuel_lt.2 ⟨c1, q⟩)
    replace hlt := Aside0.mk hlt
    have hob := hro.out.1.objs
    have htl := hro.out.1.told
    have hk4 : k ≤ 4000 := by
     rcases Nat.lt_or_ge 4000 k with q | q
     ·have := (fuel_lt (n := n) (k := 4000)).1 (by omega)
      omega
     ·exact q
    have hs4 := hs.out
    have h88 := Aside0.mk (fun o (ho : o ∈ s.heap) => And.intro (hro.out.1.heap o ho).1 (hro.out.1.heap o ho).2.1)
    have hfar := Aside0.mk (fun (W1 : World) (q : KO (g + 1) wr W1) => hM.far q (blk_lt hb1) (by omega) (by omega) h88.out)
    obtain ⟨EA, ec, HA, hc, rfl, rfl, -, -⟩ := hfar.out wr (KO.refl _ _)
    obtain ⟨SA, sc, rfl⟩ := own_slice hM.stack.out
    have hbr := hM.bel.blk hb1
    have v0 : wr.cell? ⟨sb, 0, none⟩ = some (.slice SA s.stack.length sc) := blk_cell hbk 0
    have v1 : wr.cell? ⟨sb, 1, none⟩ = some (.slice HA s.heap.length hc) := blk_cell hbk 1
    have v2 : wr.cell? ⟨sb, 2, none⟩ = some (.slice EA s.evs.length ec) := blk_cell hbk 2
    have v4 : wr.cell? ⟨sb, 4, none⟩ = some (.int .i64 s.val) := blk_cell hbk 4
    have v5 : wr.cell? ⟨sb, 5, none⟩ = some (.int .i64 s.code) := blk_cell hbk 5
    have t0 := blk_frozen hbr 0
    have t1 := blk_frozen hbr 1
    have t2 := blk_frozen hbr 2
    have t3 := blk_frozen hbr 3
    have t4 := blk_frozen hbr 4
    have t5 := blk_frozen hbr 5
    have t6 := blk_frozen hbr 6
    have o0 : wr.cell? ⟨g + 1, 0, none⟩ = some (.slice none 0 0) := blk_cell hbr 0
    have o1 : wr.cell? ⟨g + 1, 1, none⟩ = some (.slice none 0 0) := blk_cell hbr 1
    have o2 : wr.cell? ⟨g + 1, 2, none⟩ = some (.slice none 0 0) := blk_cell hbr 2
    have o3 : wr.cell? ⟨g + 1, 3, none⟩ = some (.int .i64 0) := blk_cell hbr 3
    have o4 : wr.cell? ⟨g + 1, 4, none⟩ = some (.int .i64 0) := blk_cell hbr 4
    have o5 : wr.cell? ⟨g + 1, 5, none⟩ = some (.int .i64 0) := blk_cell hbr 5
    have o6 : wr.cell? ⟨g + 1, 6, none⟩ = some (.int .i64 0) := blk_cell hbr 6
    have hp7 := Aside0.mk (put7 hbr (.slice SA s.stack.length sc) (.slice HA s.heap.length hc) (.slice EA s.evs.length ec) (.int .i64 s.fin) (.int .i64 s.val) (.int .i64 s.code) (.int .i64 (k : Int)))
    have hbl := hM.bel
    clear hM hob htl hs4 hbk
    replace e1 := Aside0.mk e1
    go_wp2
    refine bodyPost_ret (results_cell_row rfl _ _ (g + 1) 36 #[.slice SA s.stack.length sc, .slice HA s.heap.length hc, .slice EA s.evs.length ec, .int .i64 s.fin, .int .i64 s.val, .int .i64 s.code, .int .i64 (k : Int)] (0, 0) _ rfl hp7.out.1 Try.underlying36 rfl (by kernel_rfl)) rfl ?_
    obtain ⟨EA2, ec2, HA2, hc2, q1, q2, r1, r2⟩ := hfar.out _ hp7.out.2
    injection q1 with q1 _ _
    injection q2 with q2 _ _
    subst q1 q2
    unfold GoIs
    rw [e1.out]
    exact ⟨SA, s.stack.length, sc, EA, ec, HA, hc, by rw [hs.out], r1, r2, hp7.out.2.bel (hB.trans hbl) (by have := hg.out; omega)⟩
   ·replace hlt := Aside0.mk hlt
    have hob := hro.out.1.objs
    have htl := hro.out.1.told
    have hk4 : k ≤ 4000 := by
     rcases Nat.lt_or_ge 4000 k with q | q
     ·have := (fuel_lt (n := n) (k := 4000)).1 (by omega)
      omega
     ·exact q
    have hs4 := hs.out
    have h88 := Aside0.mk (fun o (ho : o ∈ s.heap) => And.intro (hro.out.1.heap o ho).1 (hro.out.1.heap o ho).2.1)
    have hfar := Aside0.mk (fun (W1 : World) (q : KO (g + 1) wr W1) => hM.far q (blk_lt hb1) (by omega) (by omega) h88.out)
    obtain ⟨EA, ec, HA, hc, rfl, rfl, -, -⟩ := hfar.out wr (KO.refl _ _)
    obtain ⟨SA, sc, rfl⟩ := own_slice hM.stack.out
    have hbr := hM.bel.blk hb1
    have v0 : wr.cell? ⟨sb, 0, none⟩ = some (.slice SA s.stack.length sc) := blk_cell hbk 0
    have v1 : wr.cell? ⟨sb, 1, none⟩ = some (.slice HA s.heap.length hc) := blk_cell hbk 1
    have v2 : wr.cell? ⟨sb, 2, none⟩ = some (.slice EA s.evs.length ec) := blk_cell hbk 2
    have v4 : wr.cell? ⟨sb, 4, none⟩ = some (.int .i64 s.val) := blk_cell hbk 4
    have v5 : wr.cell? ⟨sb, 5, none⟩ = some (.int .i64 s.code) := blk_cell hbk 5
    have t0 := blk_frozen hbr 0
    have t1 := blk_frozen hbr 1
    have t2 := blk_frozen hbr 2
    have t3 := blk_frozen hbr 3
    have t4 := blk_frozen hbr 4
    have t5 := blk_frozen hbr 5
    have t6 := blk_frozen hbr 6
    have o0 : wr.cell? ⟨g + 1, 0, none⟩ = some (.slice none 0 0) := blk_cell hbr 0
    have o1 : wr.cell? ⟨g + 1, 1, none⟩ = some (.slice none 0 0) := blk_cell hbr 1
    have o2 : wr.cell? ⟨g + 1, 2, none⟩ = some (.slice none 0 0) := blk_cell hbr 2
    have o3 : wr.cell? ⟨g + 1, 3, none⟩ = some (.int .i64 0) := blk_cell hbr 3
    have o4 : wr.cell? ⟨g + 1, 4, none⟩ = some (.int .i64 0) := blk_cell hbr 4
    have o5 : wr.cell? ⟨g + 1, 5, none⟩ = some (.int .i64 0) := blk_cell hbr 5
    have o6 : wr.cell? ⟨g + 1, 6, none⟩ = some (.int .i64 0) := blk_cell hbr 6
    have hp7 := Aside0.mk (put7 hbr (.slice SA s.stack.length sc) (.slice HA s.heap.length hc) (.slice EA s.evs.length ec) (.int .i64 s.fin) (.int .i64 s.val) (.int .i64 s.code) (.int .i64 (k : Int)))
    have hbl := hM.bel
    clear hM hob htl hs4 hbk
    replace e1 := Aside0.mk e1
    go_wp2
    refine bodyPost_ret (results_cell_row rfl _ _ (g + 1) 36 #[.slice SA s.stack.length sc, .slice HA s.heap.length hc, .slice EA s.evs.length ec, .int .i64 s.fin, .int .i64 s.val, .int .i64 s.code, .int .i64 (k : Int)] (0, 0) _ rfl hp7.out.1 Try.underlying36 rfl (by kernel_rfl)) rfl ?_
    obtain ⟨EA2, ec2, HA2, hc2, q1, q2, r1, r2⟩ := hfar.out _ hp7.out.2
    injection q1 with q1 _ _
    injection q2 with q2 _ _
    subst q1 q2
    unfold GoIs
    rw [e1.out]
    exact ⟨SA, s.stack.length, sc, EA, ec, HA, hc, by rw [hs.out], r1, r2, hp7.out.2.bel (hB.trans hbl) (by have := hg.out; omega)⟩
end Go.Proofs.Ytodjpbidjldblaa.H
