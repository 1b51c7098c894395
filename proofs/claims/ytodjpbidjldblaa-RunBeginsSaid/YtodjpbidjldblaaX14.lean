/- Texts joined. Conditions: each stands with its theorem. -/
import Derived.Test.YtodjpbidjldblaaX13
import Derived.Test.YtodjpbidjldblaaX11
import Derived.Test.YtodjpbidjldblaaX12
namespace Go.Proofs.Ytodjpbidjldblaa.H
open Go.RowKit Go.Proofs.YtodjpbidjldblaaW.PrintWords Go.Proofs.YtodjpbidjldblaaW.PrintLast
set_option linter.unusedVariables false
set_option linter.unusedSimpArgs false
set_option maxRecDepth 100000
theorem put4c {W : World} {b t : Nat} {c0 c1 c2 c3 : Value} (hb : W.heap[b]? = some (.cells #[c0, c1, c2, c3] t (0, 0))) (u0 u1 u2 u3 : Value) :
  ((((W.setCell ⟨b, 0, none⟩ u0).setCell ⟨b, 1, none⟩ u1).setCell ⟨b, 2, none⟩ u2).setCell ⟨b, 3, none⟩ u3).heap[b]? = some (.cells #[u0, u1, u2, u3] t (0, 0)) ∧ ∀ w0 : World, Bel w0 W → w0.heap.size ≤ b → Bel w0 ((((W.setCell ⟨b, 0, none⟩ u0).setCell ⟨b, 1, none⟩ u1).setCell ⟨b, 2, none⟩ u2).setCell ⟨b, 3, none⟩ u3) :=
 ⟨(blk_set (blk_set (blk_set (blk_set hb 0 u0) 1 u1) 2 u2) 3 u3).trans rfl, fun w0 h hn => ⟨(((h.out.setCell (p := ⟨b, 0, none⟩) hn u0).setCell (p := ⟨b, 1, none⟩) hn u1).setCell (p := ⟨b, 2, none⟩) hn u2).setCell (p := ⟨b, 3, none⟩) hn u3⟩⟩
abbrev endL (p : SProg) (n : Int) : VSt := runL p (fuelN n) (startL p)
def TraceIs (s : VSt) (w : World) (e : Ending) (W' : World) : Prop := ∃ EA ec, e = .returned (.agg #[.slice EA s.evs.length ec, .int .i64 s.fin, .int .i64 s.val, .int .i64 s.code]) ∧ RdI W' EA s.evs ∧ s.evs.length ≤ ec ∧ Bel w W'
def HeapIs (l : List SObj) (w : World) (e : Ending) (W' : World) : Prop := ∃ HA hc, e = .returned (.agg #[.slice HA l.length hc]) ∧ Rd kObj W' HA l ∧ l.length ≤ hc ∧ Bel w W'
section
variable (p : SProg) (w : World) (PA : Option Addr) (pc : Nat) (hP : Rd kFunc w PA p.f0) (hp : Aside0 (ProgP p)) (n : Int)
include hP hp
set_option maxHeartbeats 2000000 in
theorem Steps_any : Calls Try.prog 13 #[.agg #[.slice PA p.f0.length pc], .int .i64 n] w fun e W' => e = .returned (.int .i64 (endL p n).steps) ∧ Bel w W' := by
 have hB : Bel w (w.alloc (.cells #[.slice PA p.f0.length pc] 24)) := (Bel.refl w).alloc _
 have hpl := Aside0.mk (play_any p _ PA pc (hP.step hB) hp n)
 obtain ⟨s, hs⟩ : ∃ s, endL p n = s := ⟨_, rfl⟩
 rw [hs]
 replace hs := Aside0.mk hs
 go_enter Try.func13, Try.ntmps13
 go_wp2_with (go_at_call 24; ((with_reducible refine hpl.out.mono ?_); rintro e w2 ⟨mb, fs, sv, ev, hv, S, rfl, hC⟩; rw [show runL p (fuelN n) (startL p) = s from hs.out] at hC; obtain ⟨PA2, pc2, hb, _⟩ := hC.blk; have z7 : w2.cell? ⟨mb, 7, none⟩ = some (.int .i64 s.steps) := blk_cell hb 7))
 go_ret
 exact ⟨rfl, hB.trans hC.bel⟩
set_option maxHeartbeats 2000000 in
theorem Run_any : Calls Try.prog 12 #[.agg #[.slice PA p.f0.length pc], .int .i64 n] w (TraceIs (endL p n) w) := by
 obtain ⟨g, hg⟩ : ∃ g, w.heap.size = g := ⟨_, rfl⟩
 have hB : Bel w ((w.alloc (.cells #[.slice PA p.f0.length pc] 24)).alloc (.cells #[.slice none 0 0, .int .i64 0, .int .i64 0, .int .i64 0] 34)) := ((Bel.refl w).alloc _).alloc _
 have hb0 : ((w.alloc (.cells #[.slice PA p.f0.length pc] 24)).alloc (.cells #[.slice none 0 0, .int .i64 0, .int .i64 0, .int .i64 0] 34)).heap[g]? = some (.cells #[.slice PA p.f0.length pc] 24 (0, 0)) := heap_old (heap_new' hg.symm)
 have hb1 : ((w.alloc (.cells #[.slice PA p.f0.length pc] 24)).alloc (.cells #[.slice none 0 0, .int .i64 0, .int .i64 0, .int .i64 0] 34)).heap[g + 1]? = some (.cells #[.slice none 0 0, .int .i64 0, .int .i64 0, .int .i64 0] 34 (0, 0)) := heap_new' (by simp [hg])
 obtain ⟨s, hs⟩ : ∃ s, endL p n = s := ⟨_, rfl⟩
 rw [hs]
 replace hs := Aside0.mk hs
 go_enter Try.func12, Try.ntmps12
 go_upto_region 1 with (fail)
 generalize (w.alloc (.cells #[.slice PA p.f0.length pc] 24)).alloc (.cells #[.slice none 0 0, .int .i64 0, .int .i64 0, .int .i64 0] 34) = wa at hB hb0 hb1 ⊢
 have hpl := Aside0.mk (play_any p wa PA pc (hP.step hB) hp n)
 have z0 : wa.cell? ⟨g, 0, none⟩ = some (.slice PA p.f0.length pc) := blk_cell hb0 0
 replace hg := Aside0.mk hg
 go_wp2_with (go_at_call 24; ((with_reducible refine hpl.out.mono ?_); rintro e w2 ⟨mb, fs, sv, ev, hv, S, rfl, hC⟩; rw [show runL p (fuelN n) (startL p) = s from hs.out] at hC; obtain ⟨EA, ec, rfl, hec, hre⟩ := hC.evs.reads; obtain ⟨PA2, pc2, hb, _⟩ := hC.blk; have z3 : w2.cell? ⟨mb, 3, none⟩ = some (.slice EA s.evs.length ec) := blk_cell hb 3; have z4 : w2.cell? ⟨mb, 4, none⟩ = some (.int .i64 s.fin) := blk_cell hb 4; have z5 : w2.cell? ⟨mb, 5, none⟩ = some (.int .i64 s.val) := blk_cell hb 5; have z6 : w2.cell? ⟨mb, 6, none⟩ = some (.int .i64 s.code) := blk_cell hb 6; have hb2 := hC.bel.blk hb1; have x0 := blk_frozen hb2 0; have x1 := blk_frozen hb2 1; have x2 := blk_frozen hb2 2; have x3 := blk_frozen hb2 3; have y0 : w2.cell? ⟨g + 1, 0, none⟩ = some (.slice none 0 0) := blk_cell hb2 0; have y1 : w2.cell? ⟨g + 1, 1, none⟩ = some (.int .i64 0) := blk_cell hb2 1; have y2 : w2.cell? ⟨g + 1, 2, none⟩ = some (.int .i64 0) := blk_cell hb2 2; have y3 : w2.cell? ⟨g + 1, 3, none⟩ = some (.int .i64 0) := blk_cell hb2 3; have hp4 := Aside0.mk (put4c hb2 (.slice EA s.evs.length ec) (.int .i64 s.fin) (.int .i64 s.val) (.int .i64 s.code))))
 refine bodyPost_ret (results_cell_row rfl _ _ (g + 1) 34 #[.slice EA s.evs.length ec, .int .i64 s.fin, .int .i64 s.val, .int .i64 s.code] (0, 0) _ rfl hp4.out.1 Try.underlying34 rfl (by kernel_rfl)) rfl ?_
 have hz := hp4.out.2 w (hB.trans hC.bel) (by have := hg.out; omega)
 refine ⟨EA, ec, rfl, ?_, hec, hz⟩
 have hev : OwnAt (Kd.int .i64) 3 wa.heap.size _ (.slice EA s.evs.length ec) s.evs := (((hC.evs.koE rfl (KO.set (g + 1) 0 w2 (.slice EA s.evs.length ec)) (hC.evs.ne hb2 (by decide))).koE rfl (KO.set (g + 1) 1 _ (.int .i64 s.fin)) (hC.evs.ne hb2 (by decide))).koE rfl (KO.set (g + 1) 2 _ (.int .i64 s.val)) (hC.evs.ne hb2 (by decide))).koE rfl (KO.set (g + 1) 3 _ (.int .i64 s.code)) (hC.evs.ne hb2 (by decide))
 exact hev.rdOf
set_option maxHeartbeats 2000000 in
theorem Heap_any : Calls Try.prog 15 #[.agg #[.slice PA p.f0.length pc], .int .i64 n] w (HeapIs (endL p n).heap w) := by
 obtain ⟨g, hg⟩ : ∃ g, w.heap.size = g := ⟨_, rfl⟩
 have hB : Bel w ((w.alloc (.cells #[.slice PA p.f0.length pc] 24)).alloc (.cells #[.slice none 0 0] 30)) := ((Bel.refl w).alloc _).alloc _
 have hb0 : ((w.alloc (.cells #[.slice PA p.f0.length pc] 24)).alloc (.cells #[.slice none 0 0] 30)).heap[g]? = some (.cells #[.slice PA p.f0.length pc] 24 (0, 0)) := heap_old (heap_new' hg.symm)
 have hb1 : ((w.alloc (.cells #[.slice PA p.f0.length pc] 24)).alloc (.cells #[.slice none 0 0] 30)).heap[g + 1]? = some (.cells #[.slice none 0 0] 30 (0, 0)) := heap_new' (by simp [hg])
 obtain ⟨s, hs⟩ : ∃ s, endL p n = s := ⟨_, rfl⟩
 rw [hs]
 replace hs := Aside0.mk hs
 go_enter Try.func15, Try.ntmps15
 go_upto_region 1 with (fail)
 generalize (w.alloc (.cells #[.slice PA p.f0.length pc] 24)).alloc (.cells #[.slice none 0 0] 30) = wa at hB hb0 hb1 ⊢
 have hpl := Aside0.mk (play_any p wa PA pc (hP.step hB) hp n)
 have z0 : wa.cell? ⟨g, 0, none⟩ = some (.slice PA p.f0.length pc) := blk_cell hb0 0
 replace hg := Aside0.mk hg
 go_wp2_with (go_at_call 24; ((with_reducible refine hpl.out.mono ?_); rintro e w2 ⟨mb, fs, sv, ev, hv, S, rfl, hC⟩; rw [show runL p (fuelN n) (startL p) = s from hs.out] at hC; obtain ⟨HA, hc, rfl, hhc, hF⟩ := hC.heap.reads; obtain ⟨PA2, pc2, hb, _⟩ := hC.blk; have z2 : w2.cell? ⟨mb, 2, none⟩ = some (.slice HA s.heap.length hc) := blk_cell hb 2; have hb2 := hC.bel.blk hb1; have x0 := blk_frozen hb2 0; have y0 : w2.cell? ⟨g + 1, 0, none⟩ = some (.slice none 0 0) := blk_cell hb2 0; have hp4 := Aside0.mk (blk_set hb2 0 (.slice HA s.heap.length hc))))
 refine bodyPost_ret (results_cell_row rfl _ _ (g + 1) 30 #[.slice HA s.heap.length hc] (0, 0) _ rfl (hp4.out.trans rfl) Try.underlying30 rfl (by kernel_rfl)) rfl ?_
 have hlt := blk_lt hb1
 have hk := KO.set (g + 1) 0 w2 (.slice HA s.heap.length hc)
 have hV := (HV.mk hF hhc).ko hk (hC.old (g + 1) hlt)
 obtain ⟨A9, c9, e9, _, hF9⟩ := hV.reads
 injection e9 with e9
 subst e9
 exact ⟨HA, hc, rfl, hF9.rd, hhc, hk.bel (hB.trans hC.bel) (by have := hg.out; omega)⟩
end
end Go.Proofs.Ytodjpbidjldblaa.H
namespace Go.Proofs.Ytodjpbidjldblaa.H
open Go.RowKit Go.Proofs.YtodjpbidjldblaaW.PrintWords Go.Proofs.YtodjpbidjldblaaW.PrintLast Go.Proofs.Ytodjpbidjldblaa.PRunEdges
set_option linter.unusedVariables false
set_option linter.unusedSimpArgs false
theorem list_same (a b : List Int) (hl : a.length = b.length) (h : ∀ i : Nat, i < a.length → rd a (i : Int) = rd b (i : Int)) : a = b := by
 refine List.ext_getElem hl fun i h1 h2 => ?_
 have := h i h1
 simpa [rd, List.getD_eq_getElem?_getD, List.getElem?_eq_getElem h1, List.getElem?_eq_getElem h2] using this
set_option maxHeartbeats 400000 in
theorem Ints_any (A0 A1 : Option Addr) (c0 c1 : Nat) (l0 l1 : List Int) (w : World) (H0 : Rd (Kd.int .i64) w A0 l0) (H1 : Rd (Kd.int .i64) w A1 l1) (hl0 : l0.length ≤ 9223372036854775807) :
  Calls Try.prog 19 #[.slice A0 l0.length c0, .slice A1 l1.length c1] w fun e w' => e = .returned (.bool (decide (l0 = l1))) ∧ Drawn0 w w' := by
 by_cases hl : l0.length = l1.length
 ·have b1 : ((l0.length : Int) == (l1.length : Int)) = true := by simp [hl]
  have b2 : ((l0.length : Int) != (l1.length : Int)) = false := by simp [hl]
  have b3 : (l0.length == l1.length) = true := by simp [hl]
  have hl' := Aside0.mk hl
  clear hl
  go_enter Try.func19, Try.ntmps19
  go_wp2
  go_loopw [5] (fun i W => ∃ k : Nat, k ≤ l0.length ∧ i = .int .i64 k ∧ Aside0 (∀ j : Nat, j < k → rd l0 (j : Int) = rd l1 (j : Int)) ∧ Drawn0 w W) (fun i _ => l0.length - (intOf i).toNat)
  case atStart => exact ⟨0, by omega, rfl, ⟨fun j h => by omega⟩, Drawn0.refl _⟩
  case round =>
   obtain ⟨k, hk, rfl, hs, ⟨n, rfl⟩⟩ := hrel
   by_cases hlt : k < l0.length
   ·obtain ⟨ad0, rfl, hc0⟩ := rd_atN H0 k hlt
    obtain ⟨ad1, rfl, hc1⟩ := rd_atN H1 k (by have := hl'.out; omega)
    have hlt1 : k < l1.length := by have := hl'.out; omega
    have q0 : (0 : Int) ≤ (k : Int) := by omega
    have q1 : (k : Int) < (l0.length : Int) := by omega
    have q2 : (k : Int) < (l1.length : Int) := by omega
    by_cases he : rd l0 (k : Int) = rd l1 (k : Int)
    ·have b4 : (rd l0 (k : Int) != rd l1 (k : Int)) = false := by simp [he]
     have he' := Aside0.mk he
     clear he
     go_wp2
     go_quiet (fail)
     go_wp2
     go_roundw
     case rel => exact ⟨k + 1, by omega, by go_num, ⟨fun j hj => by rcases Nat.lt_or_ge j k with h | h; exact hs.out j h; rw [show j = k by omega]; exact he'.out⟩, by repeat (first | exact Drawn0.refl _ | apply Drawn0.step)⟩
     case measure => simp [intOf]; omega
    ·have b4 : (rd l0 (k : Int) != rd l1 (k : Int)) = true := by simpa using he
     have hne : decide (l0 = l1) = false := decide_eq_false (fun e => he (by rw [e]))
     replace hne := Aside0.mk hne
     clear he
     go_wp2
     go_quiet (fail)
     go_wp2
     go_ret
     exact ⟨by rw [hne.out]; rfl, by repeat (first | exact Drawn0.refl _ | apply Drawn0.step)⟩
   ·have he : decide (l0 = l1) = true := decide_eq_true (list_same l0 l1 hl'.out (fun i hi => hs.out i (by omega)))
    replace he := Aside0.mk he
    go_wp2
    go_ret
    exact ⟨by rw [he.out]; rfl, by repeat (first | exact Drawn0.refl _ | apply Drawn0.step)⟩
 ·have b1 : ((l0.length : Int) == (l1.length : Int)) = false := by simp; omega
  have b2 : ((l0.length : Int) != (l1.length : Int)) = true := by simp; omega
  have b3 : (l0.length == l1.length) = false := by simpa using hl
  have hne : decide (l0 = l1) = false := decide_eq_false (fun e => hl (by rw [e]))
  replace hne := Aside0.mk hne
  clear hl
  go_enter Try.func19, Try.ntmps19
  go_wp2
  go_ret
  exact ⟨by rw [hne.out]; rfl, Drawn0.refl _⟩
end Go.Proofs.Ytodjpbidjldblaa.H
namespace Go.Proofs.Ytodjpbidjldblaa.H
open Go.RowKit Go.Proofs.YtodjpbidjldblaaW.PrintWords Go.Proofs.YtodjpbidjldblaaW.PrintLast Go.Proofs.Ytodjpbidjldblaa.PRunEdges
set_option linter.unusedVariables false
set_option linter.unusedSimpArgs false
set_option maxRecDepth 100000
def d57 (x : S57) : SIns := ⟨x.f0, x.f1, x.f2, x.f3, x.f4, x.f5, x.f6⟩
def d55 (x : S55) : SBlock := ⟨x.f0.map d57⟩
def d52 (x : S52) : SFunc := ⟨x.f0, x.f1, x.f2, x.f3, x.f4.map d55⟩
theorem d57_K (w : World) (x : S57) (cs : List Value) (h : k57.K w x cs) : kIns.K w (d57 x) cs := by
 obtain ⟨A6, c6, rfl, l6, g6⟩ := k57_open h
 exact kIns_mk w (d57 x) l6 g6
theorem d55_K (w : World) (x : S55) (cs : List Value) (h : k55.K w x cs) : kBlock.K w (d55 x) cs := by
 obtain ⟨A0, c0, rfl, l0, g0⟩ := k55_open h
 have g := C_map (e := kIns) d57 rfl d57_K g0
 have e : x.f0.length = (d55 x).f0.length := by simp [d55]
 rw [e] at g l0 ⊢
 exact kBlock_mk w (d55 x) l0 g
theorem d52_K (w : World) (x : S52) (cs : List Value) (h : k52.K w x cs) : kFunc.K w (d52 x) cs := by
 obtain ⟨A0, c0, A1, c1, A4, c4, rfl, l0, g0, l1, g1, l4, g4⟩ := k52_open h
 have g := C_map (e := kBlock) d55 rfl d55_K g4
 have e : x.f4.length = (d52 x).f4.length := by simp [d52]
 rw [e] at g l4 ⊢
 exact kFunc_mk w (d52 x) l0 g0 l1 g1 l4 g
def tinyF : SFunc := ⟨[0], [-1], 0, 0, [⟨[⟨1, 0, 0, 0, 5, 0, []⟩, ⟨20, 0, 0, 0, 0, 0, []⟩, ⟨23, 0, 0, 0, 0, 0, []⟩]⟩]⟩
def tinyP : SProg := ⟨[tinyF]⟩
theorem tiny_any (w : World) : Calls Try.prog 18 #[] w fun e w' => ∃ A c, e = .returned (.agg #[.slice A 1 c]) ∧ Rd kFunc w' A tinyP.f0 ∧ Bel w w' := by
 refine (portolanlaw10_tiny.calls _ w rfl).mono fun e w' h => ?_
 obtain ⟨v, rfl, hN, hB⟩ := h
 obtain ⟨A, c, rfl, hc, hC⟩ := Kd.N_reads hN
 exact ⟨A, c, rfl, ⟨C_map (e := kFunc) d52 rfl d52_K hC⟩, ⟨hB⟩⟩
theorem tiny_ok : ProgP tinyP := by
 refine ⟨by decide, rfl, fun n hn => ?_, fun n hn b hb k hk => ?_⟩
 ·obtain rfl : n = 0 := by have : tinyP.f0.length = 1 := rfl; omega
  refine ⟨by decide, by decide, by decide, by decide, by decide, fun i hi => absurd hi (by show ¬ (i : Int) < 0; omega), fun b hb => ?_, fun b hb k hk => ?_⟩
  ·obtain rfl : b = 0 := by have : (fnAt tinyP 0).f4.length = 1 := rfl; omega
   decide
  ·obtain rfl : b = 0 := by have : (fnAt tinyP 0).f4.length = 1 := rfl; omega
   have hk3 : k < 3 := hk
   obtain rfl | rfl | rfl : k = 0 ∨ k = 1 ∨ k = 2 := by omega
   ·decide
   ·decide
   ·decide
 ·obtain rfl : n = 0 := by have : tinyP.f0.length = 1 := rfl; omega
  obtain rfl : b = 0 := by have : (fnAt tinyP 0).f4.length = 1 := rfl; omega
  have hk3 : k < 3 := hk
  obtain rfl | rfl | rfl : k = 0 ∨ k = 1 ∨ k = 2 := by omega
  all_goals
   refine ⟨⟨by decide, by decide, by decide, by decide, by decide, by decide, by decide, by decide, by decide, by decide, by decide, by decide⟩, ⟨by decide, by decide⟩⟩
theorem tiny_end : (endL tinyP 9).evs = [5] ∧ (endL tinyP 9).fin = 1 ∧ (endL tinyP 9).val = 5 ∧ (endL tinyP 9).steps = 3 ∧ (endL tinyP 2).fin = 0 := by decide +kernel
theorem run_trace1 (a b c d : Value) (W : World) : Sem.run Try.prog (Instr.field 34 (.agg #[a, b, c, d]) 1) W = .ok b W := by kernel_rfl
attribute [local go_sem] run_trace1
set_option maxHeartbeats 4000000 in
theorem alive_any (w : World) : Calls Try.prog 8 #[] w fun e w' => e = .returned (.bool true) ∧ Bel w w' := by
 obtain ⟨e1, e2, e3, e4, e5⟩ := tiny_end
 have hp : Aside0 (ProgP tinyP) := ⟨tiny_ok⟩
 have htn := Aside0.mk tiny_any
 have hr9 : Aside0 (∀ A c X, Rd kFunc X A tinyP.f0 → Calls Try.prog 12 #[.agg #[.slice A 1 c], .int .i64 9] X fun e W' => ∃ EA ec vc, e = .returned (.agg #[.slice EA 1 ec, .int .i64 1, .int .i64 5, .int .i64 vc]) ∧ RdI W' EA [5] ∧ Bel X W') := ⟨fun A c X hR => by
  refine (Run_any tinyP X A c hR hp 9).mono fun e W' h => ?_
  obtain ⟨EA, ec, rfl, h1, h2, h3⟩ := h
  rw [e1] at h1 ⊢
  rw [e2, e3]
  exact ⟨EA, ec, _, rfl, h1, h3⟩⟩
 have hr2 : Aside0 (∀ A c X, Rd kFunc X A tinyP.f0 → Calls Try.prog 12 #[.agg #[.slice A 1 c], .int .i64 2] X fun e W' => ∃ EA el ec vv vc, e = .returned (.agg #[.slice EA el ec, .int .i64 0, .int .i64 vv, .int .i64 vc]) ∧ Bel X W') := ⟨fun A c X hR => by
  refine (Run_any tinyP X A c hR hp 2).mono fun e W' h => ?_
  obtain ⟨EA, ec, rfl, h1, h2, h3⟩ := h
  rw [e5]
  exact ⟨EA, _, ec, _, _, rfl, h3⟩⟩
 have hst : Aside0 (∀ A c X, Rd kFunc X A tinyP.f0 → Calls Try.prog 13 #[.agg #[.slice A 1 c], .int .i64 9] X fun e W' => e = .returned (.int .i64 3) ∧ Bel X W') := ⟨fun A c X hR => by
  have h := Steps_any tinyP X A c hR hp 9
  rw [e4] at h
  exact h⟩
 clear e1 e2 e3 e4 e5
 go_enter Try.func8, Try.ntmps8
 go_upto_region 2 with (first | (go_at_call 18; ((with_reducible refine (htn.out _).mono ?_); rintro e w1 ⟨A, c, rfl, hR1, hB1⟩)) | (go_at_call 12; ((with_reducible refine (hr9.out _ _ _ hR1).mono ?_); rintro e w2 ⟨EA, ec, vc, rfl, hE, hB2⟩)))
 obtain ⟨g, hg⟩ : ∃ g, w2.heap.size = g := ⟨_, rfl⟩
 have hBc := (Bel.refl w2).alloc (.cells #[.slice EA 1 ec, .int .i64 1, .int .i64 5, .int .i64 vc] 34)
 have hbk := heap_new' (o := .cells #[.slice EA 1 ec, .int .i64 1, .int .i64 5, .int .i64 vc] 34) hg.symm
 rw [hg]
 generalize w2.alloc (.cells #[.slice EA 1 ec, .int .i64 1, .int .i64 5, .int .i64 vc] 34) = wb at hBc hbk ⊢
 have hE := hE.step hBc
 have hBw := (hB1.trans hB2).trans hBc
 have y0 : wb.cell? ⟨g, 0, none⟩ = some (.slice EA 1 ec) := blk_cell hbk 0
 have hin := Ints_any EA (some ⟨wb.heap.size, 0, none⟩) ec 1 [5] [5] (wb.alloc (.cells (nums .i64 [5]).toArray 3)) (hE.step ((Bel.refl wb).alloc _)) (Rd.lit .i64 3 wb [5] (by decide)) (by decide)
 rw [show decide (([5] : List Int) = [5]) = true by decide] at hin
 simp only [nums, List.map_cons, List.map_nil, List.length_cons, List.length_nil, Nat.zero_add] at hin
 have hBl := (Bel.refl wb).alloc (.cells #[.int .i64 5] 3)
 replace hin := Aside0.mk hin
 replace hg := Aside0.mk hg
 clear hR1 hB1 hB2 hBc
 go_wp2_with (first | (go_at_call 19; ((with_reducible refine hin.out.mono ?_); rintro e w3 ⟨rfl, hq3⟩; have hB3 := hBl.trans (Bel.drawn hq3); have hb3 := hB3.blk hbk; have z1 := blk_cell hb3 1; have z2 := blk_cell hb3 2; replace hBw := hBw.trans hB3)) | (go_at_call 18; ((with_reducible refine (htn.out _).mono ?_); rintro e w4 ⟨A, c, rfl, hR1, hB1⟩; replace hBw := hBw.trans hB1)) | (go_at_call 12; ((with_reducible refine (hr2.out _ _ _ hR1).mono ?_); rintro e w5 ⟨EA2, el, ec2, vv, vc2, rfl, hB2⟩; replace hBw := hBw.trans hB2)) | (go_at_call 13; ((with_reducible refine (hst.out _ _ _ hR1).mono ?_); rintro e w5 ⟨rfl, hB2⟩; replace hBw := hBw.trans hB2)))
 go_ret
 exact ⟨rfl, hBw⟩
end Go.Proofs.Ytodjpbidjldblaa.H
