/- Texts joined. Conditions: each stands with its theorem. -/
import Derived.Test.YtodjpbidjldblaaX13
import Derived.Test.YtodjpbidjldblaaX14
import Derived.Test.YtodjpbidjldblaaX01
import Derived.Test.YtodjpbidjldblaaX08
import Derived.OpenShut
namespace Go.Proofs.Ytodjpbidjldblaa.H
open Go.RowKit Go.Proofs.YtodjpbidjldblaaW.PrintWords
set_option linter.unusedVariables false
set_option linter.unusedSimpArgs false
theorem step_evs {p : SProg} {s : VSt} : (stepL p s).evs = s.evs ∨ ∃ f r v, s.stack = f :: r ∧ (insAt p f).f0 = 20 ∧ (stepL p s).evs = s.evs ++ [v] := by
 unfold stepL
 cases hs : s.stack with
 | nil => exact .inl rfl
 | cons f r =>
  dsimp only
  split
  ·exact .inl rfl
  ·split
   ·split
    ·exact .inl rfl
    ·split <;> exact .inl rfl
   ·unfold leadL
    split
    ·split <;> exact .inl rfl
    split
    ·rename_i h
     exact .inr ⟨f, r, _, rfl, h, rfl⟩
    split
    ·exact .inl rfl
    split
    ·exact .inl rfl
    split
    ·unfold leaveL
     cases r <;> exact .inl rfl
    ·exact .inl rfl
theorem run_evs {p : SProg} (s : VSt) (n : Nat) : ∃ l, (runL p n s).evs = s.evs ++ l := by
 induction n with
 | zero => exact ⟨[], by simp [runL]⟩
 | succ n ih =>
  obtain ⟨l, hl⟩ := ih
  rw [runL_succ]
  split
  ·rcases step_evs (p := p) (s := runL p n s) with h | ⟨_, _, v, _, _, h⟩
   ·exact ⟨l, by rw [h, hl]⟩
   ·exact ⟨l ++ [v], by rw [h, hl, List.append_assoc]⟩
  ·exact ⟨l, hl⟩
end Go.Proofs.Ytodjpbidjldblaa.H
namespace Go.Proofs.Ytodjpbidjldblaa.H
open Go.RowKit Go.Proofs.YtodjpbidjldblaaW.PrintWords Go.Proofs.YtodjpbidjldblaaW.PrintLast Go.Proofs.Ytodjpbidjldblaa.PRunEdges
set_option linter.unusedVariables false
set_option linter.unusedSimpArgs false
theorem Rd.pre {α : Type} {d : Kd α} {W : World} {A : Option Addr} {xs ys : List α} (h : Rd d W A (xs ++ ys)) : Rd d W A xs := by
 obtain ⟨h1, h2, h3⟩ := h.out
 refine ⟨⟨rfl, by simp at h2; omega, fun hn => ?_⟩⟩
 obtain ⟨ad, e, h4⟩ := h3 (by simp; omega)
 refine ⟨ad, e, fun j p hp => h4 j p ?_⟩
 have hj := (List.getElem?_eq_some_iff.1 hp).1
 rw [List.getElem?_append_left hj]
 exact hp
set_option maxRecDepth 100000 in
set_option maxHeartbeats 2000000 in
theorem Begins_any (A0 A1 : Option Addr) (c0 c1 : Nat) (l0 r : List Int) (w : World) (H0 : RdI w A0 l0) (H1 : RdI w A1 (l0 ++ r)) (hc : (l0 ++ r).length ≤ c1) (hl : (l0 ++ r).length ≤ 1000000) :
  Calls Try.prog 16 #[.slice A0 l0.length c0, .slice A1 (l0 ++ r).length c1] w fun e w' => e = .returned (.bool true) ∧ Bel w w' := by
 have hin := Aside0.mk (fun c => Ints_any A0 A1 c0 c l0 l0 w H0 H1.pre (by simp at hl; omega))
 rw [show decide (l0 = l0) = true by simp] at hin
 simp only [List.length_append] at hc hl ⊢
 obtain ⟨n, hn⟩ : ∃ n, l0.length = n := ⟨_, rfl⟩
 obtain ⟨m, hm⟩ : ∃ m, r.length = m := ⟨_, rfl⟩
 rw [hn, hm] at hc hl ⊢
 rw [hn] at hin
 have q1 : (n : Int) ≤ ((n + m : Nat) : Int) := by omega
 have q2 : (0 : Int) ≤ (n : Int) := by omega
 have q3 : (n : Int) ≤ (c1 : Int) := by omega
 clear hn hm
 go_enter Try.func16, Try.ntmps16
 go_wp2_with (go_at_call 19; ((with_reducible refine (hin.out _).mono ?_); rintro e w2 ⟨rfl, hq2⟩))
 go_ret
 exact ⟨rfl, Bel.drawn hq2⟩
end Go.Proofs.Ytodjpbidjldblaa.H
namespace Go.Proofs.Ytodjpbidjldblaa.H
open Go.RowKit Go.Proofs.YtodjpbidjldblaaW.PrintWords Go.Proofs.YtodjpbidjldblaaW.PrintLast
set_option linter.unusedVariables false
set_option linter.unusedSimpArgs false
set_option maxRecDepth 100000
set_option maxHeartbeats 4000000 in
theorem SameT_any (A0 A1 : Option Addr) (c0 c1 : Nat) (l : List Int) (f v c : Int) (w : World) (H0 : RdI w A0 l) (H1 : RdI w A1 l) (hl : l.length ≤ 1000000) :
  Calls Try.prog 11 #[.agg #[.slice A0 l.length c0, .int .i64 f, .int .i64 v, .int .i64 c], .agg #[.slice A1 l.length c1, .int .i64 f, .int .i64 v, .int .i64 c]] w fun e w' => e = .returned (.bool true) ∧ Bel w w' := by
 obtain ⟨g, hg⟩ : ∃ g, w.heap.size = g := ⟨_, rfl⟩
 have hB := ((Bel.refl w).alloc (.cells #[.slice A0 l.length c0, .int .i64 f, .int .i64 v, .int .i64 c] 34)).alloc (.cells #[.slice A1 l.length c1, .int .i64 f, .int .i64 v, .int .i64 c] 34)
 have hb0 : ((w.alloc (.cells #[.slice A0 l.length c0, .int .i64 f, .int .i64 v, .int .i64 c] 34)).alloc (.cells #[.slice A1 l.length c1, .int .i64 f, .int .i64 v, .int .i64 c] 34)).heap[g]? = some (.cells #[.slice A0 l.length c0, .int .i64 f, .int .i64 v, .int .i64 c] 34 (0, 0)) := heap_old (heap_new' hg.symm)
 have hb1 : ((w.alloc (.cells #[.slice A0 l.length c0, .int .i64 f, .int .i64 v, .int .i64 c] 34)).alloc (.cells #[.slice A1 l.length c1, .int .i64 f, .int .i64 v, .int .i64 c] 34)).heap[g + 1]? = some (.cells #[.slice A1 l.length c1, .int .i64 f, .int .i64 v, .int .i64 c] 34 (0, 0)) := heap_new' (by simp [hg])
 go_enter Try.func11, Try.ntmps11
 go_upto_region 1 with (fail)
 generalize (w.alloc (.cells #[.slice A0 l.length c0, .int .i64 f, .int .i64 v, .int .i64 c] 34)).alloc (.cells #[.slice A1 l.length c1, .int .i64 f, .int .i64 v, .int .i64 c] 34) = wa at hB hb0 hb1 ⊢
 replace hg := Aside0.mk hg
 have hin := Aside0.mk (Ints_any A0 A1 c0 c1 l l wa (H0.step hB) (H1.step hB) (by omega))
 rw [show decide (l = l) = true by simp] at hin
 have x0 : wa.cell? ⟨g, 0, none⟩ = some (.slice A0 l.length c0) := blk_cell hb0 0
 have y0 : wa.cell? ⟨g + 1, 0, none⟩ = some (.slice A1 l.length c1) := blk_cell hb1 0
 go_wp2_with (go_at_call 19; ((with_reducible refine hin.out.mono ?_); rintro e w2 ⟨rfl, hq2⟩; have hB2 := Bel.drawn hq2; have x1 := blk_cell (hB2.blk hb0) 1; have x2 := blk_cell (hB2.blk hb0) 2; have x3 := blk_cell (hB2.blk hb0) 3; have y1 := blk_cell (hB2.blk hb1) 1; have y2 := blk_cell (hB2.blk hb1) 2; have y3 := blk_cell (hB2.blk hb1) 3))
 go_ret
 exact ⟨rfl, hB.trans hB2⟩
end Go.Proofs.Ytodjpbidjldblaa.H
namespace Go.Proofs.Ytodjpbidjldblaa.H
open Go.RowKit Go.Proofs.YtodjpbidjldblaaW.PrintWords Go.ChangeShapes Go.WideShapes Go.Deep
set_option linter.unusedVariables false
set_option linter.unusedSimpArgs false
section
variable {H : Type} {enc : TypeId × Value → H} {W : World} {P : Program} {t e : TypeId} {k : IntKind}
theorem okWide_array {n : Nat} {w : World} {r : Reach} {base : Nat} {v : Value} (ht : P.underlying t = some (.array n e)) (h : Value.okWide P w r base t v) : ∃ cs, v = .agg cs ∧ cs.size = P.cellsOf t := by
 simp only [Value.okWide, ht] at h
 obtain ⟨cs, h1, h2, _⟩ := h
 exact ⟨cs, h1, h2⟩
theorem open_two (ht : P.underlying t = some (.array 2 e)) (he : P.underlying e = some (.int k)) (hc : P.cellsOf e = 1) (hct : P.cellsOf t = 2) {fuel : Nat} {cs : List Value} {x : DataW H × List MemPlace} (hx : DataW.trod enc P W 0 (fun _ => true) true fuel t cs = some x) : ∃ a b : Int, cs = [.int k a, .int k b] ∧ (Lit.int k a).wf = true ∧ (Lit.int k b).wf = true := by
 obtain ⟨xs, m, rfl, rfl, hl, hn, hi⟩ := DataW.trod_array ht hx
 rw [hct] at hl
 obtain ⟨c0, c1, rfl⟩ : ∃ c0 c1, cs = [c0, c1] := by
  match cs, hl with
  | [c0, c1], _ => exact ⟨c0, c1, rfl⟩
 obtain ⟨x0, x1, rfl⟩ : ∃ x0 x1, xs = [x0, x1] := by
  match xs, hn with
  | [x0, x1], _ => exact ⟨x0, x1, rfl⟩
 have h0 := hi 0 (by omega)
 have h1 := hi 1 (by omega)
 rw [hc] at h0 h1
 have h0 : DataW.trod enc P W 0 (fun _ => true) true m e [c0] = some x0 := h0
 have h1 : DataW.trod enc P W 0 (fun _ => true) true m e [c1] = some x1 := h1
 obtain ⟨a, e0, _, w0⟩ := DataW.trod_int he h0
 obtain ⟨b, e1, _, w1⟩ := DataW.trod_int he h1
 refine ⟨a, b, ?_, w0, w1⟩
 injection e0 with e0 _
 injection e1 with e1 _
 rw [e0, e1]
end
theorem under_two : Try.prog.underlying 46 = some (.array 2 42) := by kernel_rfl
theorem cells_two : Try.prog.cellsOf 46 = 2 := by kernel_rfl
theorem cells_u16 : Try.prog.cellsOf 42 = 1 := by kernel_rfl
end Go.Proofs.Ytodjpbidjldblaa.H
