/- Texts joined. Conditions: each stands with its theorem. -/
import Derived.Test.YtodjpbidjldblaaP00
import Derived.Test.YtodjpbidjldblaaP01
namespace Go.Proofs.Ytodjpbidjldblaa.PRunEdges
open Go.RowKit Go.Proofs.YtodjpbidjldblaaW.PrintWords Go.Proofs.YtodjpbidjldblaaW.PrintLast Go.Proofs.YtodjpbidjldblaaW.PrintMore
attribute [local go_sem] max2_int min2_int max_two min_two max_three -- for this text's walks alone
set_option linter.unusedVariables false
set_option linter.unusedSimpArgs false
mutual
def portolanref05_Within.j0 : Nat → Int → Int → List Bool → Bool → List Int → List Int → Int → Int → List (S55) → Option (List Bool)
 | 0, _, _, _, _, _, _, _, _, _ => none
 | k + 1, x1, x2, x7, x25, x328000, x328001, x328002, x328003, x328004 => if x25 = true then (some x7) else (if 0 ≤ x1 then (if x1 < (x7.length : Int) then (portolanref05_Within.l0 k x2 (x7.set (x1 : Int).toNat true) 0 x328000 x328001 x328002 x328003 x328004) else (none)) else (none))
def portolanref05_Within.l0 : Nat → Int → List Bool → Int → List Int → List Int → Int → Int → List (S55) → Option (List Bool)
 | 0, _, _, _, _, _, _, _, _ => none
 | k + 1, x2, x7, x8, x328000, x328001, x328002, x328003, x328004 => if x8 < (x328004.length : Int) then (portolanref05_Within.l1 k x2 x7 x8 0 x328000 x328001 x328002 x328003 x328004) else (some x7)
def portolanref05_Within.l1 : Nat → Int → List Bool → Int → Int → List Int → List Int → Int → Int → List (S55) → Option (List Bool)
 | 0, _, _, _, _, _, _, _, _, _ => none
 | k + 1, x2, x7, x8, x9, x328000, x328001, x328002, x328003, x328004 => if x9 < (x328004.length : Int) then ((portolanref05_Next.f x328000 x328001 x328002 x328003 x328004 x9).bind fun t332 => (portolanref05_Within.l2 k x2 x7 x8 x9 t332 0 x328000 x328001 x328002 x328003 x328004)) else (portolanref05_Within.l0 k x2 x7 (wrap64 (x8 + 1)) x328000 x328001 x328002 x328003 x328004)
def portolanref05_Within.l2 : Nat → Int → List Bool → Int → Int → List Int → Int → List Int → List Int → Int → Int → List (S55) → Option (List Bool)
 | 0, _, _, _, _, _, _, _, _, _, _, _ => none
 | k + 1, x2, x7, x8, x9, x10, x11, x328000, x328001, x328002, x328003, x328004 => if x11 < (x10.length : Int) then (if 0 ≤ x9 then (if x9 < (x7.length : Int) then (portolanref05_Within.j4 k x2 x7 x8 x9 x10 x11 (rdOf false x7 x9) x328000 x328001 x328002 x328003 x328004) else (none)) else (none)) else (portolanref05_Within.j4 k x2 x7 x8 x9 x10 x11 false x328000 x328001 x328002 x328003 x328004)
def portolanref05_Within.j4 : Nat → Int → List Bool → Int → Int → List Int → Int → Bool → List Int → List Int → Int → Int → List (S55) → Option (List Bool)
 | 0, _, _, _, _, _, _, _, _, _, _, _, _ => none
 | k + 1, x2, x7, x8, x9, x10, x11, x56, x328000, x328001, x328002, x328003, x328004 => if x56 = true then (if 0 ≤ x11 then (if x11 < (x10.length : Int) then (if (rd x10 x11) ≥ 0 then (if (rd x10 x11) < (x7.length : Int) then (if (rd x10 x11) = x2 then (portolanref05_Within.l2 k x2 x7 x8 x9 x10 (wrap64 (x11 + 1)) x328000 x328001 x328002 x328003 x328004) else (if 0 ≤ (rd x10 x11) then (portolanref05_Within.l2 k x2 (x7.set ((rd x10 x11) : Int).toNat true) x8 x9 x10 (wrap64 (x11 + 1)) x328000 x328001 x328002 x328003 x328004) else (none))) else (portolanref05_Within.l2 k x2 x7 x8 x9 x10 (wrap64 (x11 + 1)) x328000 x328001 x328002 x328003 x328004)) else (portolanref05_Within.l2 k x2 x7 x8 x9 x10 (wrap64 (x11 + 1)) x328000 x328001 x328002 x328003 x328004)) else (none)) else (none)) else (portolanref05_Within.l1 k x2 x7 x8 (wrap64 (x9 + 1)) x328000 x328001 x328002 x328003 x328004)
end
def portolanref05_Within.f (k : Nat) (l0_0 : List Int) (l0_1 : List Int) (a0_2 : Int) (a0_3 : Int) (l0_4 : List (S55)) (a1 : Int) (a2 : Int) : Option (List Bool) := if 0 ≤ (l0_4.length : Int) then (if ((l0_4.length : Int) : Int).toNat ≤ 281474976710656 then ((some (List.replicate ((l0_4.length : Int) : Int).toNat false : List Bool)).bind fun y328 => (if a1 = a2 then (portolanref05_Within.j0 k a1 a2 y328 true l0_0 l0_1 a0_2 a0_3 l0_4) else (portolanref05_Within.j0 k a1 a2 y328 (decide (a1 ≥ (l0_4.length : Int))) l0_0 l0_1 a0_2 a0_3 l0_4))) else (none)) else (none)
theorem portolanref05_Within.mono_l : ∀ k, (∀ y0 y1 y2 y3 y4 y5 y6 y7 y8, LeO (portolanref05_Within.j0 k y0 y1 y2 y3 y4 y5 y6 y7 y8) (portolanref05_Within.j0 (k + 1) y0 y1 y2 y3 y4 y5 y6 y7 y8)) ∧ (∀ y0 y1 y2 y3 y4 y5 y6 y7, LeO (portolanref05_Within.l0 k y0 y1 y2 y3 y4 y5 y6 y7) (portolanref05_Within.l0 (k + 1) y0 y1 y2 y3 y4 y5 y6 y7)) ∧ (∀ y0 y1 y2 y3 y4 y5 y6 y7 y8, LeO (portolanref05_Within.l1 k y0 y1 y2 y3 y4 y5 y6 y7 y8) (portolanref05_Within.l1 (k + 1) y0 y1 y2 y3 y4 y5 y6 y7 y8)) ∧ (∀ y0 y1 y2 y3 y4 y5 y6 y7 y8 y9 y10, LeO (portolanref05_Within.l2 k y0 y1 y2 y3 y4 y5 y6 y7 y8 y9 y10) (portolanref05_Within.l2 (k + 1) y0 y1 y2 y3 y4 y5 y6 y7 y8 y9 y10)) ∧ (∀ y0 y1 y2 y3 y4 y5 y6 y7 y8 y9 y10 y11, LeO (portolanref05_Within.j4 k y0 y1 y2 y3 y4 y5 y6 y7 y8 y9 y10 y11) (portolanref05_Within.j4 (k + 1) y0 y1 y2 y3 y4 y5 y6 y7 y8 y9 y10 y11))
 | 0 => ⟨fun _ _ _ _ _ _ _ _ _ r h => by simp [portolanref05_Within.j0] at h, fun _ _ _ _ _ _ _ _ r h => by simp [portolanref05_Within.l0] at h, fun _ _ _ _ _ _ _ _ _ r h => by simp [portolanref05_Within.l1] at h, fun _ _ _ _ _ _ _ _ _ _ _ r h => by simp [portolanref05_Within.l2] at h, fun _ _ _ _ _ _ _ _ _ _ _ _ r h => by simp [portolanref05_Within.j4] at h⟩
 | k + 1 => by
  obtain ⟨ih0, ih1, ih2, ih3, ih4⟩ := portolanref05_Within.mono_l k
  refine ⟨?_, ?_, ?_, ?_, ?_⟩
  ·intro y0 y1 y2 y3 y4 y5 y6 y7 y8
   unfold portolanref05_Within.j0
   repeat' first
   | (with_reducible exact ih0 _ _ _ _ _ _ _ _ _)
   | (with_reducible exact ih1 _ _ _ _ _ _ _ _)
   | (with_reducible exact ih2 _ _ _ _ _ _ _ _ _)
   | (with_reducible exact ih3 _ _ _ _ _ _ _ _ _ _ _)
   | (with_reducible exact ih4 _ _ _ _ _ _ _ _ _ _ _ _)
   | (with_reducible exact LeO.refl _)
   | (with_reducible exact LeO.none _)
   | (with_reducible refine LeO.ite ?_ ?_)
   | (with_reducible refine LeO.bind ?_ (fun _ => ?_))
   | exact ih0 _ _ _ _ _ _ _ _ _
   | exact ih1 _ _ _ _ _ _ _ _
   | exact ih2 _ _ _ _ _ _ _ _ _
   | exact ih3 _ _ _ _ _ _ _ _ _ _ _
   | exact ih4 _ _ _ _ _ _ _ _ _ _ _ _
   | exact LeO.none _
   | refine LeO.ite ?_ ?_
   | refine LeO.bind ?_ (fun _ => ?_)
  ·intro y0 y1 y2 y3 y4 y5 y6 y7
   unfold portolanref05_Within.l0
   repeat' first
   | (with_reducible exact ih0 _ _ _ _ _ _ _ _ _)
   | (with_reducible exact ih1 _ _ _ _ _ _ _ _)
   | (with_reducible exact ih2 _ _ _ _ _ _ _ _ _)
   | (with_reducible exact ih3 _ _ _ _ _ _ _ _ _ _ _)
   | (with_reducible exact ih4 _ _ _ _ _ _ _ _ _ _ _ _)
   | (with_reducible exact LeO.refl _)
   | (with_reducible exact LeO.none _)
   | (with_reducible refine LeO.ite ?_ ?_)
   | (with_reducible refine LeO.bind ?_ (fun _ => ?_))
   | exact ih0 _ _ _ _ _ _ _ _ _
   | exact ih1 _ _ _ _ _ _ _ _
   | exact ih2 _ _ _ _ _ _ _ _ _
   | exact ih3 _ _ _ _ _ _ _ _ _ _ _
   | exact ih4 _ _ _ _ _ _ _ _ _ _ _ _
   | exact LeO.none _
   | refine LeO.ite ?_ ?_
   | refine LeO.bind ?_ (fun _ => ?_)
  ·intro y0 y1 y2 y3 y4 y5 y6 y7 y8
   unfold portolanref05_Within.l1
   repeat' first
   | (with_reducible exact ih0 _ _ _ _ _ _ _ _ _)
   | (with_reducible exact ih1 _ _ _ _ _ _ _ _)
   | (with_reducible exact ih2 _ _ _ _ _ _ _ _ _)
   | (with_reducible exact ih3 _ _ _ _ _ _ _ _ _ _ _)
   | (with_reducible exact ih4 _ _ _ _ _ _ _ _ _ _ _ _)
   | (with_reducible exact LeO.refl _)
   | (with_reducible exact LeO.none _)
   | (with_reducible refine LeO.ite ?_ ?_)
   | (with_reducible refine LeO.bind ?_ (fun _ => ?_))
   | exact ih0 _ _ _ _ _ _ _ _ _
   | exact ih1 _ _ _ _ _ _ _ _
   | exact ih2 _ _ _ _ _ _ _ _ _
   | exact ih3 _ _ _ _ _ _ _ _ _ _ _
   | exact ih4 _ _ _ _ _ _ _ _ _ _ _ _
   | exact LeO.none _
   | refine LeO.ite ?_ ?_
   | refine LeO.bind ?_ (fun _ => ?_)
  ·intro y0 y1 y2 y3 y4 y5 y6 y7 y8 y9 y10
   unfold portolanref05_Within.l2
   repeat' first
   | (with_reducible exact ih0 _ _ _ _ _ _ _ _ _)
   | (with_reducible exact ih1 _ _ _ _ _ _ _ _)
   | (with_reducible exact ih2 _ _ _ _ _ _ _ _ _)
   | (with_reducible exact ih3 _ _ _ _ _ _ _ _ _ _ _)
   | (with_reducible exact ih4 _ _ _ _ _ _ _ _ _ _ _ _)
   | (with_reducible exact LeO.refl _)
   | (with_reducible exact LeO.none _)
   | (with_reducible refine LeO.ite ?_ ?_)
   | (with_reducible refine LeO.bind ?_ (fun _ => ?_))
   | exact ih0 _ _ _ _ _ _ _ _ _
   | exact ih1 _ _ _ _ _ _ _ _
   | exact ih2 _ _ _ _ _ _ _ _ _
   | exact ih3 _ _ _ _ _ _ _ _ _ _ _
   | exact ih4 _ _ _ _ _ _ _ _ _ _ _ _
   | exact LeO.none _
   | refine LeO.ite ?_ ?_
   | refine LeO.bind ?_ (fun _ => ?_)
  ·intro y0 y1 y2 y3 y4 y5 y6 y7 y8 y9 y10 y11
   unfold portolanref05_Within.j4
   repeat' first
   | (with_reducible exact ih0 _ _ _ _ _ _ _ _ _)
   | (with_reducible exact ih1 _ _ _ _ _ _ _ _)
   | (with_reducible exact ih2 _ _ _ _ _ _ _ _ _)
   | (with_reducible exact ih3 _ _ _ _ _ _ _ _ _ _ _)
   | (with_reducible exact ih4 _ _ _ _ _ _ _ _ _ _ _ _)
   | (with_reducible exact LeO.refl _)
   | (with_reducible exact LeO.none _)
   | (with_reducible refine LeO.ite ?_ ?_)
   | (with_reducible refine LeO.bind ?_ (fun _ => ?_))
   | exact ih0 _ _ _ _ _ _ _ _ _
   | exact ih1 _ _ _ _ _ _ _ _
   | exact ih2 _ _ _ _ _ _ _ _ _
   | exact ih3 _ _ _ _ _ _ _ _ _ _ _
   | exact ih4 _ _ _ _ _ _ _ _ _ _ _ _
   | exact LeO.none _
   | refine LeO.ite ?_ ?_
   | refine LeO.bind ?_ (fun _ => ?_)
theorem portolanref05_Within.mono : ∀ a0 a1 a2 a3 a4 a5 a6 k, LeO (portolanref05_Within.f k a0 a1 a2 a3 a4 a5 a6) (portolanref05_Within.f (k + 1) a0 a1 a2 a3 a4 a5 a6) := by
 intro a0 a1 a2 a3 a4 a5 a6 k
 obtain ⟨ih0, ih1, ih2, ih3, ih4⟩ := portolanref05_Within.mono_l k
 unfold portolanref05_Within.f
 repeat' first
   | (with_reducible exact ih0 _ _ _ _ _ _ _ _ _)
   | (with_reducible exact ih1 _ _ _ _ _ _ _ _)
   | (with_reducible exact ih2 _ _ _ _ _ _ _ _ _)
   | (with_reducible exact ih3 _ _ _ _ _ _ _ _ _ _ _)
   | (with_reducible exact ih4 _ _ _ _ _ _ _ _ _ _ _ _)
   | (with_reducible exact LeO.refl _)
   | (with_reducible exact LeO.none _)
   | (with_reducible refine LeO.ite ?_ ?_)
   | (with_reducible refine LeO.bind ?_ (fun _ => ?_))
   | exact ih0 _ _ _ _ _ _ _ _ _
   | exact ih1 _ _ _ _ _ _ _ _
   | exact ih2 _ _ _ _ _ _ _ _ _
   | exact ih3 _ _ _ _ _ _ _ _ _ _ _
   | exact ih4 _ _ _ _ _ _ _ _ _ _ _ _
   | exact LeO.none _
   | refine LeO.ite ?_ ?_
   | refine LeO.bind ?_ (fun _ => ?_)
set_option maxHeartbeats 8000000 in
set_option maxRecDepth 100000 in
theorem portolanref05_Within.calls (k : Nat) (A0_0 : Option Addr) (c0_0 : Nat) (l0_0 : List Int) (A0_1 : Option Addr) (c0_1 : Nat) (l0_1 : List Int) (a0_2 : Int) (a0_3 : Int) (A0_4 : Option Addr) (c0_4 : Nat) (l0_4 : List (S55)) (a1 : Int) (a2 : Int) (r : List Bool) (w : World) (hr0_0 : Kd.C (Kd.int .i64) w A0_0 l0_0.length l0_0) (hc0_0 : l0_0.length ≤ c0_0) (hr0_1 : Kd.C (Kd.int .i64) w A0_1 l0_1.length l0_1) (hc0_1 : l0_1.length ≤ c0_1) (hr0_4 : Kd.C k55 w A0_4 l0_4.length l0_4) (hc0_4 : l0_4.length ≤ c0_4) (h : portolanref05_Within.f k l0_0 l0_1 a0_2 a0_3 l0_4 a1 a2 = some r) :
  Calls Try.prog 31 #[.agg #[.slice A0_0 l0_0.length c0_0, .slice A0_1 l0_1.length c0_1, .int .i64 a0_2, .int .i64 a0_3, .slice A0_4 l0_4.length c0_4], .int .i64 a1, .int .i64 a2] w fun e w' => ∃ v0_ : Value, e = .returned (v0_) ∧ Kd.R Kd.bool 4 w' w.heap.size (fun _ => True) v0_ r ∧ Below w.heap.size w w' := by
 have hu52 := Try.underlying52
 have HR0_0 := Aside0.mk hr0_0
 have HC0_0 := Aside0.mk hc0_0
 clear hr0_0 hc0_0
 have HR0_1 := Aside0.mk hr0_1
 have HC0_1 := Aside0.mk hc0_1
 clear hr0_1 hc0_1
 have HR0_4 := Aside0.mk hr0_4
 have HC0_4 := Aside0.mk hc0_4
 clear hr0_4 hc0_4
 have HB := Aside0.mk (Below.refl w.heap.size w)
 have H : (if 0 ≤ (l0_4.length : Int) then (if ((l0_4.length : Int) : Int).toNat ≤ 281474976710656 then ((some (List.replicate ((l0_4.length : Int) : Int).toNat false : List Bool)).bind fun y328 => (if a1 = a2 then (portolanref05_Within.j0 k a1 a2 y328 true l0_0 l0_1 a0_2 a0_3 l0_4) else (portolanref05_Within.j0 k a1 a2 y328 (decide (a1 ≥ (l0_4.length : Int))) l0_0 l0_1 a0_2 a0_3 l0_4))) else (none)) else (none)) = some r := h
 clear h
 by_cases c4 : 0 ≤ (l0_4.length : Int)
 ·rw [if_pos c4] at H
  have c4b0 := eq_true c4
  have c4b1 : decide (0 ≤ (l0_4.length : Int)) = true := decide_eq_true c4
  clear c4
  by_cases c5 : ((l0_4.length : Int) : Int).toNat ≤ 281474976710656
  ·rw [if_pos c5] at H
   have c5b0 := eq_true c5
   have c5b1 : decide (((l0_4.length : Int) : Int).toNat ≤ 281474976710656) = true := decide_eq_true c5
   clear c5
   obtain ⟨y328, hy328⟩ : ∃ y_ : List Bool, y_ = (List.replicate ((l0_4.length : Int) : Int).toNat false) := ⟨_, rfl⟩
   replace H : (if a1 = a2 then (portolanref05_Within.j0 k a1 a2 y328 true l0_0 l0_1 a0_2 a0_3 l0_4) else (portolanref05_Within.j0 k a1 a2 y328 (decide (a1 ≥ (l0_4.length : Int))) l0_0 l0_1 a0_2 a0_3 l0_4)) = some r := by first | (rw [hy328]; with_reducible exact H) | (have H2_ := (Option.bind_some _ _).symm.trans H; rw [hy328]; with_reducible exact H2_) | (have H2_ := (Option.bind_some _ _).symm.trans H; with_reducible exact H2_) | with_reducible exact H | (rw [hy328]; exact H) | exact H
   have Ny328 := Aside0.mk hy328
   clear hy328
   have HC6 := Aside0.mk H
   clear H
   go_enter Try.func31, Try.ntmps31
   go_upto_region 2 with (first | ((with_reducible refine gate_dst (N := 3) rfl ?_); (try (refine gate_guard (by rfl) ?_; dsimp only)); refine box_event ?hg (N := 3) ?hd (cs := #[.slice A0_0 l0_0.length c0_0, .slice A0_1 l0_1.length c0_1, .int .i64 a0_2, .int .i64 a0_3, .slice A0_4 l0_4.length c0_4]) (t := 52) ?hr ?_; (case hd => rfl); (case hg => rfl); (case hr => first | (go_simp; done) | (go_simp; rfl)); intro gb327 hg w7 hbox hb; have n0_ := Aside0.mk (below_step (by repeat (first | (with_reducible first | exact HB.out | apply below_alloc | apply pw_below_drewN | apply below_drew1) | exact HB.out)) hb); have n1_ := Aside0.mk (hbox); have n2_ := Aside0.mk ((by rw [hg]; exact (below_size (by repeat (first | (with_reducible first | exact HB.out | apply below_alloc | apply pw_below_drewN | apply below_drew1) | exact HB.out))) : w.heap.size ≤ gb327)); have n3_ := Aside0.mk ((by rw [hg]; exact (below_size (by repeat (first | (with_reducible first | exact HB.out | apply below_alloc | apply pw_below_drewN | apply below_drew1) | exact HB.out))) : w.heap.size ≤ gb327)); clear HB; have HB := n0_; have BK327 := n1_; have GW327 := n2_; have GE327 := n3_; clear n0_ n1_ n2_ n3_; clear hb hbox hg; have hcz8_0 : w7.cell? ⟨gb327, 0, none⟩ = some (.slice A0_0 l0_0.length c0_0) := (blk_cell BK327.out 0).trans rfl; have hcz8_1 : w7.cell? ⟨gb327, 1, none⟩ = some (.slice A0_1 l0_1.length c0_1) := (blk_cell BK327.out 1).trans rfl; have hcz8_2 : w7.cell? ⟨gb327, 2, none⟩ = some (.int .i64 a0_2) := (blk_cell BK327.out 2).trans rfl; have hcz8_3 : w7.cell? ⟨gb327, 3, none⟩ = some (.int .i64 a0_3) := (blk_cell BK327.out 3).trans rfl; have hcz8_4 : w7.cell? ⟨gb327, 4, none⟩ = some (.slice A0_4 l0_4.length c0_4) := (blk_cell BK327.out 4).trans rfl; have hfz8_0 := blk_frozen BK327.out 0; have hfz8_1 := blk_frozen BK327.out 1; have hfz8_2 := blk_frozen BK327.out 2; have hfz8_3 := blk_frozen BK327.out 3; have hfz8_4 := blk_frozen BK327.out 4) | ((with_reducible refine gate_dst (N := 15) rfl ?_); (try (refine gate_guard (by rfl) ?_; dsimp only)); refine Kd.R_make Kd.bool _ 4 rfl (N := 15) rfl 79 _ _ rfl (l0_4.length : Int) rfl rfl Try.underlying79 (.bool false) 1 info4 rfl (by decide) (by omega) false (ok := fun _ => True) (okp := fun _ => True) rfl (fun _ hk => hk) trivial (of_decide_eq_true (by first | (with_reducible assumption) | assumption)) (Nat.le_trans (Nat.mul_le_mul_right _ (of_decide_eq_true (by first | (with_reducible assumption) | assumption) : (l0_4.length : Int).toNat ≤ 281474976710656)) (by omega)) (Below.refl _ _) (Nat.le_refl _) ?_; intro v329 w9 ho10 hb hg_ hnew_; clear hg_ hnew_; (first | rw [← Ny328.out] at ho10 | (simp only [Int.reduceToNat] at ho10; rw [← Ny328.out] at ho10)); have n0_ := Aside0.mk (Kd.R_lower ho10 (below_size (by repeat (first | (with_reducible first | exact HB.out | apply below_alloc | apply pw_below_drewN | apply below_drew1 | refine below_set ?_ GE327.out) | exact HB.out)))); have n1_ := Aside0.mk (blk_below (g := gb327) (o := .cells #[.slice A0_0 l0_0.length c0_0, .slice A0_1 l0_1.length c0_1, .int .i64 a0_2, .int .i64 a0_3, .slice A0_4 l0_4.length c0_4] 52 (0, 0)) (by (with_reducible repeat (first | refine blk_drewN ?_ _ | refine blk_drew ?_ | refine blk_alloc ?_ _)); exact BK327.out) hb); have n2_ := Aside0.mk (below_step (by repeat (first | (with_reducible first | exact HB.out | apply below_alloc | apply pw_below_drewN | apply below_drew1 | refine below_set ?_ GE327.out) | exact HB.out)) hb); clear BK327; clear HB; have HO330 := n0_; have BK327 := n1_; have HB := n2_; clear n0_ n1_ n2_; clear hb ho10))
   (try simp only [Act.put, List.setIfInBounds_toArray, List.set_cons_zero, List.set_cons_succ])
   go_cut [25] (fun v25 wc => ∃ (kq : Nat) (x25_5 : Bool), v25 = .bool x25_5 ∧ Aside0 (portolanref05_Within.j0 kq a1 a2 y328 x25_5 l0_0 l0_1 a0_2 a0_3 l0_4 = some r) ∧ Aside0 (kq ≤ k) ∧ Aside0 (Kd.R Kd.bool 4 wc w.heap.size (fun _ => True) v329 y328) ∧ Aside0 (wc.heap[gb327]? = some (.cells #[(.slice A0_0 l0_0.length c0_0), (.slice A0_1 l0_1.length c0_1), .int .i64 a0_2, .int .i64 a0_3, (.slice A0_4 l0_4.length c0_4)] 52 (0, 0))) ∧ Aside0 (Below w.heap.size w wc))
   case first =>
    have H := HC6.out
    clear HC6
    by_cases c11 : a1 = a2
    ·rw [if_pos c11] at H
     have c11b0 : (a1 == a2) = true := beq_iff_eq.mpr c11
     have c11b1 : (a1 != a2) = false := bne_eq_false_iff_eq.mpr c11
     clear c11
     (first | rw [c11b0] | (simp only [i64_w, i32_w]; rw [c11b0]) | skip)
     have H' := Aside0.mk H
     clear H
     go_wp2
     go_meet
     case rel => exact ⟨_, (true), (by first | rfl | (simp; done) | (simp [*]; done)), H', ⟨by first | omega | exact Nat.le_refl _⟩, ⟨by (with_reducible repeat (first | apply Kd.R_alloc | apply Kd.R_drewN | apply Kd.R_drew)); exact HO330.out⟩, ⟨by (with_reducible repeat (first | refine blk_drewN ?_ _ | refine blk_drew ?_ | refine blk_alloc ?_ _)); exact BK327.out⟩, ⟨by repeat (first | (with_reducible first | exact HB.out | apply below_alloc | apply pw_below_drewN | apply below_drew1 | refine below_set ?_ GE327.out) | exact HB.out)⟩⟩
    ·rw [if_neg c11] at H
     have c11b0 : (a1 == a2) = false := beq_eq_false_iff_ne.mpr c11
     have c11b1 : (a1 != a2) = true := bne_iff_ne.mpr c11
     (first | rw [c11b0] | (simp only [i64_w, i32_w]; rw [c11b0]) | skip)
     have H' := Aside0.mk H
     clear H
     have hcz12_0 : w9.cell? ⟨gb327, 0, none⟩ = some (.slice A0_0 l0_0.length c0_0) := (blk_cell BK327.out 0).trans rfl
     have hcz12_1 : w9.cell? ⟨gb327, 1, none⟩ = some (.slice A0_1 l0_1.length c0_1) := (blk_cell BK327.out 1).trans rfl
     have hcz12_2 : w9.cell? ⟨gb327, 2, none⟩ = some (.int .i64 a0_2) := (blk_cell BK327.out 2).trans rfl
     have hcz12_3 : w9.cell? ⟨gb327, 3, none⟩ = some (.int .i64 a0_3) := (blk_cell BK327.out 3).trans rfl
     have hcz12_4 : w9.cell? ⟨gb327, 4, none⟩ = some (.slice A0_4 l0_4.length c0_4) := (blk_cell BK327.out 4).trans rfl
     have hfz12_0 := blk_frozen BK327.out 0
     have hfz12_1 := blk_frozen BK327.out 1
     have hfz12_2 := blk_frozen BK327.out 2
     have hfz12_3 := blk_frozen BK327.out 3
     have hfz12_4 := blk_frozen BK327.out 4
     go_wp2
     go_meet
     case rel => exact ⟨_, (decide (a1 ≥ (l0_4.length : Int))), (by first | rfl | (simp; done) | (simp [*]; done)), H', ⟨by first | omega | exact Nat.le_refl _⟩, ⟨by (with_reducible repeat (first | apply Kd.R_alloc | apply Kd.R_drewN | apply Kd.R_drew)); exact HO330.out⟩, ⟨by (with_reducible repeat (first | refine blk_drewN ?_ _ | refine blk_drew ?_ | refine blk_alloc ?_ _)); exact BK327.out⟩, ⟨by repeat (first | (with_reducible first | exact HB.out | apply below_alloc | apply pw_below_drewN | apply below_drew1 | refine below_set ?_ GE327.out) | exact HB.out)⟩⟩
   case rest =>
    clear HC6
    obtain ⟨kq, x25_5, rfl, HA, HJ5, HO_7, BK327, HB⟩ := hcut
    cases kq with
    | zero => exact absurd HA.out (by simp [portolanref05_Within.j0])
    | succ kj5 =>
     have H := HA.out
     clear HA
     simp only [portolanref05_Within.j0] at H
     by_cases c13 : x25_5 = true
     ·subst c13
      have H1 : (some y328) = some r := by rw [if_pos rfl] at H; exact H
      clear H
      have H := H1
      clear H1
      obtain rfl := Option.some.inj H
      go_wp2
      go_ret
      exact ⟨_, by first | rfl | (simp [errW_none, errW_some] <;> rfl) | (simp [*, errW_none, errW_some] <;> rfl), by (with_reducible repeat (first | apply Kd.R_alloc | apply Kd.R_drewN | apply Kd.R_drew)); exact HO_7.out, by repeat (first | (with_reducible first | exact HB.out | apply below_alloc | apply pw_below_drewN | apply below_drew1 | refine below_set ?_ GE327.out) | exact HB.out)⟩
     ·replace c13 := Bool.eq_false_iff.mpr c13
      subst c13
      have H1 : (if 0 ≤ a1 then (if a1 < (y328.length : Int) then (portolanref05_Within.l0 kj5 a2 (y328.set (a1 : Int).toNat true) 0 l0_0 l0_1 a0_2 a0_3 l0_4) else (none)) else (none)) = some r := by rw [if_neg (show ¬ (false = true) by decide)] at H; exact H
      clear H
      have H := H1
      clear H1
      by_cases c14 : 0 ≤ a1
      ·rw [if_pos c14] at H
       have c14b0 : decide (0 ≤ a1) = true := decide_eq_true c14
       clear c14
       by_cases c15 : a1 < (y328.length : Int)
       ·rw [if_pos c15] at H
        have c15b0 : decide (a1 < (y328.length : Int)) = true := decide_eq_true c15
        clear c15
        obtain ⟨y331, hy331⟩ : ∃ y_ : List Bool, y_ = (y328.set (a1 : Int).toNat true) := ⟨_, rfl⟩
        replace H : (portolanref05_Within.l0 kj5 a2 y331 0 l0_0 l0_1 a0_2 a0_3 l0_4) = some r := by first | (rw [hy331]; with_reducible exact H) | (have H2_ := (Option.bind_some _ _).symm.trans H; rw [hy331]; with_reducible exact H2_) | (have H2_ := (Option.bind_some _ _).symm.trans H; with_reducible exact H2_) | with_reducible exact H | (rw [hy331]; exact H) | exact H
        have Ny331 := Aside0.mk hy331
        clear hy331
        have H' := Aside0.mk H
        clear H
        have p16 : 0 ≤ (a1 : Int) := of_decide_eq_true (by first | (with_reducible assumption) | assumption)
        have q16 : (a1 : Int) < ((y328.length : Int) : Int) := of_decide_eq_true (by first | (with_reducible assumption) | assumption)
        obtain ⟨go16, co16, eo16, gb16, gl16, cl16, HG16⟩ := Kd.R_form HO_7.out (by omega)
        (first | cases eo16 | (injection eo16 with ea_ en_ ec_; (first | subst ea_ | (injection ea_ with ea_; subst ea_)); subst ec_; clear en_))
        have GB16 := Aside0.mk gb16
        have GG16 := Aside0.mk HG16
        clear gb16 gl16 HG16
        obtain ⟨hx16_0, hf16_0⟩ := Kd.R_celln false HO_7.out (a1 : Int) p16 q16
        replace p16 := eq_true p16
        replace q16 := eq_true q16
        have HP17 := Kd.R_putg HO_7.out (a1 : Int) true
        go_wp2_with (first | ((with_reducible refine gate_store (t := 4) (p := 29) rfl ?_); refine store_event (t := 4) (p := 29) (v := ?vo_w18) (w1 := (wc.setCell ⟨go16, (a1 : Int).toNat, none⟩ (.bool true))) ?hg ?ho ?hn ?hr ?_; (case ho => rfl); (case hg => rfl); (case hn => rfl); (case hr => first | (go_simp; done) | (go_simp; rfl)); intro w18 hw; have hg : wc.grownBy w18 (some go16) := (by rw [hw]; exact HP17.2); have hp_ : Kd.R Kd.bool 4 w18 w.heap.size (fun _ => True) (.slice (some ⟨go16, 0, none⟩) y328.length co16) y331 := (by rw [hw, Ny331.out]; exact HP17.1); clear HP17; have n0_ := Aside0.mk (hp_); have n1_ := Aside0.mk (blk_grown (g := gb327) (o := .cells #[.slice A0_0 l0_0.length c0_0, .slice A0_1 l0_1.length c0_1, .int .i64 a0_2, .int .i64 a0_3, .slice A0_4 l0_4.length c0_4] 52 (0, 0)) (by (with_reducible repeat (first | refine blk_drewN ?_ _ | refine blk_drew ?_ | refine blk_alloc ?_ _)); exact BK327.out) hg (Kd.R_ne HO_7.out BK327.out (by decide))); have n2_ := Aside0.mk ((by rw [hw]; exact below_set (HB.out) GB16.out : Below w.heap.size w w18)); clear HO_7; clear BK327; clear HB; have HO_7 := n0_; have BK327 := n1_; have HB := n2_; clear n0_ n1_ n2_; clear hg hw hp_))
        go_loopg [8] kj5 (fun kq v8 w' => ∃ (x7_2 : List Bool) (x8_2 : Int), v8 = .int .i64 x8_2 ∧ Aside0 (portolanref05_Within.l0 kq a2 x7_2 x8_2 l0_0 l0_1 a0_2 a0_3 l0_4 = some r) ∧ Aside0 (kq ≤ kj5) ∧ Aside0 (Kd.R Kd.bool 4 w' w.heap.size (fun _ => True) (.slice (some ⟨go16, 0, none⟩) y328.length co16) x7_2) ∧ Aside0 (w'.heap[gb327]? = some (.cells #[(.slice A0_0 l0_0.length c0_0), (.slice A0_1 l0_1.length c0_1), .int .i64 a0_2, .int .i64 a0_3, (.slice A0_4 l0_4.length c0_4)] 52 (0, 0))) ∧ Aside0 (Below w.heap.size w w'))
        case atStart => exact ⟨(y331), (0), (by first | rfl | (simp; done) | (simp [*]; done)), H', ⟨Nat.le_refl _⟩, ⟨by (with_reducible repeat (first | apply Kd.R_alloc | apply Kd.R_drewN | apply Kd.R_drew)); exact HO_7.out⟩, ⟨by (with_reducible repeat (first | refine blk_drewN ?_ _ | refine blk_drew ?_ | refine blk_alloc ?_ _)); exact BK327.out⟩, ⟨by repeat (first | (with_reducible first | exact HB.out | apply below_alloc | apply pw_below_drewN | apply below_drew1 | refine below_set ?_ GE327.out) | exact HB.out)⟩⟩
        case round =>
         clear H'
         obtain ⟨x7_2, x8_2, rfl, HA, HK2, HO_7, BK327, HB⟩ := hrel
         have hl7_2 := (Kd.R_reads' HO_7.out).1
         rw [hl7_2] at HO_7
         (try simp only [hl7_2])
         (try simp only [hl7_2] at BK327)
         cases gk with
         | zero => exact absurd HA.out (by simp [portolanref05_Within.l0])
         | succ k2 =>
          have H := HA.out
          clear HA
          simp only [portolanref05_Within.l0] at H
          by_cases c19 : x8_2 < (l0_4.length : Int)
          ·rw [if_pos c19] at H
           have c19b0 : decide (x8_2 < (l0_4.length : Int)) = true := decide_eq_true c19
           clear c19
           have H' := Aside0.mk H
           clear H
           have hcz20_0 : wr.cell? ⟨gb327, 0, none⟩ = some (.slice A0_0 l0_0.length c0_0) := (blk_cell BK327.out 0).trans rfl
           have hcz20_1 : wr.cell? ⟨gb327, 1, none⟩ = some (.slice A0_1 l0_1.length c0_1) := (blk_cell BK327.out 1).trans rfl
           have hcz20_2 : wr.cell? ⟨gb327, 2, none⟩ = some (.int .i64 a0_2) := (blk_cell BK327.out 2).trans rfl
           have hcz20_3 : wr.cell? ⟨gb327, 3, none⟩ = some (.int .i64 a0_3) := (blk_cell BK327.out 3).trans rfl
           have hcz20_4 : wr.cell? ⟨gb327, 4, none⟩ = some (.slice A0_4 l0_4.length c0_4) := (blk_cell BK327.out 4).trans rfl
           have hfz20_0 := blk_frozen BK327.out 0
           have hfz20_1 := blk_frozen BK327.out 1
           have hfz20_2 := blk_frozen BK327.out 2
           have hfz20_3 := blk_frozen BK327.out 3
           have hfz20_4 := blk_frozen BK327.out 4
           go_wp2
           go_loopg [9] k2 (fun kq v9 w' => ∃ (x7_3 : List Bool) (x9_3 : Int), v9 = .int .i64 x9_3 ∧ Aside0 (portolanref05_Within.l1 kq a2 x7_3 x8_2 x9_3 l0_0 l0_1 a0_2 a0_3 l0_4 = some r) ∧ Aside0 (kq ≤ k2) ∧ Aside0 (Kd.R Kd.bool 4 w' w.heap.size (fun _ => True) (.slice (some ⟨go16, 0, none⟩) x7_2.length co16) x7_3) ∧ Aside0 (w'.heap[gb327]? = some (.cells #[(.slice A0_0 l0_0.length c0_0), (.slice A0_1 l0_1.length c0_1), .int .i64 a0_2, .int .i64 a0_3, (.slice A0_4 l0_4.length c0_4)] 52 (0, 0))) ∧ Aside0 (Below w.heap.size w w'))
           case atStart => exact ⟨(x7_2), (0), (by first | rfl | (simp; done) | (simp [*]; done)), H', ⟨Nat.le_refl _⟩, ⟨by (try simp only [hl7_2]); (with_reducible repeat (first | apply Kd.R_alloc | apply Kd.R_drewN | apply Kd.R_drew)); exact HO_7.out⟩, ⟨by (try simp only [hl7_2]); (with_reducible repeat (first | refine blk_drewN ?_ _ | refine blk_drew ?_ | refine blk_alloc ?_ _)); exact BK327.out⟩, ⟨by repeat (first | (with_reducible first | exact HB.out | apply below_alloc | apply pw_below_drewN | apply below_drew1 | refine below_set ?_ GE327.out) | exact HB.out)⟩⟩
           case round =>
            clear H'
            obtain ⟨x7_3, x9_3, rfl, HA, HK3, HO_7, BK327, HB⟩ := hrel
            have hl7_3 := (Kd.R_reads' HO_7.out).1
            rw [hl7_3] at HO_7
            (try simp only [hl7_3])
            (try simp only [hl7_3] at BK327)
            cases gk with
            | zero => exact absurd HA.out (by simp [portolanref05_Within.l1])
            | succ k3 =>
             have H := HA.out
             clear HA
             simp only [portolanref05_Within.l1] at H
             by_cases c21 : x9_3 < (l0_4.length : Int)
             ·rw [if_pos c21] at H
              have c21b0 : decide (x9_3 < (l0_4.length : Int)) = true := decide_eq_true c21
              clear c21
              replace H := Option.bind_eq_some_iff.mp H
              obtain ⟨t332, A220, H⟩ := H
              replace H : (portolanref05_Within.l2 k3 a2 x7_3 x8_2 x9_3 t332 0 l0_0 l0_1 a0_2 a0_3 l0_4) = some r := H
              have A22 := Aside0.mk A220
              clear A220
              have H' := Aside0.mk H
              clear H
              have hcz23_0 : wr.cell? ⟨gb327, 0, none⟩ = some (.slice A0_0 l0_0.length c0_0) := (blk_cell BK327.out 0).trans rfl
              have hcz23_1 : wr.cell? ⟨gb327, 1, none⟩ = some (.slice A0_1 l0_1.length c0_1) := (blk_cell BK327.out 1).trans rfl
              have hcz23_2 : wr.cell? ⟨gb327, 2, none⟩ = some (.int .i64 a0_2) := (blk_cell BK327.out 2).trans rfl
              have hcz23_3 : wr.cell? ⟨gb327, 3, none⟩ = some (.int .i64 a0_3) := (blk_cell BK327.out 3).trans rfl
              have hcz23_4 : wr.cell? ⟨gb327, 4, none⟩ = some (.slice A0_4 l0_4.length c0_4) := (blk_cell BK327.out 4).trans rfl
              have hfz23_0 := blk_frozen BK327.out 0
              have hfz23_1 := blk_frozen BK327.out 1
              have hfz23_2 := blk_frozen BK327.out 2
              have hfz23_3 := blk_frozen BK327.out 3
              have hfz23_4 := blk_frozen BK327.out 4
              go_wp2_with (first | ((with_reducible refine gate_callee (f := 53) rfl ?_); refine goesL_ (some 46) rfl rfl Try.func53 (by kernel_rfl) rfl #[.agg #[.slice A0_0 l0_0.length c0_0, .slice A0_1 l0_1.length c0_1, .int .i64 a0_2, .int .i64 a0_3, .slice A0_4 l0_4.length c0_4], .int .i64 x9_3] rfl (by (try simp only [List.map_toArray, List.map_cons, List.map_nil]); first | done | rfl | (simp only [List.length_drop, List.length_take]; rfl)) ?_; (with_reducible refine (portolanref05_Next.calls _ _ l0_0 _ _ l0_1 a0_2 a0_3 _ _ l0_4 x9_3 t332 _ ?side1 ?side2 ?side3 ?side4 ?side5 ?side6 A22.out).mono ?_); (case side1 => repeat (first | exact (Kd.C_below HR0_0.out HB.out) | (with_reducible refine Kd.C_alloc ?_ _) | (with_reducible refine Kd.C_drewN ?_ _) | (with_reducible refine Kd.C_drew ?_))); (case side2 => exact HC0_0.out); (case side3 => repeat (first | exact (Kd.C_below HR0_1.out HB.out) | (with_reducible refine Kd.C_alloc ?_ _) | (with_reducible refine Kd.C_drewN ?_ _) | (with_reducible refine Kd.C_drew ?_))); (case side4 => exact HC0_1.out); (case side5 => repeat (first | exact (Kd.C_below HR0_4.out HB.out) | (with_reducible refine Kd.C_alloc ?_ _) | (with_reducible refine Kd.C_drewN ?_ _) | (with_reducible refine Kd.C_drew ?_))); (case side6 => exact HC0_4.out); rintro e w24 ⟨v333, rfl, ho0, hb⟩; refine ⟨_, rfl, ?_⟩; have n0_ := Aside0.mk (Kd.R_below (by (with_reducible repeat (first | apply Kd.R_alloc | apply Kd.R_drewN | apply Kd.R_drew)); exact HO_7.out) hb); have n1_ := Aside0.mk (Kd.R_lower ho0 (below_size (by repeat (first | (with_reducible first | exact HB.out | apply below_alloc | apply pw_below_drewN | apply below_drew1 | refine below_set ?_ GE327.out) | exact HB.out)))); have n2_ := Aside0.mk (blk_below (g := gb327) (o := .cells #[.slice A0_0 l0_0.length c0_0, .slice A0_1 l0_1.length c0_1, .int .i64 a0_2, .int .i64 a0_3, .slice A0_4 l0_4.length c0_4] 52 (0, 0)) (by (with_reducible repeat (first | refine blk_drewN ?_ _ | refine blk_drew ?_ | refine blk_alloc ?_ _)); exact BK327.out) hb); have n3_ := Aside0.mk (below_step (by repeat (first | (with_reducible first | exact HB.out | apply below_alloc | apply pw_below_drewN | apply below_drew1 | refine below_set ?_ GE327.out) | exact HB.out)) hb); clear HO_7; clear BK327; clear HB; have HO_7 := n0_; have HO334 := n1_; have BK327 := n2_; have HB := n3_; clear n0_ n1_ n2_ n3_; (try clear hb); (try clear hb2); (try clear hk); (try clear hi); (try clear ho0)))
              go_loopg [11] k3 (fun kq v11 w' => ∃ (x7_4 : List Bool) (x11_4 : Int), v11 = .int .i64 x11_4 ∧ Aside0 (portolanref05_Within.l2 kq a2 x7_4 x8_2 x9_3 t332 x11_4 l0_0 l0_1 a0_2 a0_3 l0_4 = some r) ∧ Aside0 (kq ≤ k3) ∧ Aside0 (Kd.R Kd.bool 4 w' w.heap.size (fun _ => True) (.slice (some ⟨go16, 0, none⟩) x7_3.length co16) x7_4) ∧ Aside0 (Kd.R (Kd.int .i64) 3 w' w.heap.size (fun _ => True) v333 t332) ∧ Aside0 (w'.heap[gb327]? = some (.cells #[(.slice A0_0 l0_0.length c0_0), (.slice A0_1 l0_1.length c0_1), .int .i64 a0_2, .int .i64 a0_3, (.slice A0_4 l0_4.length c0_4)] 52 (0, 0))) ∧ Aside0 (Below w.heap.size w w'))
              case atStart => exact ⟨(x7_3), (0), (by first | rfl | (simp; done) | (simp [*]; done)), H', ⟨Nat.le_refl _⟩, ⟨by (try simp only [hl7_2]); (try simp only [hl7_3]); (with_reducible repeat (first | apply Kd.R_alloc | apply Kd.R_drewN | apply Kd.R_drew)); exact HO_7.out⟩, ⟨by (try simp only [hl7_2]); (try simp only [hl7_3]); (with_reducible repeat (first | apply Kd.R_alloc | apply Kd.R_drewN | apply Kd.R_drew)); exact HO334.out⟩, ⟨by (try simp only [hl7_2]); (try simp only [hl7_3]); (with_reducible repeat (first | refine blk_drewN ?_ _ | refine blk_drew ?_ | refine blk_alloc ?_ _)); exact BK327.out⟩, ⟨by repeat (first | (with_reducible first | exact HB.out | apply below_alloc | apply pw_below_drewN | apply below_drew1 | refine below_set ?_ GE327.out) | exact HB.out)⟩⟩
              case round =>
               clear H'
               obtain ⟨x7_4, x11_4, rfl, HA, HK4, HO_7, HO_10, BK327, HB⟩ := hrel
               have hl7_4 := (Kd.R_reads' HO_7.out).1
               rw [hl7_4] at HO_7
               (try simp only [hl7_4])
               (try simp only [hl7_4] at BK327)
               (try simp only [hl7_4] at HO_10)
               cases gk with
               | zero => exact absurd HA.out (by simp [portolanref05_Within.l2])
               | succ k4 =>
                have H := HA.out
                clear HA
                simp only [portolanref05_Within.l2] at H
                have HC25 := Aside0.mk H
                clear H
                go_upto_region 13 with (fail)
                go_cut [56] (fun v56 wc => ∃ (kq : Nat) (x56_24 : Bool), v56 = .bool x56_24 ∧ Aside0 (portolanref05_Within.j4 kq a2 x7_4 x8_2 x9_3 t332 x11_4 x56_24 l0_0 l0_1 a0_2 a0_3 l0_4 = some r) ∧ Aside0 (kq ≤ k4) ∧ Aside0 (Kd.R Kd.bool 4 wc w.heap.size (fun _ => True) (.slice (some ⟨go16, 0, none⟩) x7_4.length co16) x7_4) ∧ Aside0 (Kd.R (Kd.int .i64) 3 wc w.heap.size (fun _ => True) v333 t332) ∧ Aside0 (wc.heap[gb327]? = some (.cells #[(.slice A0_0 l0_0.length c0_0), (.slice A0_1 l0_1.length c0_1), .int .i64 a0_2, .int .i64 a0_3, (.slice A0_4 l0_4.length c0_4)] 52 (0, 0))) ∧ Aside0 (Below w.heap.size w wc))
                case first =>
                 have H := HC25.out
                 clear HC25
                 by_cases c26 : x11_4 < (t332.length : Int)
                 ·rw [if_pos c26] at H
                  have c26b0 : decide (x11_4 < (t332.length : Int)) = true := decide_eq_true c26
                  clear c26
                  (first | rw [c26b0] | (simp only [i64_w, i32_w]; rw [c26b0]) | skip)
                  by_cases c27 : 0 ≤ x9_3
                  ·rw [if_pos c27] at H
                   have c27b0 : decide (0 ≤ x9_3) = true := decide_eq_true c27
                   clear c27
                   by_cases c28 : x9_3 < (x7_4.length : Int)
                   ·rw [if_pos c28] at H
                    have c28b0 : decide (x9_3 < (x7_4.length : Int)) = true := decide_eq_true c28
                    clear c28
                    have H' := Aside0.mk H
                    clear H
                    obtain ⟨Ao29, co29, eo29⟩ := Kd.R_slice HO_10.out
                    subst eo29
                    have p335 : 0 ≤ (x9_3 : Int) := of_decide_eq_true (by first | (with_reducible assumption) | assumption)
                    have q335 : x9_3 < (x7_4.length : Int) := of_decide_eq_true (by first | (with_reducible assumption) | assumption)
                    obtain ⟨ad335, e335, hx335_0⟩ := Kd.at_bool (Kd.R_reads' HO_7.out).2.2 x9_3 p335 q335
                    obtain rfl : (⟨go16, 0, none⟩ : Addr) = ad335 := (by injection e335)
                    (first | simp only [add_plain] at hx335_0 | simp only [add_at] at hx335_0 | simp only [Addr.add, Nat.zero_add] at hx335_0 | skip)
                    replace p335 := eq_true p335
                    replace q335 := eq_true q335
                    go_wp2
                    go_meet
                    case rel => exact ⟨_, (rdOf false x7_4 x9_3), (by first | rfl | (simp; done) | (simp [*]; done)), H', ⟨by have := HJ5.out; have := HK2.out; have := HK3.out; have := HK4.out; first | omega | exact Nat.le_refl _⟩, ⟨by (try simp only [hl7_2]); (try simp only [hl7_3]); (try simp only [hl7_4]); (with_reducible repeat (first | apply Kd.R_alloc | apply Kd.R_drewN | apply Kd.R_drew)); exact HO_7.out⟩, ⟨by (try simp only [hl7_2]); (try simp only [hl7_3]); (try simp only [hl7_4]); (with_reducible repeat (first | apply Kd.R_alloc | apply Kd.R_drewN | apply Kd.R_drew)); exact HO_10.out⟩, ⟨by (try simp only [hl7_2]); (try simp only [hl7_3]); (try simp only [hl7_4]); (with_reducible repeat (first | refine blk_drewN ?_ _ | refine blk_drew ?_ | refine blk_alloc ?_ _)); exact BK327.out⟩, ⟨by repeat (first | (with_reducible first | exact HB.out | apply below_alloc | apply pw_below_drewN | apply below_drew1 | refine below_set ?_ GE327.out) | exact HB.out)⟩⟩
                   ·rw [if_neg c28] at H
                    exact absurd H (by simp)
                  ·rw [if_neg c27] at H
                   exact absurd H (by simp)
                 ·rw [if_neg c26] at H
                  have c26b0 : decide (x11_4 < (t332.length : Int)) = false := decide_eq_false c26
                  clear c26
                  (first | rw [c26b0] | (simp only [i64_w, i32_w]; rw [c26b0]) | skip)
                  have H' := Aside0.mk H
                  clear H
                  obtain ⟨Ao30, co30, eo30⟩ := Kd.R_slice HO_10.out
                  subst eo30
                  go_wp2
                  go_meet
                  case rel => exact ⟨_, (false), (by first | rfl | (simp; done) | (simp [*]; done)), H', ⟨by have := HJ5.out; have := HK2.out; have := HK3.out; have := HK4.out; first | omega | exact Nat.le_refl _⟩, ⟨by (try simp only [hl7_2]); (try simp only [hl7_3]); (try simp only [hl7_4]); (with_reducible repeat (first | apply Kd.R_alloc | apply Kd.R_drewN | apply Kd.R_drew)); exact HO_7.out⟩, ⟨by (try simp only [hl7_2]); (try simp only [hl7_3]); (try simp only [hl7_4]); (with_reducible repeat (first | apply Kd.R_alloc | apply Kd.R_drewN | apply Kd.R_drew)); exact HO_10.out⟩, ⟨by (try simp only [hl7_2]); (try simp only [hl7_3]); (try simp only [hl7_4]); (with_reducible repeat (first | refine blk_drewN ?_ _ | refine blk_drew ?_ | refine blk_alloc ?_ _)); exact BK327.out⟩, ⟨by repeat (first | (with_reducible first | exact HB.out | apply below_alloc | apply pw_below_drewN | apply below_drew1 | refine below_set ?_ GE327.out) | exact HB.out)⟩⟩
                case rest =>
                 clear HC25
                 obtain ⟨kq, x56_24, rfl, HA, HJ24, HO_7, HO_10, BK327, HB⟩ := hcut
                 cases kq with
                 | zero => exact absurd HA.out (by simp [portolanref05_Within.j4])
                 | succ kj24 =>
                  have H := HA.out
                  clear HA
                  simp only [portolanref05_Within.j4] at H
                  by_cases c31 : x56_24 = true
                  ·subst c31
                   have H1 : (if 0 ≤ x11_4 then (if x11_4 < (t332.length : Int) then (if (rd t332 x11_4) ≥ 0 then (if (rd t332 x11_4) < (x7_4.length : Int) then (if (rd t332 x11_4) = a2 then (portolanref05_Within.l2 kj24 a2 x7_4 x8_2 x9_3 t332 (wrap64 (x11_4 + 1)) l0_0 l0_1 a0_2 a0_3 l0_4) else (if 0 ≤ (rd t332 x11_4) then (portolanref05_Within.l2 kj24 a2 (x7_4.set ((rd t332 x11_4) : Int).toNat true) x8_2 x9_3 t332 (wrap64 (x11_4 + 1)) l0_0 l0_1 a0_2 a0_3 l0_4) else (none))) else (portolanref05_Within.l2 kj24 a2 x7_4 x8_2 x9_3 t332 (wrap64 (x11_4 + 1)) l0_0 l0_1 a0_2 a0_3 l0_4)) else (portolanref05_Within.l2 kj24 a2 x7_4 x8_2 x9_3 t332 (wrap64 (x11_4 + 1)) l0_0 l0_1 a0_2 a0_3 l0_4)) else (none)) else (none)) = some r := by rw [if_pos rfl] at H; exact H
                   clear H
                   have H := H1
                   clear H1
                   by_cases c32 : 0 ≤ x11_4
                   ·rw [if_pos c32] at H
                    have c32b0 : decide (0 ≤ x11_4) = true := decide_eq_true c32
                    clear c32
                    by_cases c33 : x11_4 < (t332.length : Int)
                    ·rw [if_pos c33] at H
                     have c33b0 : decide (x11_4 < (t332.length : Int)) = true := decide_eq_true c33
                     clear c33
                     by_cases c34 : (rd t332 x11_4) ≥ 0
                     ·rw [if_pos c34] at H
                      have c34b0 : decide (0 ≤ (rd t332 x11_4)) = true := decide_eq_true c34
                      clear c34
                      by_cases c35 : (rd t332 x11_4) < (x7_4.length : Int)
                      ·rw [if_pos c35] at H
                       have c35b0 : decide ((rd t332 x11_4) < (x7_4.length : Int)) = true := decide_eq_true c35
                       clear c35
                       by_cases c36 : (rd t332 x11_4) = a2
                       ·rw [if_pos c36] at H
                        have c36b0 : ((rd t332 x11_4) == a2) = true := beq_iff_eq.mpr c36
                        have c36b1 : ((rd t332 x11_4) != a2) = false := bne_eq_false_iff_eq.mpr c36
                        clear c36
                        have H' := Aside0.mk H
                        clear H
                        obtain ⟨Ao37, co37, eo37⟩ := Kd.R_slice HO_10.out
                        subst eo37
                        have p336 : 0 ≤ (x11_4 : Int) := of_decide_eq_true (by first | (with_reducible assumption) | assumption)
                        have q336 : x11_4 < (t332.length : Int) := of_decide_eq_true (by first | (with_reducible assumption) | assumption)
                        obtain ⟨ad336, e336, hx336_0⟩ := Kd.at_int (Kd.R_reads' HO_10.out).2.2 x11_4 p336 q336
                        cases e336
                        replace p336 := eq_true p336
                        replace q336 := eq_true q336
                        have p337 : 0 ≤ (x11_4 : Int) := of_decide_eq_true (by first | (with_reducible assumption) | assumption)
                        have q337 : x11_4 < (t332.length : Int) := of_decide_eq_true (by first | (with_reducible assumption) | assumption)
                        obtain ⟨ad337, e337, hx337_0⟩ := Kd.at_int (Kd.R_reads' HO_10.out).2.2 x11_4 p337 q337
                        obtain rfl : ad336 = ad337 := (by injection e337)
                        replace p337 := eq_true p337
                        replace q337 := eq_true q337
                        have p338 : 0 ≤ (x11_4 : Int) := of_decide_eq_true (by first | (with_reducible assumption) | assumption)
                        have q338 : x11_4 < (t332.length : Int) := of_decide_eq_true (by first | (with_reducible assumption) | assumption)
                        obtain ⟨ad338, e338, hx338_0⟩ := Kd.at_int (Kd.R_reads' HO_10.out).2.2 x11_4 p338 q338
                        obtain rfl : ad336 = ad338 := (by injection e338)
                        replace p338 := eq_true p338
                        replace q338 := eq_true q338
                        go_wp2
                        (try simp only [← hl7_4])
                        go_roundg kj24
                        case measure => have := HJ5.out; have := HK2.out; have := HK3.out; have := HK4.out; have := HJ24.out; omega
                        case rel => exact ⟨(x7_4), (wrap64 (x11_4 + 1)), (by first | rfl | (simp; done) | (simp [*]; done)), H', ⟨by have := HJ5.out; have := HK2.out; have := HK3.out; have := HK4.out; have := HJ24.out; omega⟩, ⟨by (try simp only [hl7_2]); (try simp only [hl7_3]); (try simp only [hl7_4]); (with_reducible repeat (first | apply Kd.R_alloc | apply Kd.R_drewN | apply Kd.R_drew)); exact HO_7.out⟩, ⟨by (try simp only [hl7_2]); (try simp only [hl7_3]); (try simp only [hl7_4]); (with_reducible repeat (first | apply Kd.R_alloc | apply Kd.R_drewN | apply Kd.R_drew)); exact HO_10.out⟩, ⟨by (try simp only [hl7_2]); (try simp only [hl7_3]); (try simp only [hl7_4]); (with_reducible repeat (first | refine blk_drewN ?_ _ | refine blk_drew ?_ | refine blk_alloc ?_ _)); exact BK327.out⟩, ⟨by repeat (first | (with_reducible first | exact HB.out | apply below_alloc | apply pw_below_drewN | apply below_drew1 | refine below_set ?_ GE327.out) | exact HB.out)⟩⟩
                       ·rw [if_neg c36] at H
                        have c36b0 : ((rd t332 x11_4) == a2) = false := beq_eq_false_iff_ne.mpr c36
                        have c36b1 : ((rd t332 x11_4) != a2) = true := bne_iff_ne.mpr c36
                        by_cases c38 : 0 ≤ (rd t332 x11_4)
                        ·rw [if_pos c38] at H
                         have c38b0 : decide (0 ≤ (rd t332 x11_4)) = true := decide_eq_true c38
                         clear c38
                         obtain ⟨y340, hy340⟩ : ∃ y_ : List Bool, y_ = (x7_4.set ((rd t332 x11_4) : Int).toNat true) := ⟨_, rfl⟩
                         replace H : (portolanref05_Within.l2 kj24 a2 y340 x8_2 x9_3 t332 (wrap64 (x11_4 + 1)) l0_0 l0_1 a0_2 a0_3 l0_4) = some r := by first | (rw [hy340]; with_reducible exact H) | (have H2_ := (Option.bind_some _ _).symm.trans H; rw [hy340]; with_reducible exact H2_) | (have H2_ := (Option.bind_some _ _).symm.trans H; with_reducible exact H2_) | with_reducible exact H | (rw [hy340]; exact H) | exact H
                         have Ny340 := Aside0.mk hy340
                         clear hy340
                         have H' := Aside0.mk H
                         clear H
                         obtain ⟨Ao40, co40, eo40⟩ := Kd.R_slice HO_10.out
                         subst eo40
                         have p336 : 0 ≤ (x11_4 : Int) := of_decide_eq_true (by first | (with_reducible assumption) | assumption)
                         have q336 : x11_4 < (t332.length : Int) := of_decide_eq_true (by first | (with_reducible assumption) | assumption)
                         obtain ⟨ad336, e336, hx336_0⟩ := Kd.at_int (Kd.R_reads' HO_10.out).2.2 x11_4 p336 q336
                         cases e336
                         replace p336 := eq_true p336
                         replace q336 := eq_true q336
                         have p337 : 0 ≤ (x11_4 : Int) := of_decide_eq_true (by first | (with_reducible assumption) | assumption)
                         have q337 : x11_4 < (t332.length : Int) := of_decide_eq_true (by first | (with_reducible assumption) | assumption)
                         obtain ⟨ad337, e337, hx337_0⟩ := Kd.at_int (Kd.R_reads' HO_10.out).2.2 x11_4 p337 q337
                         obtain rfl : ad336 = ad337 := (by injection e337)
                         replace p337 := eq_true p337
                         replace q337 := eq_true q337
                         have p338 : 0 ≤ (x11_4 : Int) := of_decide_eq_true (by first | (with_reducible assumption) | assumption)
                         have q338 : x11_4 < (t332.length : Int) := of_decide_eq_true (by first | (with_reducible assumption) | assumption)
                         obtain ⟨ad338, e338, hx338_0⟩ := Kd.at_int (Kd.R_reads' HO_10.out).2.2 x11_4 p338 q338
                         obtain rfl : ad336 = ad338 := (by injection e338)
                         replace p338 := eq_true p338
                         replace q338 := eq_true q338
                         have p339 : 0 ≤ (x11_4 : Int) := of_decide_eq_true (by first | (with_reducible assumption) | assumption)
                         have q339 : x11_4 < (t332.length : Int) := of_decide_eq_true (by first | (with_reducible assumption) | assumption)
                         obtain ⟨ad339, e339, hx339_0⟩ := Kd.at_int (Kd.R_reads' HO_10.out).2.2 x11_4 p339 q339
                         obtain rfl : ad336 = ad339 := (by injection e339)
                         replace p339 := eq_true p339
                         replace q339 := eq_true q339
                         have p39 : 0 ≤ ((rd t332 x11_4) : Int) := of_decide_eq_true (by first | (with_reducible assumption) | assumption)
                         have q39 : ((rd t332 x11_4) : Int) < ((x7_4.length : Int) : Int) := of_decide_eq_true (by first | (with_reducible assumption) | assumption)
                         obtain ⟨hx39_0, hf39_0⟩ := Kd.R_celln false HO_7.out ((rd t332 x11_4) : Int) p39 q39
                         replace p39 := eq_true p39
                         replace q39 := eq_true q39
                         have HP41 := Kd.R_putg HO_7.out ((rd t332 x11_4) : Int) true
                         go_wp2_with (first | ((with_reducible refine gate_store (t := 4) (p := 86) rfl ?_); refine store_event (t := 4) (p := 86) (v := ?vo_w42) (w1 := (wc.setCell ⟨go16, ((rd t332 x11_4) : Int).toNat, none⟩ (.bool true))) ?hg ?ho ?hn ?hr ?_; (case ho => rfl); (case hg => rfl); (case hn => rfl); (case hr => first | (go_simp; done) | (go_simp; rfl)); intro w42 hw; have hg : wc.grownBy w42 (some go16) := (by rw [hw]; exact HP41.2); have hp_ : Kd.R Kd.bool 4 w42 w.heap.size (fun _ => True) (.slice (some ⟨go16, 0, none⟩) x7_4.length co16) y340 := (by rw [hw, Ny340.out]; exact HP41.1); clear HP41; have n0_ := Aside0.mk (hp_); have n1_ := Aside0.mk (Kd.R_over' (v := (.slice (some ⟨go16, 0, none⟩) x7_4.length co16)) (by (with_reducible repeat (first | apply Kd.R_alloc | apply Kd.R_drewN | apply Kd.R_drew)); exact HO_10.out) (Kd.R_typed HO_7.out) (by decide) hg); have n2_ := Aside0.mk (blk_grown (g := gb327) (o := .cells #[.slice A0_0 l0_0.length c0_0, .slice A0_1 l0_1.length c0_1, .int .i64 a0_2, .int .i64 a0_3, .slice A0_4 l0_4.length c0_4] 52 (0, 0)) (by (with_reducible repeat (first | refine blk_drewN ?_ _ | refine blk_drew ?_ | refine blk_alloc ?_ _)); exact BK327.out) hg (Kd.R_ne HO_7.out BK327.out (by decide))); have n3_ := Aside0.mk ((by rw [hw]; exact below_set (HB.out) GB16.out : Below w.heap.size w w42)); clear HO_7; clear HO_10; clear BK327; clear HB; have HO_7 := n0_; have HO_10 := n1_; have BK327 := n2_; have HB := n3_; clear n0_ n1_ n2_ n3_; clear hg hw hp_))
                         (try simp only [← hl7_4])
                         go_roundg kj24
                         case measure => have := HJ5.out; have := HK2.out; have := HK3.out; have := HK4.out; have := HJ24.out; omega
                         case rel => exact ⟨(y340), (wrap64 (x11_4 + 1)), (by first | rfl | (simp; done) | (simp [*]; done)), H', ⟨by have := HJ5.out; have := HK2.out; have := HK3.out; have := HK4.out; have := HJ24.out; omega⟩, ⟨by (try simp only [hl7_2]); (try simp only [hl7_3]); (try simp only [hl7_4]); (with_reducible repeat (first | apply Kd.R_alloc | apply Kd.R_drewN | apply Kd.R_drew)); exact HO_7.out⟩, ⟨by (try simp only [hl7_2]); (try simp only [hl7_3]); (try simp only [hl7_4]); (with_reducible repeat (first | apply Kd.R_alloc | apply Kd.R_drewN | apply Kd.R_drew)); exact HO_10.out⟩, ⟨by (try simp only [hl7_2]); (try simp only [hl7_3]); (try simp only [hl7_4]); (with_reducible repeat (first | refine blk_drewN ?_ _ | refine blk_drew ?_ | refine blk_alloc ?_ _)); exact BK327.out⟩, ⟨by repeat (first | (with_reducible first | exact HB.out | apply below_alloc | apply pw_below_drewN | apply below_drew1 | refine below_set ?_ GE327.out) | exact HB.out)⟩⟩
                        ·rw [if_neg c38] at H
                         exact absurd H (by simp)
                      ·rw [if_neg c35] at H
                       have c35b0 : decide ((rd t332 x11_4) < (x7_4.length : Int)) = false := decide_eq_false c35
                       clear c35
                       have H' := Aside0.mk H
                       clear H
                       obtain ⟨Ao43, co43, eo43⟩ := Kd.R_slice HO_10.out
                       subst eo43
                       have p336 : 0 ≤ (x11_4 : Int) := of_decide_eq_true (by first | (with_reducible assumption) | assumption)
                       have q336 : x11_4 < (t332.length : Int) := of_decide_eq_true (by first | (with_reducible assumption) | assumption)
                       obtain ⟨ad336, e336, hx336_0⟩ := Kd.at_int (Kd.R_reads' HO_10.out).2.2 x11_4 p336 q336
                       cases e336
                       replace p336 := eq_true p336
                       replace q336 := eq_true q336
                       have p337 : 0 ≤ (x11_4 : Int) := of_decide_eq_true (by first | (with_reducible assumption) | assumption)
                       have q337 : x11_4 < (t332.length : Int) := of_decide_eq_true (by first | (with_reducible assumption) | assumption)
                       obtain ⟨ad337, e337, hx337_0⟩ := Kd.at_int (Kd.R_reads' HO_10.out).2.2 x11_4 p337 q337
                       obtain rfl : ad336 = ad337 := (by injection e337)
                       replace p337 := eq_true p337
                       replace q337 := eq_true q337
                       go_wp2
                       (try simp only [← hl7_4])
                       go_roundg kj24
                       case measure => have := HJ5.out; have := HK2.out; have := HK3.out; have := HK4.out; have := HJ24.out; omega
                       case rel => exact ⟨(x7_4), (wrap64 (x11_4 + 1)), (by first | rfl | (simp; done) | (simp [*]; done)), H', ⟨by have := HJ5.out; have := HK2.out; have := HK3.out; have := HK4.out; have := HJ24.out; omega⟩, ⟨by (try simp only [hl7_2]); (try simp only [hl7_3]); (try simp only [hl7_4]); (with_reducible repeat (first | apply Kd.R_alloc | apply Kd.R_drewN | apply Kd.R_drew)); exact HO_7.out⟩, ⟨by (try simp only [hl7_2]); (try simp only [hl7_3]); (try simp only [hl7_4]); (with_reducible repeat (first | apply Kd.R_alloc | apply Kd.R_drewN | apply Kd.R_drew)); exact HO_10.out⟩, ⟨by (try simp only [hl7_2]); (try simp only [hl7_3]); (try simp only [hl7_4]); (with_reducible repeat (first | refine blk_drewN ?_ _ | refine blk_drew ?_ | refine blk_alloc ?_ _)); exact BK327.out⟩, ⟨by repeat (first | (with_reducible first | exact HB.out | apply below_alloc | apply pw_below_drewN | apply below_drew1 | refine below_set ?_ GE327.out) | exact HB.out)⟩⟩
                     ·rw [if_neg c34] at H
                      have c34b0 : decide (0 ≤ (rd t332 x11_4)) = false := decide_eq_false c34
                      clear c34
                      have H' := Aside0.mk H
                      clear H
                      obtain ⟨Ao44, co44, eo44⟩ := Kd.R_slice HO_10.out
                      subst eo44
                      have p336 : 0 ≤ (x11_4 : Int) := of_decide_eq_true (by first | (with_reducible assumption) | assumption)
                      have q336 : x11_4 < (t332.length : Int) := of_decide_eq_true (by first | (with_reducible assumption) | assumption)
                      obtain ⟨ad336, e336, hx336_0⟩ := Kd.at_int (Kd.R_reads' HO_10.out).2.2 x11_4 p336 q336
                      cases e336
                      replace p336 := eq_true p336
                      replace q336 := eq_true q336
                      go_wp2
                      (try simp only [← hl7_4])
                      go_roundg kj24
                      case measure => have := HJ5.out; have := HK2.out; have := HK3.out; have := HK4.out; have := HJ24.out; omega
                      case rel => exact ⟨(x7_4), (wrap64 (x11_4 + 1)), (by first | rfl | (simp; done) | (simp [*]; done)), H', ⟨by have := HJ5.out; have := HK2.out; have := HK3.out; have := HK4.out; have := HJ24.out; omega⟩, ⟨by (try simp only [hl7_2]); (try simp only [hl7_3]); (try simp only [hl7_4]); (with_reducible repeat (first | apply Kd.R_alloc | apply Kd.R_drewN | apply Kd.R_drew)); exact HO_7.out⟩, ⟨by (try simp only [hl7_2]); (try simp only [hl7_3]); (try simp only [hl7_4]); (with_reducible repeat (first | apply Kd.R_alloc | apply Kd.R_drewN | apply Kd.R_drew)); exact HO_10.out⟩, ⟨by (try simp only [hl7_2]); (try simp only [hl7_3]); (try simp only [hl7_4]); (with_reducible repeat (first | refine blk_drewN ?_ _ | refine blk_drew ?_ | refine blk_alloc ?_ _)); exact BK327.out⟩, ⟨by repeat (first | (with_reducible first | exact HB.out | apply below_alloc | apply pw_below_drewN | apply below_drew1 | refine below_set ?_ GE327.out) | exact HB.out)⟩⟩
                    ·rw [if_neg c33] at H
                     exact absurd H (by simp)
                   ·rw [if_neg c32] at H
                    exact absurd H (by simp)
                  ·replace c31 := Bool.eq_false_iff.mpr c31
                   subst c31
                   have H1 : (portolanref05_Within.l1 kj24 a2 x7_4 x8_2 (wrap64 (x9_3 + 1)) l0_0 l0_1 a0_2 a0_3 l0_4) = some r := by rw [if_neg (show ¬ (false = true) by decide)] at H; exact H
                   clear H
                   have H := H1
                   clear H1
                   have H' := Aside0.mk H
                   clear H
                   go_wp2
                   (try simp only [← hl7_3, ← hl7_4])
                   go_roundg kj24
                   case measure => have := HJ5.out; have := HK2.out; have := HK3.out; have := HK4.out; have := HJ24.out; omega
                   case rel => exact ⟨(x7_4), (wrap64 (x9_3 + 1)), (by first | rfl | (simp; done) | (simp [*]; done)), H', ⟨by have := HJ5.out; have := HK2.out; have := HK3.out; have := HK4.out; have := HJ24.out; omega⟩, ⟨by (try simp only [hl7_2]); (try simp only [hl7_3]); (try simp only [hl7_4]); (with_reducible repeat (first | apply Kd.R_alloc | apply Kd.R_drewN | apply Kd.R_drew)); exact HO_7.out⟩, ⟨by (try simp only [hl7_2]); (try simp only [hl7_3]); (try simp only [hl7_4]); (with_reducible repeat (first | refine blk_drewN ?_ _ | refine blk_drew ?_ | refine blk_alloc ?_ _)); exact BK327.out⟩, ⟨by repeat (first | (with_reducible first | exact HB.out | apply below_alloc | apply pw_below_drewN | apply below_drew1 | refine below_set ?_ GE327.out) | exact HB.out)⟩⟩
             ·rw [if_neg c21] at H
              have c21b0 : decide (x9_3 < (l0_4.length : Int)) = false := decide_eq_false c21
              clear c21
              have H' := Aside0.mk H
              clear H
              have hcz45_0 : wr.cell? ⟨gb327, 0, none⟩ = some (.slice A0_0 l0_0.length c0_0) := (blk_cell BK327.out 0).trans rfl
              have hcz45_1 : wr.cell? ⟨gb327, 1, none⟩ = some (.slice A0_1 l0_1.length c0_1) := (blk_cell BK327.out 1).trans rfl
              have hcz45_2 : wr.cell? ⟨gb327, 2, none⟩ = some (.int .i64 a0_2) := (blk_cell BK327.out 2).trans rfl
              have hcz45_3 : wr.cell? ⟨gb327, 3, none⟩ = some (.int .i64 a0_3) := (blk_cell BK327.out 3).trans rfl
              have hcz45_4 : wr.cell? ⟨gb327, 4, none⟩ = some (.slice A0_4 l0_4.length c0_4) := (blk_cell BK327.out 4).trans rfl
              have hfz45_0 := blk_frozen BK327.out 0
              have hfz45_1 := blk_frozen BK327.out 1
              have hfz45_2 := blk_frozen BK327.out 2
              have hfz45_3 := blk_frozen BK327.out 3
              have hfz45_4 := blk_frozen BK327.out 4
              go_wp2
              (try simp only [← hl7_2, ← hl7_3])
              go_roundg k3
              case measure => have := HJ5.out; have := HK2.out; have := HK3.out; omega
              case rel => exact ⟨(x7_3), (wrap64 (x8_2 + 1)), (by first | rfl | (simp; done) | (simp [*]; done)), H', ⟨by have := HJ5.out; have := HK2.out; have := HK3.out; omega⟩, ⟨by (try simp only [hl7_2]); (try simp only [hl7_3]); (with_reducible repeat (first | apply Kd.R_alloc | apply Kd.R_drewN | apply Kd.R_drew)); exact HO_7.out⟩, ⟨by (try simp only [hl7_2]); (try simp only [hl7_3]); (with_reducible repeat (first | refine blk_drewN ?_ _ | refine blk_drew ?_ | refine blk_alloc ?_ _)); exact BK327.out⟩, ⟨by repeat (first | (with_reducible first | exact HB.out | apply below_alloc | apply pw_below_drewN | apply below_drew1 | refine below_set ?_ GE327.out) | exact HB.out)⟩⟩
          ·rw [if_neg c19] at H
           have c19b0 : decide (x8_2 < (l0_4.length : Int)) = false := decide_eq_false c19
           clear c19
           obtain rfl := Option.some.inj H
           have hcz46_0 : wr.cell? ⟨gb327, 0, none⟩ = some (.slice A0_0 l0_0.length c0_0) := (blk_cell BK327.out 0).trans rfl
           have hcz46_1 : wr.cell? ⟨gb327, 1, none⟩ = some (.slice A0_1 l0_1.length c0_1) := (blk_cell BK327.out 1).trans rfl
           have hcz46_2 : wr.cell? ⟨gb327, 2, none⟩ = some (.int .i64 a0_2) := (blk_cell BK327.out 2).trans rfl
           have hcz46_3 : wr.cell? ⟨gb327, 3, none⟩ = some (.int .i64 a0_3) := (blk_cell BK327.out 3).trans rfl
           have hcz46_4 : wr.cell? ⟨gb327, 4, none⟩ = some (.slice A0_4 l0_4.length c0_4) := (blk_cell BK327.out 4).trans rfl
           have hfz46_0 := blk_frozen BK327.out 0
           have hfz46_1 := blk_frozen BK327.out 1
           have hfz46_2 := blk_frozen BK327.out 2
           have hfz46_3 := blk_frozen BK327.out 3
           have hfz46_4 := blk_frozen BK327.out 4
           go_wp2
           go_ret
           exact ⟨_, by first | rfl | (simp [errW_none, errW_some] <;> rfl) | (simp [*, errW_none, errW_some] <;> rfl), by (with_reducible repeat (first | apply Kd.R_alloc | apply Kd.R_drewN | apply Kd.R_drew)); exact HO_7.out, by repeat (first | (with_reducible first | exact HB.out | apply below_alloc | apply pw_below_drewN | apply below_drew1 | refine below_set ?_ GE327.out) | exact HB.out)⟩
       ·rw [if_neg c15] at H
        exact absurd H (by simp)
      ·rw [if_neg c14] at H
       exact absurd H (by simp)
  ·rw [if_neg c5] at H
   exact absurd H (by simp)
 ·rw [if_neg c4] at H
  exact absurd H (by simp)
end Go.Proofs.Ytodjpbidjldblaa.PRunEdges
