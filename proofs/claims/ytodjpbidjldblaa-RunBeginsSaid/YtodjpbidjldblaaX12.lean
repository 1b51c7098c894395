/- Texts joined. Conditions: each stands with its theorem. -/
import Derived.Test.YtodjpbidjldblaaP00
import Derived.Test.YtodjpbidjldblaaX06
namespace Go.Proofs.Ytodjpbidjldblaa.PRunEdges
open Go.RowKit Go.Proofs.YtodjpbidjldblaaW.PrintWords Go.Proofs.YtodjpbidjldblaaW.PrintLast Go.Proofs.YtodjpbidjldblaaW.PrintMore
attribute [local go_sem] max2_int min2_int max_two min_two max_three
set_option linter.unusedVariables false
set_option linter.unusedSimpArgs false
def portolanlaw10_tiny.f  : Option ((List (S52))) := some (([(⟨(([0] : List Int)), (([(-1)] : List Int)), 0, 0, (([(⟨(([(⟨1, 0, 0, 0, 5, 0, ([] : List Int)⟩ : S57), (⟨20, 0, 0, 0, 0, 0, ([] : List Int)⟩ : S57), (⟨23, 0, 0, 0, 0, 0, ([] : List Int)⟩ : S57)] : List (S57)))⟩ : S55)] : List (S55)))⟩ : S52)] : List (S52)))
set_option maxHeartbeats 8000000 in
set_option maxRecDepth 100000 in
theorem portolanlaw10_tiny.calls  (r : List (S52)) (w : World) (h : portolanlaw10_tiny.f  = some r) :
  Calls Try.prog 18 #[] w fun e w' => ∃ v0_ : Value, e = .returned (.agg #[v0_]) ∧ Kd.N k52 52 w' w.heap.size (fun k_ => (w.heap.size ≤ k_)) v0_ r ∧ Below w.heap.size w w' := by
 have hu24 := Try.underlying24
 have hu57 := Try.underlying57
 have hu55 := Try.underlying55
 have hu52 := Try.underlying52
 have HB := Aside0.mk (Below.refl w.heap.size w)
 have H : (some (([(⟨(([0] : List Int)), (([(-1)] : List Int)), 0, 0, (([(⟨(([(⟨1, 0, 0, 0, 5, 0, ([] : List Int)⟩ : S57), (⟨20, 0, 0, 0, 0, 0, ([] : List Int)⟩ : S57), (⟨23, 0, 0, 0, 0, 0, ([] : List Int)⟩ : S57)] : List (S57)))⟩ : S55)] : List (S55)))⟩ : S52)] : List (S52)))) = some r := h
 clear h
 obtain ⟨y136, hy136⟩ : ∃ y_ : List Int, y_ = (([0] : List Int)) := ⟨_, rfl⟩
 replace H : (some (([(⟨y136, (([(-1)] : List Int)), 0, 0, (([(⟨(([(⟨1, 0, 0, 0, 5, 0, ([] : List Int)⟩ : S57), (⟨20, 0, 0, 0, 0, 0, ([] : List Int)⟩ : S57), (⟨23, 0, 0, 0, 0, 0, ([] : List Int)⟩ : S57)] : List (S57)))⟩ : S55)] : List (S55)))⟩ : S52)] : List (S52)))) = some r := by first | (rw [hy136]; with_reducible exact H) | (have H2_ := (Option.bind_some _ _).symm.trans H; rw [hy136]; with_reducible exact H2_) | (have H2_ := (Option.bind_some _ _).symm.trans H; with_reducible exact H2_) | with_reducible exact H | (rw [hy136]; exact H) | exact H
 have Ny136 := Aside0.mk hy136
 clear hy136
 obtain ⟨y139, hy139⟩ : ∃ y_ : List Int, y_ = (([(-1)] : List Int)) := ⟨_, rfl⟩
 replace H : (some (([(⟨y136, y139, 0, 0, (([(⟨(([(⟨1, 0, 0, 0, 5, 0, ([] : List Int)⟩ : S57), (⟨20, 0, 0, 0, 0, 0, ([] : List Int)⟩ : S57), (⟨23, 0, 0, 0, 0, 0, ([] : List Int)⟩ : S57)] : List (S57)))⟩ : S55)] : List (S55)))⟩ : S52)] : List (S52)))) = some r := by first | (rw [hy139]; with_reducible exact H) | (have H2_ := (Option.bind_some _ _).symm.trans H; rw [hy139]; with_reducible exact H2_) | (have H2_ := (Option.bind_some _ _).symm.trans H; with_reducible exact H2_) | with_reducible exact H | (rw [hy139]; exact H) | exact H
 have Ny139 := Aside0.mk hy139
 clear hy139
 obtain ⟨y142, hy142⟩ : ∃ y_ : List (S57), y_ = (([(⟨1, 0, 0, 0, 5, 0, ([] : List Int)⟩ : S57), (⟨20, 0, 0, 0, 0, 0, ([] : List Int)⟩ : S57), (⟨23, 0, 0, 0, 0, 0, ([] : List Int)⟩ : S57)] : List (S57))) := ⟨_, rfl⟩
 replace H : (some (([(⟨y136, y139, 0, 0, (([(⟨y142⟩ : S55)] : List (S55)))⟩ : S52)] : List (S52)))) = some r := by first | (rw [hy142]; with_reducible exact H) | (have H2_ := (Option.bind_some _ _).symm.trans H; rw [hy142]; with_reducible exact H2_) | (have H2_ := (Option.bind_some _ _).symm.trans H; with_reducible exact H2_) | with_reducible exact H | (rw [hy142]; exact H) | exact H
 have Ny142 := Aside0.mk hy142
 clear hy142
 obtain ⟨y145, hy145⟩ : ∃ y_ : List (S55), y_ = (([(⟨y142⟩ : S55)] : List (S55))) := ⟨_, rfl⟩
 replace H : (some (([(⟨y136, y139, 0, 0, y145⟩ : S52)] : List (S52)))) = some r := by first | (rw [hy145]; with_reducible exact H) | (have H2_ := (Option.bind_some _ _).symm.trans H; rw [hy145]; with_reducible exact H2_) | (have H2_ := (Option.bind_some _ _).symm.trans H; with_reducible exact H2_) | with_reducible exact H | (rw [hy145]; exact H) | exact H
 have Ny145 := Aside0.mk hy145
 clear hy145
 obtain ⟨y148, hy148⟩ : ∃ y_ : List (S52), y_ = (([(⟨y136, y139, 0, 0, y145⟩ : S52)] : List (S52))) := ⟨_, rfl⟩
 replace H : (some y148) = some r := by first | (rw [hy148]; with_reducible exact H) | (have H2_ := (Option.bind_some _ _).symm.trans H; rw [hy148]; with_reducible exact H2_) | (have H2_ := (Option.bind_some _ _).symm.trans H; with_reducible exact H2_) | with_reducible exact H | (rw [hy148]; exact H) | exact H
 have Ny148 := Aside0.mk hy148
 clear hy148
 obtain rfl := Option.some.inj H
 go_enter Try.func18, Try.ntmps18
 go_wp2_with (first | ((with_reducible refine gate_dst (N := 0) rfl ?_); refine box_event ?hg (N := 0) ?hd (cs := #[.slice none 0 0]) (t := 24) ?hr ?_; (case hd => rfl); (case hg => rfl); (case hr => first | (go_simp; done) | (go_simp; rfl)); intro gb135 hg w1 hbox hb; have n0_ := Aside0.mk (below_step (by repeat (first | (with_reducible first | exact HB.out | apply below_alloc | apply pw_below_drewN | apply below_drew1) | exact HB.out)) hb); have n1_ := Aside0.mk (hbox); have n2_ := Aside0.mk ((by rw [hg]; exact (below_size (by repeat (first | (with_reducible first | exact HB.out | apply below_alloc | apply pw_below_drewN | apply below_drew1) | exact HB.out))) : w.heap.size ≤ gb135)); have n3_ := Aside0.mk ((by rw [hg]; exact (below_size (by repeat (first | (with_reducible first | exact HB.out | apply below_alloc | apply pw_below_drewN | apply below_drew1) | exact HB.out))) : w.heap.size ≤ gb135)); clear HB; have HB := n0_; have BK135 := n1_; have GW135 := n2_; have GE135 := n3_; clear n0_ n1_ n2_ n3_; clear hb hbox hg) | ((with_reducible refine gate_dst (N := 1) rfl ?_); refine Kd.R_lit (Kd.int .i64) _ 3 ?hg (N := 1) ?hd (xs := ([0] : List Int)) (inner := [.int .i64 0]) (ok := fun _ => True) (okp := fun _ => True) ?hr ?hp (fun _ hk => hk) trivial (Below.refl _ _) (Nat.le_refl _) (by simp) ?_; (case hd => rfl); (case hg => rfl); (case hr => first | (go_simp; done) | (go_simp; rfl)); (case hp => exact (Reps.one (show Kd.M (Kd.int .i64) _ _ _ 0 [.int .i64 0] from rfl) (Reps.none _ _))); intro v137 w2 ho3 hb hg_ hnew_; clear hg_ hnew_; (first | rw [← Ny136.out] at ho3 | (simp only [Int.reduceToNat] at ho3; rw [← Ny136.out] at ho3)); have n0_ := Aside0.mk (Kd.R_lower (Kd.R_newM (M := fun k_ => (w.heap.size ≤ k_)) ho3 (below_size (by repeat (first | (with_reducible first | exact HB.out | apply below_alloc | apply pw_below_drewN | apply below_drew1 | refine below_set ?_ GE135.out) | exact HB.out))) (fun k_ h_ => h_)) (below_size (by repeat (first | (with_reducible first | exact HB.out | apply below_alloc | apply pw_below_drewN | apply below_drew1 | refine below_set ?_ GE135.out) | exact HB.out)))); have n1_ := Aside0.mk (blk_below (g := gb135) (o := .cells #[.slice none 0 0] 24 (0, 0)) (by (with_reducible repeat (first | refine blk_drewN ?_ _ | refine blk_drew ?_ | refine blk_alloc ?_ _)); exact BK135.out) hb); have n2_ := Aside0.mk (below_step (by repeat (first | (with_reducible first | exact HB.out | apply below_alloc | apply pw_below_drewN | apply below_drew1 | refine below_set ?_ GE135.out) | exact HB.out)) hb); clear BK135; clear HB; have HO138 := n0_; have BK135 := n1_; have HB := n2_; clear n0_ n1_ n2_; clear hb ho3) | ((with_reducible refine gate_dst (N := 2) rfl ?_); refine Kd.R_lit (Kd.int .i64) _ 3 ?hg (N := 2) ?hd (xs := ([(-1)] : List Int)) (inner := [.int .i64 (-1)]) (ok := fun _ => True) (okp := fun _ => True) ?hr ?hp (fun _ hk => hk) trivial (Below.refl _ _) (Nat.le_refl _) (by simp) ?_; (case hd => rfl); (case hg => rfl); (case hr => first | (go_simp; done) | (go_simp; rfl)); (case hp => exact (Reps.one (show Kd.M (Kd.int .i64) _ _ _ (-1) [.int .i64 (-1)] from rfl) (Reps.none _ _))); intro v140 w4 ho5 hb hg_ hnew_; clear hg_ hnew_; (first | rw [← Ny139.out] at ho5 | (simp only [Int.reduceToNat] at ho5; rw [← Ny139.out] at ho5)); have n0_ := Aside0.mk (Kd.R_elder' (by (with_reducible repeat (first | apply Kd.R_alloc | apply Kd.R_drewN | apply Kd.R_drew)); exact HO138.out) (Kd.R_base ho5) hb); have n1_ := Aside0.mk (Kd.R_lower (Kd.R_new' (Kd.R_newM (M := fun k_ => (w.heap.size ≤ k_)) ho5 (below_size (by repeat (first | (with_reducible first | exact HB.out | apply below_alloc | apply pw_below_drewN | apply below_drew1 | refine below_set ?_ GE135.out) | exact HB.out))) (fun k_ h_ => h_)) (Kd.R_lt (by (with_reducible repeat (first | apply Kd.R_alloc | apply Kd.R_drewN | apply Kd.R_drew)); exact HO138.out))) (below_size (by repeat (first | (with_reducible first | exact HB.out | apply below_alloc | apply pw_below_drewN | apply below_drew1 | refine below_set ?_ GE135.out) | exact HB.out)))); have n2_ := Aside0.mk (blk_below (g := gb135) (o := .cells #[.slice none 0 0] 24 (0, 0)) (by (with_reducible repeat (first | refine blk_drewN ?_ _ | refine blk_drew ?_ | refine blk_alloc ?_ _)); exact BK135.out) hb); have n3_ := Aside0.mk (below_step (by repeat (first | (with_reducible first | exact HB.out | apply below_alloc | apply pw_below_drewN | apply below_drew1 | refine below_set ?_ GE135.out) | exact HB.out)) hb); clear HO138; clear BK135; clear HB; have HO138 := n0_; have HO141 := n1_; have BK135 := n2_; have HB := n3_; clear n0_ n1_ n2_ n3_; clear hb ho5) | ((with_reducible refine gate_dst (N := 6) rfl ?_); refine Kd.N_lit k57 _ 57 ?hg (N' := 6) ?hd (xs := ([(⟨1, 0, 0, 0, 5, 0, ([] : List Int)⟩ : S57), (⟨20, 0, 0, 0, 0, 0, ([] : List Int)⟩ : S57), (⟨23, 0, 0, 0, 0, 0, ([] : List Int)⟩ : S57)] : List (S57))) (inner := [.int .i64 1, .int .i64 0, .int .i64 0, .int .i64 0, .int .i64 5, .int .i64 0, .slice none 0 0, .int .i64 20, .int .i64 0, .int .i64 0, .int .i64 0, .int .i64 0, .int .i64 0, .slice none 0 0, .int .i64 23, .int .i64 0, .int .i64 0, .int .i64 0, .int .i64 0, .int .i64 0, .slice none 0 0]) (ok := (fun k_ => (w.heap.size ≤ k_) ∧ some k_ ≠ (v137 : Value).ownBlock ∧ some k_ ≠ (v140 : Value).ownBlock ∧ k_ ≠ gb135)) (okp := (fun k_ => (w.heap.size ≤ k_) ∧ some k_ ≠ (v137 : Value).ownBlock ∧ some k_ ≠ (v140 : Value).ownBlock ∧ k_ ≠ gb135)) ?hr ?hp (fun _ hk => hk) ((show ∀ k_, w4.heap.size ≤ k_ → (fun k_ => (w.heap.size ≤ k_) ∧ some k_ ≠ (v137 : Value).ownBlock ∧ some k_ ≠ (v140 : Value).ownBlock ∧ k_ ≠ gb135) k_ from fun k_ hk => ⟨(Nat.le_trans (below_size (by repeat (first | (with_reducible first | exact HB.out | apply below_alloc | apply pw_below_drewN | apply below_drew1 | refine below_set ?_ GE135.out) | exact HB.out))) hk), Kd.fresh' (Kd.R_lt (by (with_reducible repeat (first | apply Kd.R_alloc | apply Kd.R_drewN | apply Kd.R_drew)); exact HO138.out)) k_ hk, Kd.fresh' (Kd.R_lt (by (with_reducible repeat (first | apply Kd.R_alloc | apply Kd.R_drewN | apply Kd.R_drew)); exact HO141.out)) k_ hk, Kd.freshB (g := gb135) (o := .cells #[.slice none 0 0] 24 (0, 0)) (by (with_reducible repeat (first | refine blk_drewN ?_ _ | refine blk_drew ?_ | refine blk_alloc ?_ _)); exact BK135.out) k_ hk⟩) _ (Nat.le_refl _)) (Below.refl _ _) (Nat.le_refl _) (by simp) ?_; (case hd => rfl); (case hg => rfl); (case hr => first | (go_simp; done) | (go_simp; rfl)); (case hp => exact (Reps.c7 (show Kd.FK k57 _ _ (⟨1, 0, 0, 0, 5, 0, ([] : List Int)⟩ : S57) [.int .i64 1, .int .i64 0, .int .i64 0, .int .i64 0, .int .i64 5, .int .i64 0, .slice none 0 0] from (k57_mkF _ _ (⟨1, 0, 0, 0, 5, 0, ([] : List Int)⟩ : S57) (Nat.le_refl _) (Kd.F_nil _ _ _))) (Reps.c7 (show Kd.FK k57 _ _ (⟨20, 0, 0, 0, 0, 0, ([] : List Int)⟩ : S57) [.int .i64 20, .int .i64 0, .int .i64 0, .int .i64 0, .int .i64 0, .int .i64 0, .slice none 0 0] from (k57_mkF _ _ (⟨20, 0, 0, 0, 0, 0, ([] : List Int)⟩ : S57) (Nat.le_refl _) (Kd.F_nil _ _ _))) (Reps.c7 (show Kd.FK k57 _ _ (⟨23, 0, 0, 0, 0, 0, ([] : List Int)⟩ : S57) [.int .i64 23, .int .i64 0, .int .i64 0, .int .i64 0, .int .i64 0, .int .i64 0, .slice none 0 0] from (k57_mkF _ _ (⟨23, 0, 0, 0, 0, 0, ([] : List Int)⟩ : S57) (Nat.le_refl _) (Kd.F_nil _ _ _))) (Reps.none _ _))))); intro v143 w6 ho7 hb hg_ hnew_; clear hg_ hnew_; (first | rw [← Ny142.out] at ho7 | (simp only [Int.reduceToNat] at ho7; rw [← Ny142.out] at ho7)); have n0_ := Aside0.mk (Kd.R_below (by (with_reducible repeat (first | apply Kd.R_alloc | apply Kd.R_drewN | apply Kd.R_drew)); exact HO138.out) hb); have n1_ := Aside0.mk (Kd.R_below (by (with_reducible repeat (first | apply Kd.R_alloc | apply Kd.R_drewN | apply Kd.R_drew)); exact HO141.out) hb); have n2_ := Aside0.mk (Kd.N_lower ho7 (below_size (by repeat (first | (with_reducible first | exact HB.out | apply below_alloc | apply pw_below_drewN | apply below_drew1 | refine below_set ?_ GE135.out) | exact HB.out)))); have n3_ := Aside0.mk (blk_below (g := gb135) (o := .cells #[.slice none 0 0] 24 (0, 0)) (by (with_reducible repeat (first | refine blk_drewN ?_ _ | refine blk_drew ?_ | refine blk_alloc ?_ _)); exact BK135.out) hb); have n4_ := Aside0.mk (below_step (by repeat (first | (with_reducible first | exact HB.out | apply below_alloc | apply pw_below_drewN | apply below_drew1 | refine below_set ?_ GE135.out) | exact HB.out)) hb); clear HO138; clear HO141; clear BK135; clear HB; have HO138 := n0_; have HO141 := n1_; have HO144 := n2_; have BK135 := n3_; have HB := n4_; clear n0_ n1_ n2_ n3_ n4_; clear hb ho7; obtain ⟨Ao8, co8, eo8⟩ := Kd.N_slice HO144.out; subst eo8) | ((with_reducible refine gate_dst (N := 8) rfl ?_); refine Kd.N_lit k55 _ 55 ?hg (N' := 8) ?hd (xs := ([(⟨y142⟩ : S55)] : List (S55))) (inner := [.slice Ao8 y142.length co8]) (ok := (fun k_ => (w.heap.size ≤ k_) ∧ some k_ ≠ (v137 : Value).ownBlock ∧ some k_ ≠ (v140 : Value).ownBlock ∧ k_ ≠ gb135)) (okp := (fun k_ => (w.heap.size ≤ k_) ∧ some k_ ≠ (v137 : Value).ownBlock ∧ some k_ ≠ (v140 : Value).ownBlock ∧ k_ ≠ gb135)) ?hr ?hp (fun _ hk => hk) ((show ∀ k_, w6.heap.size ≤ k_ → (fun k_ => (w.heap.size ≤ k_) ∧ some k_ ≠ (v137 : Value).ownBlock ∧ some k_ ≠ (v140 : Value).ownBlock ∧ k_ ≠ gb135) k_ from fun k_ hk => ⟨(Nat.le_trans (below_size (by repeat (first | (with_reducible first | exact HB.out | apply below_alloc | apply pw_below_drewN | apply below_drew1 | refine below_set ?_ GE135.out) | exact HB.out))) hk), Kd.fresh' (Kd.R_lt (by (with_reducible repeat (first | apply Kd.R_alloc | apply Kd.R_drewN | apply Kd.R_drew)); exact HO138.out)) k_ hk, Kd.fresh' (Kd.R_lt (by (with_reducible repeat (first | apply Kd.R_alloc | apply Kd.R_drewN | apply Kd.R_drew)); exact HO141.out)) k_ hk, Kd.freshB (g := gb135) (o := .cells #[.slice none 0 0] 24 (0, 0)) (by (with_reducible repeat (first | refine blk_drewN ?_ _ | refine blk_drew ?_ | refine blk_alloc ?_ _)); exact BK135.out) k_ hk⟩) _ (Nat.le_refl _)) (Below.refl _ _) (Nat.le_refl _) (by simp) ?_; (case hd => rfl); (case hg => rfl); (case hr => first | (go_simp; done) | (go_simp; rfl)); (case hp => exact (Reps.one (show Kd.FK k55 _ _ (⟨y142⟩ : S55) [.slice Ao8 y142.length co8] from (k55_mkF _ _ (⟨y142⟩ : S55) (Kd.N_reads' (Kd.N_mono (ok' := (fun k_ => (w.heap.size ≤ k_) ∧ some k_ ≠ (v137 : Value).ownBlock ∧ some k_ ≠ (v140 : Value).ownBlock ∧ k_ ≠ gb135)) (HO144.out) (fun k_ hk => ⟨hk.1, ⟨hk.2.1, ⟨hk.2.2.1, hk.2.2.2⟩⟩⟩))).2.1 (Kd.N_F (Kd.N_mono (ok' := (fun k_ => (w.heap.size ≤ k_) ∧ some k_ ≠ (v137 : Value).ownBlock ∧ some k_ ≠ (v140 : Value).ownBlock ∧ k_ ≠ gb135)) (HO144.out) (fun k_ hk => ⟨hk.1, ⟨hk.2.1, ⟨hk.2.2.1, hk.2.2.2⟩⟩⟩))))) (Reps.none _ _))); intro v146 w9 ho10 hb hg_ hnew_; clear hg_ hnew_; (first | rw [← Ny145.out] at ho10 | (simp only [Int.reduceToNat] at ho10; rw [← Ny145.out] at ho10)); have n0_ := Aside0.mk (Kd.R_below (by (with_reducible repeat (first | apply Kd.R_alloc | apply Kd.R_drewN | apply Kd.R_drew)); exact HO138.out) hb); have n1_ := Aside0.mk (Kd.R_below (by (with_reducible repeat (first | apply Kd.R_alloc | apply Kd.R_drewN | apply Kd.R_drew)); exact HO141.out) hb); have n2_ := Aside0.mk (Kd.N_lower ho10 (below_size (by repeat (first | (with_reducible first | exact HB.out | apply below_alloc | apply pw_below_drewN | apply below_drew1 | refine below_set ?_ GE135.out) | exact HB.out)))); have n3_ := Aside0.mk (blk_below (g := gb135) (o := .cells #[.slice none 0 0] 24 (0, 0)) (by (with_reducible repeat (first | refine blk_drewN ?_ _ | refine blk_drew ?_ | refine blk_alloc ?_ _)); exact BK135.out) hb); have n4_ := Aside0.mk (below_step (by repeat (first | (with_reducible first | exact HB.out | apply below_alloc | apply pw_below_drewN | apply below_drew1 | refine below_set ?_ GE135.out) | exact HB.out)) hb); clear HO138; clear HO141; clear BK135; clear HB; clear HO144; have HO138 := n0_; have HO141 := n1_; have HO147 := n2_; have BK135 := n3_; have HB := n4_; clear n0_ n1_ n2_ n3_ n4_; clear hb ho10; obtain ⟨Ao11, co11, eo11⟩ := Kd.N_slice HO147.out; subst eo11; obtain ⟨Ao12, co12, eo12⟩ := Kd.R_slice HO141.out; subst eo12; obtain ⟨Ao13, co13, eo13⟩ := Kd.R_slice HO138.out; subst eo13) | ((with_reducible refine gate_dst (N := 10) rfl ?_); refine Kd.N_lit k52 _ 52 ?hg (N' := 10) ?hd (xs := ([(⟨y136, y139, 0, 0, y145⟩ : S52)] : List (S52))) (inner := [.slice Ao13 y136.length co13, .slice Ao12 y139.length co12, .int .i64 0, .int .i64 0, .slice Ao11 y145.length co11]) (ok := (fun k_ => (w.heap.size ≤ k_) ∧ k_ ≠ gb135)) (okp := (fun k_ => (w.heap.size ≤ k_) ∧ k_ ≠ gb135)) ?hr ?hp (fun _ hk => hk) ((show ∀ k_, w9.heap.size ≤ k_ → (fun k_ => (w.heap.size ≤ k_) ∧ k_ ≠ gb135) k_ from fun k_ hk => ⟨(Nat.le_trans (below_size (by repeat (first | (with_reducible first | exact HB.out | apply below_alloc | apply pw_below_drewN | apply below_drew1 | refine below_set ?_ GE135.out) | exact HB.out))) hk), Kd.freshB (g := gb135) (o := .cells #[.slice none 0 0] 24 (0, 0)) (by (with_reducible repeat (first | refine blk_drewN ?_ _ | refine blk_drew ?_ | refine blk_alloc ?_ _)); exact BK135.out) k_ hk⟩) _ (Nat.le_refl _)) (Below.refl _ _) (Nat.le_refl _) (by simp) ?_; (case hd => rfl); (case hg => rfl); (case hr => first | (go_simp; done) | (go_simp; rfl)); (case hp => exact (Reps.c5 (show Kd.FK k52 _ _ (⟨y136, y139, 0, 0, y145⟩ : S52) [.slice Ao13 y136.length co13, .slice Ao12 y139.length co12, .int .i64 0, .int .i64 0, .slice Ao11 y145.length co11] from (k52_mkF _ _ (⟨y136, y139, 0, 0, y145⟩ : S52) (Kd.R_reads' (Kd.R_mono (ok' := (fun k_ => (w.heap.size ≤ k_) ∧ k_ ≠ gb135)) (Kd.R_types (HO138.out) BK135.out (by decide)) (fun k_ hk => ⟨hk.1.1.1, hk.2⟩))).2.1 (Kd.R_F (Kd.R_mono (ok' := (fun k_ => (w.heap.size ≤ k_) ∧ k_ ≠ gb135)) (Kd.R_types (HO138.out) BK135.out (by decide)) (fun k_ hk => ⟨hk.1.1.1, hk.2⟩))) (Kd.R_reads' (Kd.R_mono (ok' := (fun k_ => (w.heap.size ≤ k_) ∧ k_ ≠ gb135)) (Kd.R_types (HO141.out) BK135.out (by decide)) (fun k_ hk => ⟨hk.1.1.1, hk.2⟩))).2.1 (Kd.R_F (Kd.R_mono (ok' := (fun k_ => (w.heap.size ≤ k_) ∧ k_ ≠ gb135)) (Kd.R_types (HO141.out) BK135.out (by decide)) (fun k_ hk => ⟨hk.1.1.1, hk.2⟩))) (Kd.N_reads' (Kd.N_mono (ok' := (fun k_ => (w.heap.size ≤ k_) ∧ k_ ≠ gb135)) (HO147.out) (fun k_ hk => ⟨hk.1, hk.2.2.2⟩))).2.1 (Kd.N_F (Kd.N_mono (ok' := (fun k_ => (w.heap.size ≤ k_) ∧ k_ ≠ gb135)) (HO147.out) (fun k_ hk => ⟨hk.1, hk.2.2.2⟩))))) (Reps.none _ _))); intro v149 w14 ho15 hb hg_ hnew_; clear hg_ hnew_; (first | rw [← Ny148.out] at ho15 | (simp only [Int.reduceToNat] at ho15; rw [← Ny148.out] at ho15)); have n0_ := Aside0.mk (Kd.N_lower ho15 (below_size (by repeat (first | (with_reducible first | exact HB.out | apply below_alloc | apply pw_below_drewN | apply below_drew1 | refine below_set ?_ GE135.out) | exact HB.out)))); have n1_ := Aside0.mk (blk_below (g := gb135) (o := .cells #[.slice none 0 0] 24 (0, 0)) (by (with_reducible repeat (first | refine blk_drewN ?_ _ | refine blk_drew ?_ | refine blk_alloc ?_ _)); exact BK135.out) hb); have n2_ := Aside0.mk (below_step (by repeat (first | (with_reducible first | exact HB.out | apply below_alloc | apply pw_below_drewN | apply below_drew1 | refine below_set ?_ GE135.out) | exact HB.out)) hb); clear BK135; clear HB; clear HO138; clear HO141; clear HO147; have HO150 := n0_; have BK135 := n1_; have HB := n2_; clear n0_ n1_ n2_; clear hb ho15; obtain ⟨Ao16, co16, eo16⟩ := Kd.N_slice HO150.out; subst eo16; have hcz17_0 : w14.cell? ⟨gb135, 0, none⟩ = some (.slice none 0 0) := (blk_cell BK135.out 0).trans rfl; have hfz17_0 := blk_frozen BK135.out 0))
 refine bodyPost_ret (results_cell_row rfl _ _ gb135 24 #[.slice Ao16 y148.length co16] (0, 0) _ rfl (by (with_reducible repeat (first | refine blk_drewN ?_ _ | refine blk_drew ?_ | refine blk_alloc ?_ _)); refine blk_put (cs := #[.slice none 0 0]) ?_ 0 _ rfl; (with_reducible repeat (first | refine blk_drewN ?_ _ | refine blk_drew ?_ | refine blk_alloc ?_ _)); exact BK135.out) Try.underlying24 rfl (by kernel_rfl)) rfl ?_
 exact ⟨_, by first | rfl | (simp [errW_none, errW_some] <;> rfl) | (simp [*, errW_none, errW_some] <;> rfl), by (with_reducible repeat (first | apply Kd.N_alloc | apply Kd.N_drewN | apply Kd.N_drew)); exact Kd.N_mono (Kd.N_far (p := ⟨gb135, 0, none⟩) (Kd.N_mono HO150.out (fun k_ hk => (⟨hk, hk.2⟩ : _ ∧ k_ ≠ gb135))) (fun _ hk => hk.2) (.slice Ao16 y148.length co16)) (fun _ hk => hk.1.1), by repeat (first | (with_reducible first | exact HB.out | apply below_alloc | apply pw_below_drewN | apply below_drew1 | refine below_set ?_ GE135.out) | exact HB.out)⟩
end Go.Proofs.Ytodjpbidjldblaa.PRunEdges
namespace Go.Proofs.Ytodjpbidjldblaa.H
open Go.RowKit Go.Proofs.YtodjpbidjldblaaW.PrintWords Go.Proofs.YtodjpbidjldblaaW.PrintLast
set_option linter.unusedVariables false
set_option linter.unusedSimpArgs false
set_option maxRecDepth 100000
abbrev LeadIs (w0 : World) (p : SProg) (mb : Nat) (s : VSt) (e : Ending) (W : World) : Prop := e = .returned (.tuple #[]) ∧ ∃ fs sv ev hv S, CM w0 p mb W s fs sv ev hv S
theorem vals_at {W : World} {b : Nat} {vs : List SVal} (h : ValsAt W b vs) (k : Nat) (hk : k < vs.length) : W.cell? ⟨b, k * 3, none⟩ = some (.int .i64 (varAt vs k).f0) ∧ W.cell? ⟨b, k * 3 + 1, none⟩ = some (.int .i64 (varAt vs k).f1) ∧ W.cell? ⟨b, k * 3 + 2, none⟩ = some (.int .i64 (varAt vs k).f2) := by
 have e : varAt vs (k : Int) = vs[k] := by unfold varAt; rw [Int.toNat_natCast, List.getD_eq_getElem?_getD, List.getElem?_eq_getElem hk, Option.getD_some]
 rw [e]
 exact h.at_ k hk
set_option maxHeartbeats 4000000 in
theorem lead21 (w0 : World) (p : SProg) (mb : Nat) (W : World) (s : VSt) (f : VFr) (r : List VFr) (fb vb : Nat) (fs : List (Nat × Nat)) (sv ev hv : Value) (S : Nat → Prop) (h : CM w0 p mb W s ((fb, vb) :: fs) sv ev hv S) (hst : s.stack = f :: r) (d xa xb m : Int) (n : Nat) (args : List Int) (A : Option Addr) (c : Nat) :
  Calls Try.prog 62 #[.pointer (some ⟨mb, 0, none⟩), .pointer (some ⟨fb, 0, none⟩), insV ⟨21, d, xa, xb, n, m, args⟩ A c] W (LeadIs w0 p mb { s with stack := { f with blk := n, pos := 0 } :: r }) := by
 have hB := (Bel.refl W).alloc (.cells #[.int .i64 21, .int .i64 d, .int .i64 xa, .int .i64 xb, .int .i64 n, .int .i64 m, .slice A args.length c] 57)
 obtain ⟨b, hb⟩ : ∃ b, W.heap.size = b := ⟨_, rfl⟩
 have hb0 : (W.alloc (.cells #[.int .i64 21, .int .i64 d, .int .i64 xa, .int .i64 xb, .int .i64 n, .int .i64 m, .slice A args.length c] 57)).heap[b]? = some (.cells #[.int .i64 21, .int .i64 d, .int .i64 xa, .int .i64 xb, .int .i64 n, .int .i64 m, .slice A args.length c] 57 (0, 0)) := heap_new' hb.symm
 have hC := h.step hB
 go_enter Try.func62, Try.ntmps62
 go_upto_region 1 with (fail)
 generalize (W.alloc (.cells #[.int .i64 21, .int .i64 d, .int .i64 xa, .int .i64 xb, .int .i64 n, .int .i64 m, .slice A args.length c] 57)) = wa at hB hb0 hC ⊢
 have hfb : b ≠ fb := fun e => by
  have h1 := (h.sf (fb, vb) (List.mem_cons_self ..)).1
  have h2 := h.sb _ h1
  have h2 : fb < W.heap.size := h2
  omega
 obtain ⟨_, _, _, q0, hf⟩ := hC.top hst
 injection q0 with q0 q1
 cases q0
 obtain ⟨k0, k1, k2, k3, A4, c4, hfr, _⟩ := hf.frame
 have hvs : ValsAt wa vb f.vars := hf.vars
 clear hf q1
 have z0 : wa.cell? ⟨b, 0, none⟩ = some (.int .i64 21) := blk_cell hb0 0
 have z4 : wa.cell? ⟨b, 4, none⟩ = some (.int .i64 n) := blk_cell hb0 4
 have q0 := blk_frozen hfr 6
 have q1 := blk_frozen hfr 7
 have q2 : wa.cell? ⟨fb, 6, none⟩ = some (.int .i64 f.blk) := blk_cell hfr 6
 have q3 : wa.cell? ⟨fb, 7, none⟩ = some (.int .i64 f.pos) := blk_cell hfr 7
 go_wp2
 go_end0
 exact ⟨rfl, _, _, _, _, _, hC.setF (f1 := { f with blk := n, pos := 0 }) hst rfl rfl ((KO.set fb 6 wa (.int .i64 n)).trans (KO.set fb 7 _ (.int .i64 0))) (fun _ _ _ _ _ _ hm0 => (blk_set ((blk_set hm0 6 _).trans rfl) 7 _).trans rfl)⟩
set_option maxHeartbeats 4000000 in
theorem lead22 (w0 : World) (p : SProg) (mb : Nat) (W : World) (s : VSt) (f : VFr) (r : List VFr) (fb vb : Nat) (fs : List (Nat × Nat)) (sv ev hv : Value) (S : Nat → Prop) (h : CM w0 p mb W s ((fb, vb) :: fs) sv ev hv S) (hst : s.stack = f :: r) (d xb : Int) (ka n m : Nat) (hka : ka < f.vars.length) (args : List Int) (A : Option Addr) (c : Nat) :
  Calls Try.prog 62 #[.pointer (some ⟨mb, 0, none⟩), .pointer (some ⟨fb, 0, none⟩), insV ⟨22, d, ka, xb, n, m, args⟩ A c] W (LeadIs w0 p mb { s with stack := { f with blk := if (varAt f.vars ka).f0 = 0 then m else n, pos := 0 } :: r }) := by
 have hB := (Bel.refl W).alloc (.cells #[.int .i64 22, .int .i64 d, .int .i64 ka, .int .i64 xb, .int .i64 n, .int .i64 m, .slice A args.length c] 57)
 obtain ⟨b, hb⟩ : ∃ b, W.heap.size = b := ⟨_, rfl⟩
 have hb0 : (W.alloc (.cells #[.int .i64 22, .int .i64 d, .int .i64 ka, .int .i64 xb, .int .i64 n, .int .i64 m, .slice A args.length c] 57)).heap[b]? = some (.cells #[.int .i64 22, .int .i64 d, .int .i64 ka, .int .i64 xb, .int .i64 n, .int .i64 m, .slice A args.length c] 57 (0, 0)) := heap_new' hb.symm
 have hC := h.step hB
 go_enter Try.func62, Try.ntmps62
 go_upto_region 1 with (fail)
 generalize (W.alloc (.cells #[.int .i64 22, .int .i64 d, .int .i64 ka, .int .i64 xb, .int .i64 n, .int .i64 m, .slice A args.length c] 57)) = wa at hB hb0 hC ⊢
 have hfb : b ≠ fb := fun e => by
  have h1 := (h.sf (fb, vb) (List.mem_cons_self ..)).1
  have h2 := h.sb _ h1
  have h2 : fb < W.heap.size := h2
  omega
 obtain ⟨_, _, _, q0, hf⟩ := hC.top hst
 injection q0 with q0 q1
 cases q0
 obtain ⟨k0, k1, k2, k3, A4, c4, hfr, _⟩ := hf.frame
 have hvs : ValsAt wa vb f.vars := hf.vars
 clear hf q1
 have z0 : wa.cell? ⟨b, 0, none⟩ = some (.int .i64 22) := blk_cell hb0 0
 have z2 : wa.cell? ⟨b, 2, none⟩ = some (.int .i64 ka) := blk_cell hb0 2
 have z4 : wa.cell? ⟨b, 4, none⟩ = some (.int .i64 n) := blk_cell hb0 4
 have z5 : wa.cell? ⟨b, 5, none⟩ = some (.int .i64 m) := blk_cell hb0 5
 have q0 := blk_frozen hfr 6
 have q1 := blk_frozen hfr 7
 have q2 : wa.cell? ⟨fb, 6, none⟩ = some (.int .i64 f.blk) := blk_cell hfr 6
 have q3 : wa.cell? ⟨fb, 7, none⟩ = some (.int .i64 f.pos) := blk_cell hfr 7
 go_upto_region 19 with (fail)
 have hfr1 := (blk_set ((blk_set hfr 6 (.int .i64 n)).trans rfl) 7 (.int .i64 0)).trans rfl
 have hC1 := hC.setF (f1 := { f with blk := n, pos := 0 }) hst rfl rfl ((KO.set fb 6 wa (.int .i64 n)).trans (KO.set fb 7 _ (.int .i64 0))) (fun _ _ _ _ _ _ hm0 => (blk_set ((blk_set hm0 6 _).trans rfl) 7 _).trans rfl)
 have hb1 := blk_far (blk_far hb0 (p := ⟨fb, 6, none⟩) (fun e => hfb e) (.int .i64 n)) (p := ⟨fb, 7, none⟩) (fun e => hfb e) (.int .i64 0)
 clear q0 q1 q2 q3 z2 z4 z5 z0 hfr hvs hC hb0
 generalize (wa.setCell ⟨fb, 6, none⟩ (.int .i64 n)).setCell ⟨fb, 7, none⟩ (.int .i64 0) = wc at hfr1 hC1 hb1 ⊢
 have z2 : wc.cell? ⟨b, 2, none⟩ = some (.int .i64 ka) := blk_cell hb1 2
 have z5 : wc.cell? ⟨b, 5, none⟩ = some (.int .i64 m) := blk_cell hb1 5
 have z6 : wc.cell? ⟨fb, 5, none⟩ = some (.slice (some ⟨vb, 0, none⟩) f.vars.length f.vars.length) := blk_cell hfr1 5
 obtain ⟨_, _, _, q0, hf⟩ := hC1.top rfl
 injection q0 with q0 q1
 cases q0
 have hv1 : ValsAt wc vb f.vars := hf.vars
 obtain ⟨y0, _, _⟩ := vals_at hv1 ka hka
 have hkl : (ka : Int) < (f.vars.length : Int) := by omega
 have e0 : (if (varAt f.vars (ka : Int)).f0 = 0 then m else n) = if (varAt f.vars (ka : Int)).f0 == 0 then m else n := by simp
 rw [e0]
 obtain ⟨bb, hbb⟩ : ∃ bb, ((varAt f.vars (ka : Int)).f0 == 0) = bb := ⟨_, rfl⟩
 rw [hbb]
 go_quiet (fail)
 clear z2 z6 y0
 have hBn : Bel wc (wc.drewN nq) := (Bel.refl wc).drewN nq
 have hC2 := hC1.step hBn
 have hb2 := hBn.blk hb1
 have hfr2 := hBn.blk hfr1
 clear z5 hC1 hb1 hfr1 hv1 hf
 generalize wc.drewN nq = wd at hC2 hb2 hfr2 ⊢
 have z5 : wd.cell? ⟨b, 5, none⟩ = some (.int .i64 m) := blk_cell hb2 5
 have q0 := blk_frozen hfr2 6
 have q2 : wd.cell? ⟨fb, 6, none⟩ = some (.int .i64 n) := blk_cell hfr2 6
 cases bb with
 | true =>
  go_wp2
  go_end0
  exact ⟨rfl, _, _, _, _, _, hC2.setF (f1 := { f with blk := m, pos := 0 }) rfl rfl rfl (KO.set fb 6 wd (.int .i64 m)) (fun _ _ _ _ _ _ hm0 => (blk_set hm0 6 _).trans rfl)⟩
 | false =>
  go_wp2
  go_end0
  exact ⟨rfl, _, _, _, _, _, hC2⟩
set_option maxHeartbeats 4000000 in
theorem lead23 (w0 : World) (p : SProg) (mb : Nat) (W : World) (s : VSt) (f : VFr) (r : List VFr) (fb vb : Nat) (fs : List (Nat × Nat)) (sv ev hv : Value) (S : Nat → Prop) (h : CM w0 p mb W s ((fb, vb) :: fs) sv ev hv S) (hst : s.stack = f :: r) (hn : r.length < 60) (hw : Aside0 (∀ g ∈ r, g.want < g.vars.length ∧ g.vars.length ≤ 48)) (d xb n m : Int) (ka : Nat) (hka : ka < f.vars.length) (args : List Int) (A : Option Addr) (c : Nat) :
  Calls Try.prog 62 #[.pointer (some ⟨mb, 0, none⟩), .pointer (some ⟨fb, 0, none⟩), insV ⟨23, d, ka, xb, n, m, args⟩ A c] W (LeadIs w0 p mb (leaveL s (varAt f.vars ka) r)) := by
 have hB := (Bel.refl W).alloc (.cells #[.int .i64 23, .int .i64 d, .int .i64 ka, .int .i64 xb, .int .i64 n, .int .i64 m, .slice A args.length c] 57)
 obtain ⟨b, hb⟩ : ∃ b, W.heap.size = b := ⟨_, rfl⟩
 have hb0 : (W.alloc (.cells #[.int .i64 23, .int .i64 d, .int .i64 ka, .int .i64 xb, .int .i64 n, .int .i64 m, .slice A args.length c] 57)).heap[b]? = some (.cells #[.int .i64 23, .int .i64 d, .int .i64 ka, .int .i64 xb, .int .i64 n, .int .i64 m, .slice A args.length c] 57 (0, 0)) := heap_new' hb.symm
 have hC := h.step hB
 go_enter Try.func62, Try.ntmps62
 go_upto_region 1 with (fail)
 generalize (W.alloc (.cells #[.int .i64 23, .int .i64 d, .int .i64 ka, .int .i64 xb, .int .i64 n, .int .i64 m, .slice A args.length c] 57)) = wa at hB hb0 hC ⊢
 have hfb : b ≠ fb := fun e => by
  have h1 := (h.sf (fb, vb) (List.mem_cons_self ..)).1
  have h2 := h.sb _ h1
  have h2 : fb < W.heap.size := h2
  omega
 obtain ⟨_, _, _, q0, hf⟩ := hC.top hst
 injection q0 with q0 q1
 cases q0
 obtain ⟨k0, k1, k2, k3, A4, c4, hfr, _⟩ := hf.frame
 have hvs : ValsAt wa vb f.vars := hf.vars
 clear hf q1
 have z0 : wa.cell? ⟨b, 0, none⟩ = some (.int .i64 23) := blk_cell hb0 0
 have z2 : wa.cell? ⟨b, 2, none⟩ = some (.int .i64 ka) := blk_cell hb0 2
 have z6 : wa.cell? ⟨fb, 5, none⟩ = some (.slice (some ⟨vb, 0, none⟩) f.vars.length f.vars.length) := blk_cell hfr 5
 obtain ⟨y0, y1, y2⟩ := vals_at hvs ka hka
 have hkl : (ka : Int) < (f.vars.length : Int) := by omega
 obtain ⟨v, hv0⟩ : ∃ v, varAt f.vars (ka : Int) = v := ⟨_, rfl⟩
 rw [hv0] at y0 y1 y2 ⊢
 have hlv := Aside0.mk (fun q (k : Bel wa q) => leave_any w0 p mb q s f r fb vb fs sv ev hv S (hC.step k) hst hn hw v)
 go_upto_region 22 with (fail)
 go_region_law (refine goes_ (f := 79) Try.func79 (by kernel_rfl) rfl #[.pointer (some ⟨mb, 0, none⟩), valV v] rfl rfl rfl (by simp only [List.map_toArray, List.map_cons, List.map_nil]; rfl) ?_; refine (hlv.out _ ((Bel.refl wa).drewN _)).mono ?_; rintro e w' ⟨rfl, fs1, sv1, hz⟩; refine ⟨_, rfl, ?_⟩)
 all_goals
  try go_wp2
  go_end0
  exact ⟨rfl, _, _, _, _, _, hz⟩
section
variable {ops : Array Oper} {rest : List Oper} {o : Oper} {a : Act} {Q : Exit → Act → World → Prop}
theorem app_ev_step {Kc : Act → World → Prop} {base : Nat} {W : World} {v : Value} {xs : List Int} (p : Int) (HO : OwnAt (Kd.int .i64) 3 base W v xs) (hbase : base ≤ W.heap.size) (hgd : o.guard = none) (s x : Operand)
  (ho : o.op = .call { callee := .builtin .append, args := #[s, x], argTypes := #[31, 31] })
  (hl : xs.length ≤ 100000) (hs : a.eval s = v) (hx : a.eval x = .slice (some ⟨W.heap.size, 0, none⟩) 1 1)
  (h : ∀ v1 w1, OwnAt (Kd.int .i64) 3 base w1 v1 (xs ++ [p]) → W.grownBy w1 v.ownBlock → (v1.ownBlock = v.ownBlock ∨ ∃ b, v1.ownBlock = some b ∧ W.heap.size ≤ b) → Kc (a.put o.dst v1) w1) :
  if Region.wanted o (yielded ops a.tmps) = true then Oper.wp Try.prog o a (W.alloc (.cells #[.int .i64 p] 3)) Kc Q else Kc (a.put o.dst undef) (W.alloc (.cells #[.int .i64 p] 3)) := by
 refine Kd.R_append_step (Kd.int .i64) (w0 := W) base (by simp [Region.wanted, hgd]) s x 31 3 (.int .i64 0) 8 ho Try.underlying31 info_int rfl (by decide) (by omega) v xs p [.int .i64 p] (fun _ => True) (fun _ => False) hs hx rfl (fun _ hk => hk.elim) (fun _ _ => trivial) HO.out (Below.refl _ _) hbase (by omega) ?_
 intro v1 w1 ho hb hg hat
 exact h v1 w1 ⟨ho⟩ hg hat
theorem app_val {w0 W : World} {v : Value} {xs : List SVal} (p : SVal) (HO : Own kVal 89 w0 W v xs) (HB : Bel w0 W) (hgd : o.guard = none) (s x : Operand)
  (ho : o.op = .call { callee := .builtin .append, args := #[s, x], argTypes := #[60, 60] })
  (hl : xs.length ≤ 1000000) (hs : a.eval s = v) (hx : a.eval x = .slice (some ⟨W.heap.size, 0, none⟩) 1 1)
  (h : ∀ v1 w1, Own kVal 89 w0 w1 v1 (xs ++ [p]) → Bel w0 w1 → wpList Try.prog ops Q rest (a.put o.dst v1) w1) :
  wpList Try.prog ops Q (o :: rest) a (W.alloc (.cells #[.int .i64 p.f0, .int .i64 p.f1, .int .i64 p.f2] 89)) := by
 refine Kd.R_append kVal (w0 := w0) w0.heap.size hgd s x 60 89 (.agg #[.int .i64 0, .int .i64 0, .int .i64 0]) 24 ho Try.underlying60 info_Val rfl (by decide) (by omega) v xs p [.int .i64 p.f0, .int .i64 p.f1, .int .i64 p.f2] (fun _ => True) (fun _ => False) hs hx (kVal_mkM _ _ _ p) (fun _ hk => hk.elim) (fun _ _ => trivial) HO.out HB.out (below_size HB.out) (by omega) ?_
 intro v1 w1 ho hb hg hat
 exact h v1 w1 ⟨ho⟩ ⟨hb⟩
end
set_option maxHeartbeats 4000000 in
theorem lead20 (w0 : World) (p : SProg) (mb : Nat) (W : World) (s : VSt) (f : VFr) (r : List VFr) (fb vb : Nat) (fs : List (Nat × Nat)) (sv ev hv : Value) (S : Nat → Prop) (h : CM w0 p mb W s ((fb, vb) :: fs) sv ev hv S) (hst : s.stack = f :: r) (hel : s.evs.length ≤ 100000) (d xb n m : Int) (ka : Nat) (hka : ka < f.vars.length) (args : List Int) (A : Option Addr) (c : Nat) :
  Calls Try.prog 62 #[.pointer (some ⟨mb, 0, none⟩), .pointer (some ⟨fb, 0, none⟩), insV ⟨20, d, ka, xb, n, m, args⟩ A c] W (LeadIs w0 p mb { s with stack := f :: r, evs := s.evs ++ [(varAt f.vars ka).f0] }) := by
 have hB := (Bel.refl W).alloc (.cells #[.int .i64 20, .int .i64 d, .int .i64 ka, .int .i64 xb, .int .i64 n, .int .i64 m, .slice A args.length c] 57)
 obtain ⟨b, hb⟩ : ∃ b, W.heap.size = b := ⟨_, rfl⟩
 have hb0 : (W.alloc (.cells #[.int .i64 20, .int .i64 d, .int .i64 ka, .int .i64 xb, .int .i64 n, .int .i64 m, .slice A args.length c] 57)).heap[b]? = some (.cells #[.int .i64 20, .int .i64 d, .int .i64 ka, .int .i64 xb, .int .i64 n, .int .i64 m, .slice A args.length c] 57 (0, 0)) := heap_new' hb.symm
 have hC := h.step hB
 go_enter Try.func62, Try.ntmps62
 go_upto_region 1 with (fail)
 generalize (W.alloc (.cells #[.int .i64 20, .int .i64 d, .int .i64 ka, .int .i64 xb, .int .i64 n, .int .i64 m, .slice A args.length c] 57)) = wa at hB hb0 hC ⊢
 have hfb : b ≠ fb := fun e => by
  have h1 := (h.sf (fb, vb) (List.mem_cons_self ..)).1
  have h2 := h.sb _ h1
  have h2 : fb < W.heap.size := h2
  omega
 obtain ⟨_, _, _, q0, hf⟩ := hC.top hst
 injection q0 with q0 q1
 cases q0
 obtain ⟨k0, k1, k2, k3, A4, c4, hfr, _⟩ := hf.frame
 have hvs : ValsAt wa vb f.vars := hf.vars
 clear hf q1
 have z0 : wa.cell? ⟨b, 0, none⟩ = some (.int .i64 20) := blk_cell hb0 0
 obtain ⟨EA, ec, rfl, _, _⟩ := h.evs.reads
 obtain ⟨PA, pc, hm, _⟩ := hC.blk
 have z2 : wa.cell? ⟨b, 2, none⟩ = some (.int .i64 ka) := blk_cell hb0 2
 have z6 : wa.cell? ⟨fb, 5, none⟩ = some (.slice (some ⟨vb, 0, none⟩) f.vars.length f.vars.length) := blk_cell hfr 5
 have z7 : wa.cell? ⟨mb, 3, none⟩ = some (.slice EA s.evs.length ec) := blk_cell hm 3
 have z8 : ∀ o, (wa.alloc o).cell? ⟨mb, 3, none⟩ = some (.slice EA s.evs.length ec) := fun o => Bel.cell ((Bel.refl wa).alloc o) z7
 obtain ⟨y0, y1, y2⟩ := vals_at hvs ka hka
 have hkl : (ka : Int) < (f.vars.length : Int) := by omega
 obtain ⟨v, hv0⟩ : ∃ v, varAt f.vars (ka : Int) = v := ⟨_, rfl⟩
 rw [hv0] at y0 y1 y2 ⊢
 have hCd := hC.step ((Bel.refl wa).drewN 1)
 have hev := hCd.evs
 have hbase := hCd.bel.size
 have hmd := ((Bel.refl wa).drewN 1).blk hm
 have hnm := hev.ne hmd (by decide)
 replace hst := Aside0.mk hst
 go_upto_region 14 with (fail)
 go_region_law (refine app_ev_step (W := wa.drewN 1) v.f0 hev hbase rfl _ _ rfl hel rfl rfl ?_; intro v1 w2 ho2 hg2 hat2; obtain ⟨A9, c9, rfl, _, _⟩ := ho2.reads; have hm2 := (hg2.block mb (blk_lt hmd) (fun e => hnm e.symm)).trans hmd; have q0 := blk_frozen hm2 3; have q1 : w2.cell? ⟨mb, 3, none⟩ = some (.slice EA s.evs.length ec) := blk_cell hm2 3)
 all_goals
  try go_wp2
  go_end0
  obtain ⟨S1, hz⟩ := hCd.tell ho2 hg2 hat2 (KO.set mb 3 w2 _) (fun PA2 pc2 hm0 => (blk_set hm0 3 _).trans rfl)
  have e9 : (s.evs ++ [v.f0]).length = s.evs.length + 1 := by simp
  rw [e9] at hz
  refine ⟨rfl, (fb, vb) :: fs, sv, .slice A9 (s.evs.length + 1) c9, hv, S1, ?_⟩
  rw [← hst.out]
  exact hz
set_option maxHeartbeats 4000000 in
theorem lead19 (w0 : World) (p : SProg) (mb : Nat) (W : World) (s : VSt) (f : VFr) (r : List VFr) (fb vb : Nat) (fs : List (Nat × Nat)) (sv ev hv : Value) (S : Nat → Prop) (h : CM w0 p mb W s ((fb, vb) :: fs) sv ev hv S) (hst : s.stack = f :: r) (hn60 : r.length < 60) (xa xb m : Int) (d n : Nat) (hn : n < p.f0.length) (hf8 : p.f0.length ≤ 100)
  (args : List Int) (A : Option Addr) (c : Nat) (hR : RdI W A args) (hargs : Aside0 (∀ v ∈ args, 0 ≤ v ∧ v < (f.vars.length : Int))) (hal : args.length ≤ (fnAt p n).f0.length) (h48 : (fnAt p n).f0.length ≤ 48) :
  Calls Try.prog 62 #[.pointer (some ⟨mb, 0, none⟩), .pointer (some ⟨fb, 0, none⟩), insV ⟨19, d, xa, xb, n, m, args⟩ A c] W (LeadIs w0 p mb (if 60 ≤ r.length + 1 then { s with stack := f :: r, fin := 2, code := 18 } else { s with stack := beginL p n (args.map (varAt f.vars)) :: { f with want := d } :: r })) := by
 obtain ⟨g, sc, rfl, hsc, _⟩ := h.ptr
 have hlen : fs.length = r.length := by have := h.len; rw [hst] at this; simpa using this
 by_cases hdeep : 60 ≤ r.length + 1
 ·rw [if_pos hdeep]
  have hB := (Bel.refl W).alloc (.cells #[.int .i64 19, .int .i64 d, .int .i64 xa, .int .i64 xb, .int .i64 n, .int .i64 m, .slice A args.length c] 57)
  obtain ⟨b, hb⟩ : ∃ b, W.heap.size = b := ⟨_, rfl⟩
  have hb0 : (W.alloc (.cells #[.int .i64 19, .int .i64 d, .int .i64 xa, .int .i64 xb, .int .i64 n, .int .i64 m, .slice A args.length c] 57)).heap[b]? = some (.cells #[.int .i64 19, .int .i64 d, .int .i64 xa, .int .i64 xb, .int .i64 n, .int .i64 m, .slice A args.length c] 57 (0, 0)) := heap_new' hb.symm
  have hC := h.step hB
  go_enter Try.func62, Try.ntmps62
  go_upto_region 1 with (fail)
  generalize (W.alloc (.cells #[.int .i64 19, .int .i64 d, .int .i64 xa, .int .i64 xb, .int .i64 n, .int .i64 m, .slice A args.length c] 57)) = wa at hB hb0 hC ⊢
  have hfb : b ≠ fb := fun e => by
   have h1 := (h.sf (fb, vb) (List.mem_cons_self ..)).1
   have h2 := h.sb _ h1
   have h2 : fb < W.heap.size := h2
   omega
  obtain ⟨_, _, _, q0, hf⟩ := hC.top hst
  injection q0 with q0 q1
  cases q0
  obtain ⟨k0, k1, k2, k3, A4, c4, hfr, _⟩ := hf.frame
  have hvs : ValsAt wa vb f.vars := hf.vars
  clear hf q1
  have z0 : wa.cell? ⟨b, 0, none⟩ = some (.int .i64 19) := blk_cell hb0 0
  obtain ⟨PA, pc, hm, _⟩ := hC.blk
  have z7 : wa.cell? ⟨mb, 1, none⟩ = some (.slice (some ⟨g, 0, none⟩) (fs.length + 1) sc) := blk_cell hm 1
  obtain ⟨nn, hnn⟩ : ∃ nn, fs.length = nn := ⟨_, rfl⟩
  rw [hnn] at z7
  rw [hnn] at hlen
  replace hnn := Aside0.mk hnn
  have b1 : (60 : Int) ≤ (nn : Int) + 1 := by omega
  have ht := trap_yes w0 p mb wa s _ _ _ _ _ hC 18 (by decide)
  replace ht := Aside0.mk ht
  replace hdeep := Aside0.mk hdeep
  replace hlen := Aside0.mk hlen
  go_wp2_with (go_at_call 63; ((with_reducible refine ht.out.mono ?_); rintro e w2 ⟨rfl, hz⟩))
  refine bodyPost_ret (v := .tuple #[]) (by simp [results, Try.results62, go_sem]) rfl ⟨rfl, (fb, vb) :: fs, .slice (some ⟨g, 0, none⟩) (fs.length + 1) sc, ev, hv, S, ?_⟩
  rw [← hst]
  exact hz
 ·rw [if_neg hdeep]
  have hB := (Bel.refl W).alloc (.cells #[.int .i64 19, .int .i64 d, .int .i64 xa, .int .i64 xb, .int .i64 n, .int .i64 m, .slice A args.length c] 57)
  obtain ⟨b, hb⟩ : ∃ b, W.heap.size = b := ⟨_, rfl⟩
  have hb0 : (W.alloc (.cells #[.int .i64 19, .int .i64 d, .int .i64 xa, .int .i64 xb, .int .i64 n, .int .i64 m, .slice A args.length c] 57)).heap[b]? = some (.cells #[.int .i64 19, .int .i64 d, .int .i64 xa, .int .i64 xb, .int .i64 n, .int .i64 m, .slice A args.length c] 57 (0, 0)) := heap_new' hb.symm
  have hC := h.step hB
  go_enter Try.func62, Try.ntmps62
  go_upto_region 1 with (fail)
  generalize (W.alloc (.cells #[.int .i64 19, .int .i64 d, .int .i64 xa, .int .i64 xb, .int .i64 n, .int .i64 m, .slice A args.length c] 57)) = wa at hB hb0 hC ⊢
  have hfb : b ≠ fb := fun e => by
   have h1 := (h.sf (fb, vb) (List.mem_cons_self ..)).1
   have h2 := h.sb _ h1
   have h2 : fb < W.heap.size := h2
   omega
  obtain ⟨_, _, _, q0, hf⟩ := hC.top hst
  injection q0 with q0 q1
  cases q0
  obtain ⟨k0, k1, k2, k3, A4, c4, hfr, _⟩ := hf.frame
  have hvs : ValsAt wa vb f.vars := hf.vars
  clear hf q1
  have z0 : wa.cell? ⟨b, 0, none⟩ = some (.int .i64 19) := blk_cell hb0 0
  obtain ⟨PA, pc, hm, _⟩ := hC.blk
  have z7 : wa.cell? ⟨mb, 1, none⟩ = some (.slice (some ⟨g, 0, none⟩) (fs.length + 1) sc) := blk_cell hm 1
  obtain ⟨nn, hnn⟩ : ∃ nn, fs.length = nn := ⟨_, rfl⟩
  rw [hnn] at z7
  rw [hnn] at hlen
  replace hnn := Aside0.mk hnn
  have b1 : decide ((60 : Int) ≤ (nn : Int) + 1) = false := decide_eq_false (by omega)
  have b2 : (nn : Int) + 1 < 60 := by omega
  replace hdeep := Aside0.mk hdeep
  replace hlen := Aside0.mk hlen
  have z6 : wa.cell? ⟨b, 6, none⟩ = some (.slice A args.length c) := blk_cell hb0 6
  have z1 : wa.cell? ⟨b, 1, none⟩ = some (.int .i64 d) := blk_cell hb0 1
  have z4 : wa.cell? ⟨b, 4, none⟩ = some (.int .i64 n) := blk_cell hb0 4
  have hRa := hR.step hB
  go_wp2
  go_loopw [6, 24] (fun v i W => ∃ k : Nat, k ≤ args.length ∧ i = .int .i64 k ∧ Own kVal 89 wa W v ((args.take k).map (varAt f.vars)) ∧ Bel wa W) (fun _ i _ => args.length - (intOf i).toNat)
  case atStart => exact ⟨0, by omega, rfl, Own.nil _ _ _ _, Bel.refl _⟩
  case round =>
   obtain ⟨k, hk, rfl, hO, hBr⟩ := hrel
   by_cases hlt : k < args.length
   ·have hlt1 : (k : Int) < (args.length : Int) := by omega
    obtain ⟨ad, rfl, hcell⟩ := rd_atN (hRa.step hBr) k hlt
    have hv1 := hargs.out args[k] (List.getElem_mem hlt)
    have hrd : rd args (k : Int) = args[k] := by simp [rd, List.getD_eq_getElem?_getD, List.getElem?_eq_getElem hlt]
    obtain ⟨ka, hka⟩ : ∃ ka : Nat, args[k] = (ka : Int) := ⟨args[k].toNat, by omega⟩
    rw [hrd, hka] at hcell
    have hkv : ka < f.vars.length := by omega
    have hkl : (ka : Int) < (f.vars.length : Int) := by omega
    have hsn : (args.take (k + 1)).map (varAt f.vars) = (args.take k).map (varAt f.vars) ++ [varAt f.vars (ka : Int)] := by rw [take_snocL args k hlt, List.map_append, hka]; rfl
    obtain ⟨y0, y1, y2⟩ := vals_at (hBr.blk hvs) ka hkv
    have z8 : wr.cell? ⟨fb, 5, none⟩ = some (.slice (some ⟨vb, 0, none⟩) f.vars.length f.vars.length) := blk_cell (hBr.blk hfr) 5
    obtain ⟨v, hv0⟩ : ∃ v, varAt f.vars (ka : Int) = v := ⟨_, rfl⟩
    rw [hv0] at y0 y1 y2 hsn
    obtain ⟨l1, hl1⟩ : ∃ l1, (args.take k).map (varAt f.vars) = l1 := ⟨_, rfl⟩
    have hln : l1.length ≤ 1000000 := by rw [← hl1]; simp; omega
    rw [hl1] at hO hsn
    replace hsn := Aside0.mk hsn
    replace hka := Aside0.mk hka
    replace hv1 := Aside0.mk hv1
    clear hrd hl1
    obtain ⟨A8, c8, rfl, _, _⟩ := hO.reads
    go_wp2_with (refine app_val v hO hBr rfl _ _ rfl hln rfl rfl ?_; intro v1 w2 ho2 hB2)
    go_roundw
    case rel => exact ⟨k + 1, by omega, by go_num, by rw [hsn.out]; exact ho2, hB2⟩
    case measure => simp [intOf]; omega
   ·obtain rfl : k = args.length := by omega
    rw [List.take_length] at hO
    obtain ⟨l1, hl1⟩ : ∃ l1, args.map (varAt f.vars) = l1 := ⟨_, rfl⟩
    have hln : l1.length = args.length := by rw [← hl1]; simp
    rw [hl1] at hO ⊢
    have hCr := hC.step hBr
    have hfr1 := hBr.blk hfr
    have q0 := blk_frozen hfr1 8
    have q1 : wr.cell? ⟨fb, 8, none⟩ = some (.int .i64 f.want) := blk_cell hfr1 8
    have x1 : wr.cell? ⟨b, 1, none⟩ = some (.int .i64 d) := Bel.cell hBr z1
    have x4 : (wr.setCell ⟨fb, 8, none⟩ (.int .i64 d)).cell? ⟨b, 4, none⟩ = some (.int .i64 n) := blk_cell (blk_far (hBr.blk hb0) (p := ⟨fb, 8, none⟩) (fun e => hfb e) (.int .i64 d)) 4
    have hOA : OwnAt kVal 89 wa.heap.size wr _ l1 := ⟨hO.out⟩
    have hO1 := hOA.koE rfl (KO.set fb 8 wr (.int .i64 d)) (hOA.ne hfr1 (by decide))
    have hC1 := hCr.setF (f1 := { f with want := d }) hst rfl rfl (KO.set fb 8 wr (.int .i64 d)) (fun _ _ _ _ _ _ hm0 => (blk_set hm0 8 _).trans rfl)
    obtain ⟨A8, c8, rfl, hc8, hR8⟩ := hO1.reads
    have hen := Aside0.mk (enter_any w0 p mb _ _ _ _ _ _ _ hC1 n hn hf8 l1 A8 c8 hR8 (by omega) h48 (by simp; omega))
    replace hl1 := Aside0.mk hl1
    replace hln := Aside0.mk hln
    go_wp2_with (go_at_call 41; ((with_reducible refine hen.out.mono ?_); rintro e w2 ⟨rfl, fs1, sv1, S1, hz⟩))
    go_end0
    rw [← hl1.out] at hz
    exact ⟨rfl, _, _, _, _, _, hz⟩
theorem lead_any (w0 : World) (p : SProg) (mb : Nat) (W : World) (s : VSt) (f : VFr) (r : List VFr) (fb vb : Nat) (fs : List (Nat × Nat)) (sv ev hv : Value) (S : Nat → Prop) (h : CM w0 p mb W s ((fb, vb) :: fs) sv ev hv S) (hst : s.stack = f :: r) (hn60 : r.length < 60) (hw : Aside0 (∀ g ∈ r, g.want < g.vars.length ∧ g.vars.length ≤ 48)) (hel : s.evs.length ≤ 100000)
  (x : SIns) (A : Option Addr) (c : Nat) (hR : RdI W A x.f6) (hp : ProgP p) (hi : InsP p (fnAt p f.fn) x) (hvl : f.vars.length = (fnAt p f.fn).f0.length) (hop : x.f0 = 19 ∨ x.f0 = 20 ∨ x.f0 = 21 ∨ x.f0 = 22 ∨ x.f0 = 23) :
  Calls Try.prog 62 #[.pointer (some ⟨mb, 0, none⟩), .pointer (some ⟨fb, 0, none⟩), insV x A c] W (LeadIs w0 p mb (leadL p x s f r)) := by
 have d1 := hi.d
 have a1 := hi.a
 have l1 := hi.l
 have j1 := hi.jump
 have br1 := hi.branch
 have c1 := hi.call
 have hf8 := hp.funcs.2
 rw [← hvl] at d1 a1 l1
 obtain ⟨op, d, xa, xb, n, m, args⟩ := x
 simp only at *
 rcases hop with e | e | e | e | e
 ·subst e
  obtain ⟨⟨n0, n1⟩, n2⟩ := c1 rfl
  obtain ⟨d0, _⟩ := d1 (by decide)
  obtain ⟨d, rfl⟩ : ∃ k : Nat, d = (k : Int) := ⟨d.toNat, by omega⟩
  obtain ⟨n, rfl⟩ : ∃ k : Nat, n = (k : Int) := ⟨n.toNat, by omega⟩
  have hfn := hp.func n (by omega)
  exact lead19 w0 p mb W s f r fb vb fs sv ev hv S h hst hn60 xa xb m d n (by omega) (by omega) args A c hR ⟨l1 (by decide)⟩ (by have := hfn.par; simp only [Int.toNat_natCast] at n2; omega) hfn.vars
 ·subst e
  obtain ⟨a0, a2⟩ := a1 (by decide)
  obtain ⟨ka, rfl⟩ : ∃ k : Nat, xa = (k : Int) := ⟨xa.toNat, by omega⟩
  exact lead20 w0 p mb W s f r fb vb fs sv ev hv S h hst hel d xb n m ka (by omega) args A c
 ·subst e
  obtain ⟨n0, n1⟩ := j1 rfl
  obtain ⟨n, rfl⟩ : ∃ k : Nat, n = (k : Int) := ⟨n.toNat, by omega⟩
  exact lead21 w0 p mb W s f r fb vb fs sv ev hv S h hst d xa xb m n args A c
 ·subst e
  obtain ⟨⟨n0, n1⟩, m0, m1⟩ := br1 rfl
  obtain ⟨a0, a2⟩ := a1 (by decide)
  obtain ⟨n, rfl⟩ : ∃ k : Nat, n = (k : Int) := ⟨n.toNat, by omega⟩
  obtain ⟨m, rfl⟩ : ∃ k : Nat, m = (k : Int) := ⟨m.toNat, by omega⟩
  obtain ⟨ka, rfl⟩ : ∃ k : Nat, xa = (k : Int) := ⟨xa.toNat, by omega⟩
  exact lead22 w0 p mb W s f r fb vb fs sv ev hv S h hst d xb ka n m (by omega) args A c
 ·subst e
  obtain ⟨a0, a2⟩ := a1 (by decide)
  obtain ⟨ka, rfl⟩ : ∃ k : Nat, xa = (k : Int) := ⟨xa.toNat, by omega⟩
  exact lead23 w0 p mb W s f r fb vb fs sv ev hv S h hst hn60 hw d xb n m ka (by omega) args A c
end Go.Proofs.Ytodjpbidjldblaa.H
