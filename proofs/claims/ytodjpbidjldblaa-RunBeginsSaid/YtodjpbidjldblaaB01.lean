/- Texts joined. Conditions: each stands with its theorem. -/
import Derived.Test.YtodjpbidjldblaaX00
import Derived.Test.YtodjpbidjldblaaX14
import Derived.Test.YtodjpbidjldblaaB00
import Derived.Test.YtodjpbidjldblaaX01
namespace Go.Proofs.Ytodjpbidjldblaa.H
open Go.RowKit Go.Proofs.YtodjpbidjldblaaW.PrintWords Go.Proofs.YtodjpbidjldblaaW.PrintLast Go.Proofs.Ytodjpbidjldblaa.PRunEdges
set_option linter.unusedVariables false
set_option linter.unusedSimpArgs false
set_option maxRecDepth 100000
theorem size_alloc (W : World) (o : Obj) : (W.alloc o).heap.size = W.heap.size + 1 := by simp
def TraceFar (s : VSt) (w : World) (e : Ending) (W' : World) : Prop := ∃ EA ec, e = .returned (.agg #[.slice EA s.evs.length ec, .int .i64 s.fin, .int .i64 s.val, .int .i64 s.code]) ∧ s.evs.length ≤ ec ∧ Kd.F (Kd.int .i64) W' (fun k => w.heap.size ≤ k ∧ k < W'.heap.size) EA s.evs.length s.evs ∧ Bel w W'
set_option maxHeartbeats 2000000 in
theorem Run_far (p : SProg) (w : World) (PA : Option Addr) (pc : Nat) (hP : Rd kFunc w PA p.f0) (hp : Aside0 (ProgP p)) (n : Int) : Calls Try.prog 12 #[.agg #[.slice PA p.f0.length pc], .int .i64 n] w (TraceFar (endL p n) w) := by
 obtain ⟨g, hg⟩ : ∃ g, w.heap.size = g := ⟨_, rfl⟩
 have hB : Bel w ((w.alloc (.cells #[.slice PA p.f0.length pc] 24)).alloc (.cells #[.slice none 0 0, .int .i64 0, .int .i64 0, .int .i64 0] 34)) := ((Bel.refl w).alloc _).alloc _
 have hb0 : ((w.alloc (.cells #[.slice PA p.f0.length pc] 24)).alloc (.cells #[.slice none 0 0, .int .i64 0, .int .i64 0, .int .i64 0] 34)).heap[g]? = some (.cells #[.slice PA p.f0.length pc] 24 (0, 0)) := heap_old (heap_new' hg.symm)
 have hb1 : ((w.alloc (.cells #[.slice PA p.f0.length pc] 24)).alloc (.cells #[.slice none 0 0, .int .i64 0, .int .i64 0, .int .i64 0] 34)).heap[g + 1]? = some (.cells #[.slice none 0 0, .int .i64 0, .int .i64 0, .int .i64 0] 34 (0, 0)) := heap_new' (by simp [hg])
 obtain ⟨s, hs⟩ : ∃ s, endL p n = s := ⟨_, rfl⟩
 rw [hs]
 replace hs := Aside0.mk hs
 go_enter Try.func12, Try.ntmps12
 go_upto_region 1 with (fail)
 generalize (w.alloc (.cells #[.slice PA p.f0.length pc] 24)).alloc (.cells #[.slice none 0 0, .int .i64 0, .int .i64 0, .int .i64 0] 34) = wa at hB hb0 hb1 ⊢
 have hpl := Aside0.mk (play_any p wa PA pc (hP.step hB) hp n)
 have z0 : wa.cell? ⟨g, 0, none⟩ = some (.slice PA p.f0.length pc) := blk_cell hb0 0
 replace hg := Aside0.mk hg
 go_wp2_with (go_at_call 24; ((with_reducible refine hpl.out.mono ?_); rintro e w2 ⟨mb, fs, sv, ev, hv, S, rfl, hC⟩; rw [show runL p (fuelN n) (startL p) = s from hs.out] at hC; obtain ⟨EA, ec, rfl, hec, hre⟩ := hC.evs.reads; obtain ⟨PA2, pc2, hb, _⟩ := hC.blk; have z3 : w2.cell? ⟨mb, 3, none⟩ = some (.slice EA s.evs.length ec) := blk_cell hb 3; have z4 : w2.cell? ⟨mb, 4, none⟩ = some (.int .i64 s.fin) := blk_cell hb 4; have z5 : w2.cell? ⟨mb, 5, none⟩ = some (.int .i64 s.val) := blk_cell hb 5; have z6 : w2.cell? ⟨mb, 6, none⟩ = some (.int .i64 s.code) := blk_cell hb 6; have hb2 := hC.bel.blk hb1; have x0 := blk_frozen hb2 0; have x1 := blk_frozen hb2 1; have x2 := blk_frozen hb2 2; have x3 := blk_frozen hb2 3; have y0 : w2.cell? ⟨g + 1, 0, none⟩ = some (.slice none 0 0) := blk_cell hb2 0; have y1 : w2.cell? ⟨g + 1, 1, none⟩ = some (.int .i64 0) := blk_cell hb2 1; have y2 : w2.cell? ⟨g + 1, 2, none⟩ = some (.int .i64 0) := blk_cell hb2 2; have y3 : w2.cell? ⟨g + 1, 3, none⟩ = some (.int .i64 0) := blk_cell hb2 3; have hp4 := Aside0.mk (put4c hb2 (.slice EA s.evs.length ec) (.int .i64 s.fin) (.int .i64 s.val) (.int .i64 s.code))))
 refine bodyPost_ret (results_cell_row rfl _ _ (g + 1) 34 #[.slice EA s.evs.length ec, .int .i64 s.fin, .int .i64 s.val, .int .i64 s.code] (0, 0) _ rfl hp4.out.1 Try.underlying34 rfl (by kernel_rfl)) rfl ?_
 have hz := hp4.out.2 w (hB.trans hC.bel) (by have := hg.out; omega)
 have hev : OwnAt (Kd.int .i64) 3 wa.heap.size _ (.slice EA s.evs.length ec) s.evs := (((hC.evs.koE rfl (KO.set (g + 1) 0 w2 (.slice EA s.evs.length ec)) (hC.evs.ne hb2 (by decide))).koE rfl (KO.set (g + 1) 1 _ (.int .i64 s.fin)) (hC.evs.ne hb2 (by decide))).koE rfl (KO.set (g + 1) 2 _ (.int .i64 s.val)) (hC.evs.ne hb2 (by decide))).koE rfl (KO.set (g + 1) 3 _ (.int .i64 s.code)) (hC.evs.ne hb2 (by decide))
 refine ⟨EA, ec, rfl, hec, Kd.F_mono (Kd.R_F (Kd.R_bound hev.out)) (fun k hk => ⟨by have := hk.2.1; have := hB.size; omega, hk.2.2.1⟩), hz⟩
theorem F_ko {α : Type} {d : Kd α} {W W1 : World} {ok : Nat → Prop} {A : Option Addr} {n b : Nat} {xs : List α} (h : Kd.F d W ok A n xs) (k : KO b W W1) (hb : ¬ ok b) : Kd.F d W1 ok A n xs :=
 fun W2 q => h W2 (fun j hj hlt => (q j hj (Nat.lt_of_lt_of_le hlt k.size)).trans (k.keep j hlt (fun e => hb (e ▸ hj))))
theorem put4k {W : World} {b t : Nat} {c0 c1 c2 c3 : Value} (hb : W.heap[b]? = some (.cells #[c0, c1, c2, c3] t (0, 0))) (u0 u1 u2 u3 : Value) :
  ((((W.setCell ⟨b, 0, none⟩ u0).setCell ⟨b, 1, none⟩ u1).setCell ⟨b, 2, none⟩ u2).setCell ⟨b, 3, none⟩ u3).heap[b]? = some (.cells #[u0, u1, u2, u3] t (0, 0)) ∧ KO b W ((((W.setCell ⟨b, 0, none⟩ u0).setCell ⟨b, 1, none⟩ u1).setCell ⟨b, 2, none⟩ u2).setCell ⟨b, 3, none⟩ u3) :=
 ⟨(blk_set (blk_set (blk_set (blk_set hb 0 u0) 1 u1) 2 u2) 3 u3).trans rfl, (((KO.set b 0 W u0).trans (KO.set b 1 _ u1)).trans (KO.set b 2 _ u2)).trans (KO.set b 3 _ u3)⟩
theorem run_ge {p : SProg} (hp : ProgP p) {s : VSt} (h : RunP p s) (n : Nat) : s.steps ≤ (runL p n s).steps := by
 induction n with
 | zero => exact Nat.le_refl _
 | succ n ih =>
  rw [runL_succ]
  by_cases h0 : (runL p n s).fin = 0
  ·rw [if_pos h0, (step_ok hp (run_ok hp h n).1 h0).2]
   omega
  ·rw [if_neg h0]
   exact ih
set_option maxHeartbeats 8000000 in
theorem RunBegins_walk (p : SProg) (PA : Option Addr) (pc : Nat) (a b : Int) (w : World) (hP : Rd kFunc w PA p.f0) (hA : Aside0 (AProg p.f0)) (a0 : 0 ≤ a) (a1 : a ≤ 65535) (b0 : 0 ≤ b) (b1 : b ≤ 65535) :
  Calls Try.prog 5 #[.agg #[.slice PA p.f0.length pc], .agg #[.int .u16 a, .int .u16 b]] w fun e w' => e = .returned (.bool true) ∧ Bel w w' := by
 have ea : IntKind.i64.wrap a = a := by rw [IntKind.wrap_i64]; omega
 have eb : IntKind.i64.wrap b = b := by rw [IntKind.wrap_i64]; omega
 obtain ⟨g, hg⟩ : ∃ g, w.heap.size = g := ⟨_, rfl⟩
 have hB := ((Bel.refl w).alloc (.cells #[.slice PA p.f0.length pc] 24)).alloc (.cells #[.int .u16 a, .int .u16 b] 46)
 have hbp : ((w.alloc (.cells #[.slice PA p.f0.length pc] 24)).alloc (.cells #[.int .u16 a, .int .u16 b] 46)).heap[g]? = some (.cells #[.slice PA p.f0.length pc] 24 (0, 0)) := heap_old (heap_new' hg.symm)
 have hbt : ((w.alloc (.cells #[.slice PA p.f0.length pc] 24)).alloc (.cells #[.int .u16 a, .int .u16 b] 46)).heap[g + 1]? = some (.cells #[.int .u16 a, .int .u16 b] 46 (0, 0)) := heap_new' (by simp [hg])
 go_enter Try.func5, Try.ntmps5
 go_upto_region 1 with (fail)
 generalize (w.alloc (.cells #[.slice PA p.f0.length pc] 24)).alloc (.cells #[.int .u16 a, .int .u16 b] 46) = wa at hB hbp hbt ⊢
 replace hg := Aside0.mk hg
 have hal := Aside0.mk (alive_any wa)
 have hot := Aside0.mk (fun (X : World) (q : Bel wa X) => out_any p PA pc X (hP.step (hB.trans q)) hA)
 obtain ⟨N, hN⟩ : ∃ N, p.f0.length = N := ⟨_, rfl⟩
 rw [hN] at hbp ⊢
 replace hN := Aside0.mk hN
 simp only [hN.out] at hot
 have y0 : wa.cell? ⟨g, 0, none⟩ = some (.slice PA N pc) := blk_cell hbp 0
 go_upto_region 5 with (first | (go_at_call 8; ((with_reducible refine hal.out.mono ?_); rintro e w1 ⟨rfl, hB1⟩; have hb1 := hB1.blk hbp; have y1 := blk_cell hb1 0)) | (go_at_call 9; ((with_reducible refine (hot.out _ hB1).mono ?_); rintro e w2 ⟨ob, rfl, hpr, hB2⟩; have hb2 := hB2.blk hb1; have y2 := blk_cell hb2 0; cases ob)))
 rotate_left 1
 ·go_wp2
  go_ret
  exact ⟨rfl, hB.trans (hB1.trans hB2)⟩
 have hpp : Aside0 (ProgP p) := ⟨hpr (by first | trivial | rfl)⟩
 have hBx := hB.trans (hB1.trans hB2)
 have t0 : w2.cell? ⟨g + 1, 0, none⟩ = some (.int .u16 a) := blk_cell ((hB1.trans hB2).blk hbt) 0
 have t1 : w2.cell? ⟨g + 1, 1, none⟩ = some (.int .u16 b) := blk_cell ((hB1.trans hB2).blk hbt) 1
 clear hpr hal hot y0 y1 hbp hb1 hbt
 go_quiet (fail)
 have hBq : Bel w2 (w2.drewN nq) := (Bel.refl w2).drewN nq
 replace hBx := hBx.trans hBq
 replace y2 : (w2.drewN nq).cell? ⟨g, 0, none⟩ = some (.slice PA N pc) := Bel.cell hBq y2
 clear hBq t0 t1 hb2 hB1 hB2
 generalize w2.drewN nq = w2 at hBx y2 ⊢
 obtain ⟨u, hu⟩ : ∃ u, a % 3000 = u := ⟨_, rfl⟩
 obtain ⟨v, hv⟩ : ∃ v, b % 3000 = v := ⟨_, rfl⟩
 have hu0 : 0 ≤ u ∧ u < 3000 := by omega
 have hv0 : 0 ≤ v ∧ v < 3000 := by omega
 obtain ⟨hu0, hu1⟩ := hu0
 obtain ⟨hv0, hv1⟩ := hv0
 rw [hu, hv]
 replace hu := Aside0.mk hu
 replace hv := Aside0.mk hv
 obtain ⟨n, m, hnm, hn0, hm1, hsw⟩ : ∃ n m : Int, n ≤ m ∧ 0 ≤ n ∧ m < 3000 ∧ ((v < u ∧ n = v ∧ m = u) ∨ (¬ v < u ∧ n = u ∧ m = v)) := by
  by_cases hc : v < u
  ·exact ⟨v, u, by omega, hv0, hu1, .inl ⟨hc, rfl, rfl⟩⟩
  ·exact ⟨u, v, by omega, hu0, hv1, .inr ⟨hc, rfl, rfl⟩⟩
 replace hsw := Aside0.mk hsw
 go_upto_if 23 with (fail)
 go_cut [5, 6, 24, 25] (fun v5 v6 _ _ W => v5 = .int .i64 n ∧ v6 = .int .i64 m ∧ w2 = W)
 case first =>
  rcases hsw.out with ⟨hc, h1, h2⟩ | ⟨hc, h1, h2⟩
  ·replace h1 := Aside0.mk h1
   replace h2 := Aside0.mk h2
   go_wp2
   go_meet
   case rel => exact ⟨by rw [h1.out], by rw [h2.out], by first | rfl | trivial⟩
  ·replace h1 := Aside0.mk h1
   replace h2 := Aside0.mk h2
   go_wp2
   go_meet
   case rel => exact ⟨by rw [h1.out], by rw [h2.out], by first | rfl | trivial⟩
 case rest =>
  obtain ⟨rfl, rfl, rfl⟩ := hcut
  clear hsw
  obtain ⟨s2, hs2⟩ : ∃ s, endL p n = s := ⟨_, rfl⟩
  obtain ⟨s5, hs5⟩ : ∃ s, endL p m = s := ⟨_, rfl⟩
  have hfN : fuelN n = (n).toNat := by unfold fuelN mn; rw [if_neg (by omega)]
  have hfM : fuelN m = (m).toNat := by unfold fuelN mn; rw [if_neg (by omega)]
  have hadd : s5 = runL p (fuelN m - fuelN n) s2 := by
   rw [← hs2, ← hs5]
   show runL p (fuelN m) _ = runL p _ (runL p (fuelN n) _)
   rw [← runL_add, show fuelN n + (fuelN m - fuelN n) = fuelN m by omega]
  obtain ⟨hrp, hr0, hr1⟩ := run_start hpp.out (fuelN n)
  rw [show runL p (fuelN n) (startL p) = s2 from hs2] at hrp hr0 hr1
  obtain ⟨hrq, hq0, hq1⟩ := run_start hpp.out (fuelN m)
  rw [show runL p (fuelN m) (startL p) = s5 from hs5] at hrq hq0 hq1
  obtain ⟨r, hr⟩ : ∃ r, s5.evs = s2.evs ++ r := by rw [hadd]; exact run_evs s2 _
  have hsame : s2.fin ≠ 0 → s5 = s2 := fun q => by rw [hadd, runL_stuck q]
  have hst5 : s2.steps ≤ s5.steps := by rw [hadd]; exact run_ge hpp.out hrp _
  have hst2 : s2.fin = 0 → (s2.steps : Int) = n := fun q => by have := hr0 q; omega
  have hl5 : s5.evs.length ≤ 1000000 := by have := hrq.told; omega
  have hl2 : s2.evs.length ≤ 1000000 := by have := hrp.told; omega
  have hhl : s2.heap.length ≤ 1000000000 := by have := hrp.objs; omega
  have hhv := Aside0.mk hrp.heap
  have hr2 : Aside0 (∀ X, Bel w2 X → Calls Try.prog 12 #[.agg #[.slice PA N pc], .int .i64 n] X (TraceFar s2 X)) := ⟨fun X hX => by
   have h1 := Run_far p X PA pc ((hP.step hBx).step hX) hpp n
   rw [hN.out, hs2] at h1
   exact h1⟩
  have hr5 : Aside0 (∀ X, Bel w2 X → Calls Try.prog 12 #[.agg #[.slice PA N pc], .int .i64 m] X (TraceFar s5 X)) := ⟨fun X hX => by
   have h1 := Run_far p X PA pc ((hP.step hBx).step hX) hpp m
   rw [hN.out, hs5] at h1
   exact h1⟩
  have hs2c : Aside0 (∀ X, Bel w2 X → Calls Try.prog 13 #[.agg #[.slice PA N pc], .int .i64 n] X fun e W' => e = .returned (.int .i64 s2.steps) ∧ Bel X W') := ⟨fun X hX => by
   have h1 := Steps_any p X PA pc ((hP.step hBx).step hX) hpp n
   rw [hN.out, hs2] at h1
   exact h1⟩
  have hs5c : Aside0 (∀ X, Bel w2 X → Calls Try.prog 13 #[.agg #[.slice PA N pc], .int .i64 m] X fun e W' => e = .returned (.int .i64 s5.steps) ∧ Bel X W') := ⟨fun X hX => by
   have h1 := Steps_any p X PA pc ((hP.step hBx).step hX) hpp m
   rw [hN.out, hs5] at h1
   exact h1⟩
  have hhp : Aside0 (∀ X, Bel w2 X → Calls Try.prog 15 #[.agg #[.slice PA N pc], .int .i64 n] X (HeapIs s2.heap X)) := ⟨fun X hX => by
   have h1 := Heap_any p X PA pc ((hP.step hBx).step hX) hpp n
   rw [hN.out, hs2] at h1
   exact h1⟩
  clear hr0 hr1 hq0 hq1 hrp hrq hadd hfN hfM
  replace hs2 := Aside0.mk hs2
  replace hs5 := Aside0.mk hs5
  replace hr := Aside0.mk hr
  replace hsame := Aside0.mk hsame
  replace hst2 := Aside0.mk hst2
  go_upto_region 8 with (fail)
  go_cut [7, 8, 26, 27, 28, 29, 30, 31] (fun v7 v8 _ _ _ _ _ _ W => ∃ b6 b7 EA2 ec2 EA5 ec5, v7 = .pointer (some ⟨b6, 0, none⟩) ∧ v8 = .pointer (some ⟨b7, 0, none⟩) ∧ W.heap[b6]? = some (Obj.cells #[.slice EA2 s2.evs.length ec2, .int .i64 s2.fin, .int .i64 s2.val, .int .i64 s2.code] 34 (0, 0)) ∧ W.heap[b7]? = some (Obj.cells #[.slice EA5 s5.evs.length ec5, .int .i64 s5.fin, .int .i64 s5.val, .int .i64 s5.code] 34 (0, 0)) ∧ RdI W EA2 s2.evs ∧ RdI W EA5 s5.evs ∧ s2.evs.length ≤ ec2 ∧ s5.evs.length ≤ ec5 ∧ Bel w2 W)
  case first =>
   have hBz : Bel w2 w2.drew := (Bel.refl w2).drewN 1
   refine wp_region_held_drew (S := fun w' => Bel w2 w' ∧ w'.cell? ⟨g, 0, none⟩ = some (.slice PA N pc)) (by kernel_rfl) ⟨hBz, Bel.cell hBz y2⟩ (fun hHeld => ?_)
   refine takeH [0, 1, 3, 4] (by kernel_rfl) (by kernel_rfl) hHeld ?_
   iterate 4 (refine takeI (v := ?_) rfl rfl (fun _ _ _ h => h) (Or.inl ⟨by kernel_rfl, ?_⟩) ?_; rotate_left 1; focus (intro w hSw; (try dsimp only at hSw); go_simp; (try with_reducible rfl); done); try simp only [Act.put, z1, z2, z3, z4, z5, z6])
   refine takeE ?_
   try dsimp only
   refine wpAnyH_ready (rs := [2, 6, 7]) (by kernel_rfl) (by simp) ?_
   refine (AllReadyH.cons rfl (fun K hK => ?_) (AllReadyH.cons rfl (fun K hK => ?_) (AllReadyH.cons rfl (fun K hK => ?_) AllReadyH.nil)))
   ·go_simp
    (go_at_call 12; refine (hr2.out _ hBz).mono ?_; rintro ex x1 ⟨EA2, ec2, rfl, hc2, hF2, hBn⟩)
    have hz0 : w2.heap.size ≤ x1.heap.size := hBn.size
    obtain ⟨lo2, hlo2⟩ : ∃ l, w2.heap.size = l := ⟨_, rfl⟩
    obtain ⟨hi2, hhi2⟩ : ∃ l, x1.heap.size = l := ⟨_, rfl⟩
    replace hF2 : Aside0 (Kd.F (Kd.int .i64) x1 (fun k => lo2 ≤ k ∧ k < hi2) EA2 s2.evs.length s2.evs) := ⟨by rw [← hlo2, ← hhi2]; exact hF2⟩
    replace hlo2 := Aside0.mk hlo2
    replace hhi2 := Aside0.mk hhi2
    replace hBz := hBz.trans hBn
    clear hBn
    refine hK.out _ _ ?_ (fun hHeld => ?_)
    rotate_left 1
    clear hK K
    try simp only [Act.put, z1, z2, z3, z4, z5, z6]
    rotate_left 1
    ·exact ⟨hBz, Bel.cell hBz y2⟩
    refine wpAnyH_ready (rs := [5, 6, 7]) (by kernel_rfl) (by simp) ?_
    refine (AllReadyH.cons rfl (fun K hK => ?_) (AllReadyH.cons rfl (fun K hK => ?_) (AllReadyH.cons rfl (fun K hK => ?_) AllReadyH.nil)))
    ·go_simp
     (go_at_call 12; refine (hr5.out _ hBz).mono ?_; rintro ex x2 ⟨EA5, ec5, rfl, hc5, hF5, hBn⟩)
     have hz1 : x1.heap.size ≤ x2.heap.size := hBn.size
     obtain ⟨lo5, hlo5⟩ : ∃ l, x1.heap.size = l := ⟨_, rfl⟩
     obtain ⟨hi5, hhi5⟩ : ∃ l, x2.heap.size = l := ⟨_, rfl⟩
     replace hF5 : Aside0 (Kd.F (Kd.int .i64) x2 (fun k => lo5 ≤ k ∧ k < hi5) EA5 s5.evs.length s5.evs) := ⟨by rw [← hlo5, ← hhi5]; exact hF5⟩
     replace hlo5 := Aside0.mk hlo5
     replace hhi5 := Aside0.mk hhi5
     replace hF2 := Aside0.mk (Kd.F_below hF2.out hBn.out)
     replace hBz := hBz.trans hBn
     clear hBn
     refine hK.out _ _ ?_ (fun hHeld => ?_)
     rotate_left 1
     clear hK K
     try simp only [Act.put, z1, z2, z3, z4, z5, z6]
     rotate_left 1
     ·exact ⟨hBz, Bel.cell hBz y2⟩
     refine wpAnyH_ready (rs := [6, 7]) (by kernel_rfl) (by simp) ?_
     refine (AllReadyH.cons rfl (fun K hK => ?_) (AllReadyH.cons rfl (fun K hK => ?_) AllReadyH.nil))
     ·go_simp
      obtain ⟨b6, he6⟩ : ∃ b, x2.heap.size = b := ⟨_, rfl⟩
      have hBn : Bel x2 (x2.alloc (.cells #[.slice none 0 0, .int .i64 0, .int .i64 0, .int .i64 0] 34)) := (Bel.refl _).alloc _
      have hb6 : (x2.alloc (.cells #[.slice none 0 0, .int .i64 0, .int .i64 0, .int .i64 0] 34)).heap[b6]? = some (Obj.cells #[.slice none 0 0, .int .i64 0, .int .i64 0, .int .i64 0] 34 (0, 0)) := heap_new' (W := x2) he6.symm
      have hz2 : (x2.alloc (.cells #[.slice none 0 0, .int .i64 0, .int .i64 0, .int .i64 0] 34)).heap.size = b6 + 1 := by have := size_alloc x2 (.cells #[.slice none 0 0, .int .i64 0, .int .i64 0, .int .i64 0] 34); rw [he6] at this; exact this
      rw [he6]
      generalize x2.alloc (.cells #[.slice none 0 0, .int .i64 0, .int .i64 0, .int .i64 0] 34) = x3 at hBn hb6 hz2 ⊢
      replace hz2 := Aside0.mk hz2
      replace he6 := Aside0.mk he6
      replace hF2 := Aside0.mk (Kd.F_below hF2.out hBn.out)
      replace hF5 := Aside0.mk (Kd.F_below hF5.out hBn.out)
      replace hBz := hBz.trans hBn
      clear hBn
      refine hK.out _ _ ?_ (fun hHeld => ?_)
      rotate_left 1
      clear hK K
      try simp only [Act.put, z1, z2, z3, z4, z5, z6]
      rotate_left 1
      ·exact ⟨hBz, Bel.cell hBz y2⟩
      refine wpAnyH_ready (rs := [7]) (by kernel_rfl) (by simp) ?_
      refine AllReadyH.cons rfl (fun K hK => ?_) AllReadyH.nil
      go_simp
      obtain ⟨b7, he7⟩ : ∃ b, x3.heap.size = b := ⟨_, rfl⟩
      have hBn : Bel x3 (x3.alloc (.cells #[.slice none 0 0, .int .i64 0, .int .i64 0, .int .i64 0] 34)) := (Bel.refl _).alloc _
      have hb7 : (x3.alloc (.cells #[.slice none 0 0, .int .i64 0, .int .i64 0, .int .i64 0] 34)).heap[b7]? = some (Obj.cells #[.slice none 0 0, .int .i64 0, .int .i64 0, .int .i64 0] 34 (0, 0)) := heap_new' (W := x3) he7.symm
      have hz3 : (x3.alloc (.cells #[.slice none 0 0, .int .i64 0, .int .i64 0, .int .i64 0] 34)).heap.size = b7 + 1 := by have := size_alloc x3 (.cells #[.slice none 0 0, .int .i64 0, .int .i64 0, .int .i64 0] 34); rw [he7] at this; exact this
      rw [he7]
      generalize x3.alloc (.cells #[.slice none 0 0, .int .i64 0, .int .i64 0, .int .i64 0] 34) = x4 at hBn hb7 hz3 ⊢
      replace hz3 := Aside0.mk hz3
      replace he7 := Aside0.mk he7
      replace hF2 := Aside0.mk (Kd.F_below hF2.out hBn.out)
      replace hF5 := Aside0.mk (Kd.F_below hF5.out hBn.out)
      replace hb6 := hBn.blk hb6
      replace hBz := hBz.trans hBn
      clear hBn
      refine hK.out _ _ ?_ (fun hHeld => ?_)
      rotate_left 1
      clear hK K
      try simp only [Act.put, z1, z2, z3, z4, z5, z6]
      rotate_left 1
      ·exact ⟨hBz, Bel.cell hBz y2⟩
      have tt0 := hlo2.out
      have tt1 := hhi2.out
      have tt2 := hlo5.out
      have tt3 := hhi5.out
      have tt4 := hz2.out
      have tt5 := he6.out
      have tt6 := hz3.out
      have tt7 := he7.out
      have hne : b6 ≠ b7 := by omega
      have hge6 : w2.heap.size ≤ b6 := by omega
      have hge7 : w2.heap.size ≤ b7 := by omega
      have n26 := Aside0.mk (show ¬ (lo2 ≤ b6 ∧ b6 < hi2) by omega)
      have n27 := Aside0.mk (show ¬ (lo2 ≤ b7 ∧ b7 < hi2) by omega)
      have n56 := Aside0.mk (show ¬ (lo5 ≤ b6 ∧ b6 < hi5) by omega)
      have n57 := Aside0.mk (show ¬ (lo5 ≤ b7 ∧ b7 < hi5) by omega)
      have hne' := hne.symm
      clear tt0 tt1 tt2 tt3 tt4 tt5 tt6 tt7
      have q0 := blk_frozen hb6 0
      have q1 := blk_frozen hb6 1
      have q2 := blk_frozen hb6 2
      have q3 := blk_frozen hb6 3
      have c0 : x4.cell? ⟨b6, 0, none⟩ = some (.slice none 0 0) := blk_cell hb6 0
      have c1 : x4.cell? ⟨b6, 1, none⟩ = some (.int .i64 0) := blk_cell hb6 1
      have c2 : x4.cell? ⟨b6, 2, none⟩ = some (.int .i64 0) := blk_cell hb6 2
      have c3 : x4.cell? ⟨b6, 3, none⟩ = some (.int .i64 0) := blk_cell hb6 3
      have hp := put4k hb6 (.slice EA2 s2.evs.length ec2) (.int .i64 s2.fin) (.int .i64 s2.val) (.int .i64 s2.code)
      refine wpAnyH_ready (rs := [8]) (by kernel_rfl) (by simp) ?_
      refine AllReadyH.cons rfl (fun K hK => ?_) AllReadyH.nil
      go_simp
      replace hBz := hp.2.bel hBz hge6
      refine hK.out _ _ ?_ (fun hHeld => ?_)
      rotate_left 1
      clear hK K
      try simp only [Act.put, z1, z2, z3, z4, z5, z6]
      rotate_left 1
      ·exact ⟨hBz, Bel.cell hBz y2⟩
      replace hb6 := hp.1
      replace hb7 := hp.2.blk hb7 hne'
      replace hF2 := Aside0.mk (F_ko hF2.out hp.2 n26.out)
      replace hF5 := Aside0.mk (F_ko hF5.out hp.2 n56.out)
      clear q0 q1 q2 q3 c0 c1 c2 c3 hp
      generalize ((((x4.setCell ⟨b6, 0, none⟩ (.slice EA2 s2.evs.length ec2)).setCell ⟨b6, 1, none⟩ (.int .i64 s2.fin)).setCell ⟨b6, 2, none⟩ (.int .i64 s2.val)).setCell ⟨b6, 3, none⟩ (.int .i64 s2.code)) = y8 at hBz hb6 hb7 hF2 hF5 ⊢
      have q0 := blk_frozen hb7 0
      have q1 := blk_frozen hb7 1
      have q2 := blk_frozen hb7 2
      have q3 := blk_frozen hb7 3
      have c0 : y8.cell? ⟨b7, 0, none⟩ = some (.slice none 0 0) := blk_cell hb7 0
      have c1 : y8.cell? ⟨b7, 1, none⟩ = some (.int .i64 0) := blk_cell hb7 1
      have c2 : y8.cell? ⟨b7, 2, none⟩ = some (.int .i64 0) := blk_cell hb7 2
      have c3 : y8.cell? ⟨b7, 3, none⟩ = some (.int .i64 0) := blk_cell hb7 3
      have hp := put4k hb7 (.slice EA5 s5.evs.length ec5) (.int .i64 s5.fin) (.int .i64 s5.val) (.int .i64 s5.code)
      refine wpAnyH_ready (rs := [9]) (by kernel_rfl) (by simp) ?_
      refine AllReadyH.cons rfl (fun K hK => ?_) AllReadyH.nil
      go_simp
      replace hBz := hp.2.bel hBz hge7
      refine hK.out _ _ ?_ (fun hHeld => ?_)
      rotate_left 1
      clear hK K
      try simp only [Act.put, z1, z2, z3, z4, z5, z6]
      rotate_left 1
      ·exact ⟨hBz, Bel.cell hBz y2⟩
      replace hb7 := hp.1
      replace hb6 := hp.2.blk hb6 hne
      replace hF2 := Aside0.mk (F_ko hF2.out hp.2 n27.out)
      replace hF5 := Aside0.mk (F_ko hF5.out hp.2 n57.out)
      clear q0 q1 q2 q3 c0 c1 c2 c3 hp
      generalize ((((y8.setCell ⟨b7, 0, none⟩ (.slice EA5 s5.evs.length ec5)).setCell ⟨b7, 1, none⟩ (.int .i64 s5.fin)).setCell ⟨b7, 2, none⟩ (.int .i64 s5.val)).setCell ⟨b7, 3, none⟩ (.int .i64 s5.code)) = y9 at hBz hb6 hb7 hF2 hF5 ⊢
      refine wpAnyH_done (by kernel_rfl) ?_ _
      go_wp2
      go_meet
      case rel => exact ⟨b6, b7, EA2, ec2, EA5, ec5, rfl, rfl, hb6, hb7, ⟨Kd.F_now hF2.out⟩, ⟨Kd.F_now hF5.out⟩, hc2, hc5, hBz⟩
     ·go_simp
      obtain ⟨b7, he7⟩ : ∃ b, x2.heap.size = b := ⟨_, rfl⟩
      have hBn : Bel x2 (x2.alloc (.cells #[.slice none 0 0, .int .i64 0, .int .i64 0, .int .i64 0] 34)) := (Bel.refl _).alloc _
      have hb7 : (x2.alloc (.cells #[.slice none 0 0, .int .i64 0, .int .i64 0, .int .i64 0] 34)).heap[b7]? = some (Obj.cells #[.slice none 0 0, .int .i64 0, .int .i64 0, .int .i64 0] 34 (0, 0)) := heap_new' (W := x2) he7.symm
      have hz2 : (x2.alloc (.cells #[.slice none 0 0, .int .i64 0, .int .i64 0, .int .i64 0] 34)).heap.size = b7 + 1 := by have := size_alloc x2 (.cells #[.slice none 0 0, .int .i64 0, .int .i64 0, .int .i64 0] 34); rw [he7] at this; exact this
      rw [he7]
      generalize x2.alloc (.cells #[.slice none 0 0, .int .i64 0, .int .i64 0, .int .i64 0] 34) = x3 at hBn hb7 hz2 ⊢
      replace hz2 := Aside0.mk hz2
      replace he7 := Aside0.mk he7
      replace hF2 := Aside0.mk (Kd.F_below hF2.out hBn.out)
      replace hF5 := Aside0.mk (Kd.F_below hF5.out hBn.out)
      replace hBz := hBz.trans hBn
      clear hBn
      refine hK.out _ _ ?_ (fun hHeld => ?_)
      rotate_left 1
      clear hK K
      try simp only [Act.put, z1, z2, z3, z4, z5, z6]
      rotate_left 1
      ·exact ⟨hBz, Bel.cell hBz y2⟩
      refine wpAnyH_ready (rs := [6]) (by kernel_rfl) (by simp) ?_
      refine AllReadyH.cons rfl (fun K hK => ?_) AllReadyH.nil
      go_simp
      obtain ⟨b6, he6⟩ : ∃ b, x3.heap.size = b := ⟨_, rfl⟩
      have hBn : Bel x3 (x3.alloc (.cells #[.slice none 0 0, .int .i64 0, .int .i64 0, .int .i64 0] 34)) := (Bel.refl _).alloc _
      have hb6 : (x3.alloc (.cells #[.slice none 0 0, .int .i64 0, .int .i64 0, .int .i64 0] 34)).heap[b6]? = some (Obj.cells #[.slice none 0 0, .int .i64 0, .int .i64 0, .int .i64 0] 34 (0, 0)) := heap_new' (W := x3) he6.symm
      have hz3 : (x3.alloc (.cells #[.slice none 0 0, .int .i64 0, .int .i64 0, .int .i64 0] 34)).heap.size = b6 + 1 := by have := size_alloc x3 (.cells #[.slice none 0 0, .int .i64 0, .int .i64 0, .int .i64 0] 34); rw [he6] at this; exact this
      rw [he6]
      generalize x3.alloc (.cells #[.slice none 0 0, .int .i64 0, .int .i64 0, .int .i64 0] 34) = x4 at hBn hb6 hz3 ⊢
      replace hz3 := Aside0.mk hz3
      replace he6 := Aside0.mk he6
      replace hF2 := Aside0.mk (Kd.F_below hF2.out hBn.out)
      replace hF5 := Aside0.mk (Kd.F_below hF5.out hBn.out)
      replace hb7 := hBn.blk hb7
      replace hBz := hBz.trans hBn
      clear hBn
      refine hK.out _ _ ?_ (fun hHeld => ?_)
      rotate_left 1
      clear hK K
      try simp only [Act.put, z1, z2, z3, z4, z5, z6]
      rotate_left 1
      ·exact ⟨hBz, Bel.cell hBz y2⟩
      have tt0 := hlo2.out
      have tt1 := hhi2.out
      have tt2 := hlo5.out
      have tt3 := hhi5.out
      have tt4 := hz2.out
      have tt5 := he7.out
      have tt6 := hz3.out
      have tt7 := he6.out
      have hne : b6 ≠ b7 := by omega
      have hge6 : w2.heap.size ≤ b6 := by omega
      have hge7 : w2.heap.size ≤ b7 := by omega
      have n26 := Aside0.mk (show ¬ (lo2 ≤ b6 ∧ b6 < hi2) by omega)
      have n27 := Aside0.mk (show ¬ (lo2 ≤ b7 ∧ b7 < hi2) by omega)
      have n56 := Aside0.mk (show ¬ (lo5 ≤ b6 ∧ b6 < hi5) by omega)
      have n57 := Aside0.mk (show ¬ (lo5 ≤ b7 ∧ b7 < hi5) by omega)
      have hne' := hne.symm
      clear tt0 tt1 tt2 tt3 tt4 tt5 tt6 tt7
      have q0 := blk_frozen hb6 0
      have q1 := blk_frozen hb6 1
      have q2 := blk_frozen hb6 2
      have q3 := blk_frozen hb6 3
      have c0 : x4.cell? ⟨b6, 0, none⟩ = some (.slice none 0 0) := blk_cell hb6 0
      have c1 : x4.cell? ⟨b6, 1, none⟩ = some (.int .i64 0) := blk_cell hb6 1
      have c2 : x4.cell? ⟨b6, 2, none⟩ = some (.int .i64 0) := blk_cell hb6 2
      have c3 : x4.cell? ⟨b6, 3, none⟩ = some (.int .i64 0) := blk_cell hb6 3
      have hp := put4k hb6 (.slice EA2 s2.evs.length ec2) (.int .i64 s2.fin) (.int .i64 s2.val) (.int .i64 s2.code)
      refine wpAnyH_ready (rs := [8]) (by kernel_rfl) (by simp) ?_
      refine AllReadyH.cons rfl (fun K hK => ?_) AllReadyH.nil
      go_simp
      replace hBz := hp.2.bel hBz hge6
      refine hK.out _ _ ?_ (fun hHeld => ?_)
      rotate_left 1
      clear hK K
      try simp only [Act.put, z1, z2, z3, z4, z5, z6]
      rotate_left 1
      ·exact ⟨hBz, Bel.cell hBz y2⟩
      replace hb6 := hp.1
      replace hb7 := hp.2.blk hb7 hne'
      replace hF2 := Aside0.mk (F_ko hF2.out hp.2 n26.out)
      replace hF5 := Aside0.mk (F_ko hF5.out hp.2 n56.out)
      clear q0 q1 q2 q3 c0 c1 c2 c3 hp
      generalize ((((x4.setCell ⟨b6, 0, none⟩ (.slice EA2 s2.evs.length ec2)).setCell ⟨b6, 1, none⟩ (.int .i64 s2.fin)).setCell ⟨b6, 2, none⟩ (.int .i64 s2.val)).setCell ⟨b6, 3, none⟩ (.int .i64 s2.code)) = y8 at hBz hb6 hb7 hF2 hF5 ⊢
      have q0 := blk_frozen hb7 0
      have q1 := blk_frozen hb7 1
      have q2 := blk_frozen hb7 2
      have q3 := blk_frozen hb7 3
      have c0 : y8.cell? ⟨b7, 0, none⟩ = some (.slice none 0 0) := blk_cell hb7 0
      have c1 : y8.cell? ⟨b7, 1, none⟩ = some (.int .i64 0) := blk_cell hb7 1
      have c2 : y8.cell? ⟨b7, 2, none⟩ = some (.int .i64 0) := blk_cell hb7 2
      have c3 : y8.cell? ⟨b7, 3, none⟩ = some (.int .i64 0) := blk_cell hb7 3
      have hp := put4k hb7 (.slice EA5 s5.evs.length ec5) (.int .i64 s5.fin) (.int .i64 s5.val) (.int .i64 s5.code)
      refine wpAnyH_ready (rs := [9]) (by kernel_rfl) (by simp) ?_
      refine AllReadyH.cons rfl (fun K hK => ?_) AllReadyH.nil
      go_simp
      replace hBz := hp.2.bel hBz hge7
      refine hK.out _ _ ?_ (fun hHeld => ?_)
      rotate_left 1
      clear hK K
      try simp only [Act.put, z1, z2, z3, z4, z5, z6]
      rotate_left 1
      ·exact ⟨hBz, Bel.cell hBz y2⟩
      replace hb7 := hp.1
      replace hb6 := hp.2.blk hb6 hne
      replace hF2 := Aside0.mk (F_ko hF2.out hp.2 n27.out)
      replace hF5 := Aside0.mk (F_ko hF5.out hp.2 n57.out)
      clear q0 q1 q2 q3 c0 c1 c2 c3 hp
      generalize ((((y8.setCell ⟨b7, 0, none⟩ (.slice EA5 s5.evs.length ec5)).setCell ⟨b7, 1, none⟩ (.int .i64 s5.fin)).setCell ⟨b7, 2, none⟩ (.int .i64 s5.val)).setCell ⟨b7, 3, none⟩ (.int .i64 s5.code)) = y9 at hBz hb6 hb7 hF2 hF5 ⊢
      refine wpAnyH_done (by kernel_rfl) ?_ _
      go_wp2
      go_meet
      case rel => exact ⟨b6, b7, EA2, ec2, EA5, ec5, rfl, rfl, hb6, hb7, ⟨Kd.F_now hF2.out⟩, ⟨Kd.F_now hF5.out⟩, hc2, hc5, hBz⟩
    ·go_simp
     obtain ⟨b6, he6⟩ : ∃ b, x1.heap.size = b := ⟨_, rfl⟩
     have hBn : Bel x1 (x1.alloc (.cells #[.slice none 0 0, .int .i64 0, .int .i64 0, .int .i64 0] 34)) := (Bel.refl _).alloc _
     have hb6 : (x1.alloc (.cells #[.slice none 0 0, .int .i64 0, .int .i64 0, .int .i64 0] 34)).heap[b6]? = some (Obj.cells #[.slice none 0 0, .int .i64 0, .int .i64 0, .int .i64 0] 34 (0, 0)) := heap_new' (W := x1) he6.symm
     have hz1 : (x1.alloc (.cells #[.slice none 0 0, .int .i64 0, .int .i64 0, .int .i64 0] 34)).heap.size = b6 + 1 := by have := size_alloc x1 (.cells #[.slice none 0 0, .int .i64 0, .int .i64 0, .int .i64 0] 34); rw [he6] at this; exact this
     rw [he6]
     generalize x1.alloc (.cells #[.slice none 0 0, .int .i64 0, .int .i64 0, .int .i64 0] 34) = x2 at hBn hb6 hz1 ⊢
     replace hz1 := Aside0.mk hz1
     replace he6 := Aside0.mk he6
     replace hF2 := Aside0.mk (Kd.F_below hF2.out hBn.out)
     replace hBz := hBz.trans hBn
     clear hBn
     refine hK.out _ _ ?_ (fun hHeld => ?_)
     rotate_left 1
     clear hK K
     try simp only [Act.put, z1, z2, z3, z4, z5, z6]
     rotate_left 1
     ·exact ⟨hBz, Bel.cell hBz y2⟩
     refine wpAnyH_ready (rs := [5, 7]) (by kernel_rfl) (by simp) ?_
     refine (AllReadyH.cons rfl (fun K hK => ?_) (AllReadyH.cons rfl (fun K hK => ?_) AllReadyH.nil))
     ·go_simp
      (go_at_call 12; refine (hr5.out _ hBz).mono ?_; rintro ex x3 ⟨EA5, ec5, rfl, hc5, hF5, hBn⟩)
      have hz2 : x2.heap.size ≤ x3.heap.size := hBn.size
      obtain ⟨lo5, hlo5⟩ : ∃ l, x2.heap.size = l := ⟨_, rfl⟩
      obtain ⟨hi5, hhi5⟩ : ∃ l, x3.heap.size = l := ⟨_, rfl⟩
      replace hF5 : Aside0 (Kd.F (Kd.int .i64) x3 (fun k => lo5 ≤ k ∧ k < hi5) EA5 s5.evs.length s5.evs) := ⟨by rw [← hlo5, ← hhi5]; exact hF5⟩
      replace hlo5 := Aside0.mk hlo5
      replace hhi5 := Aside0.mk hhi5
      replace hF2 := Aside0.mk (Kd.F_below hF2.out hBn.out)
      replace hb6 := hBn.blk hb6
      replace hBz := hBz.trans hBn
      clear hBn
      refine hK.out _ _ ?_ (fun hHeld => ?_)
      rotate_left 1
      clear hK K
      try simp only [Act.put, z1, z2, z3, z4, z5, z6]
      rotate_left 1
      ·exact ⟨hBz, Bel.cell hBz y2⟩
      refine wpAnyH_ready (rs := [7]) (by kernel_rfl) (by simp) ?_
      refine AllReadyH.cons rfl (fun K hK => ?_) AllReadyH.nil
      go_simp
      obtain ⟨b7, he7⟩ : ∃ b, x3.heap.size = b := ⟨_, rfl⟩
      have hBn : Bel x3 (x3.alloc (.cells #[.slice none 0 0, .int .i64 0, .int .i64 0, .int .i64 0] 34)) := (Bel.refl _).alloc _
      have hb7 : (x3.alloc (.cells #[.slice none 0 0, .int .i64 0, .int .i64 0, .int .i64 0] 34)).heap[b7]? = some (Obj.cells #[.slice none 0 0, .int .i64 0, .int .i64 0, .int .i64 0] 34 (0, 0)) := heap_new' (W := x3) he7.symm
      have hz3 : (x3.alloc (.cells #[.slice none 0 0, .int .i64 0, .int .i64 0, .int .i64 0] 34)).heap.size = b7 + 1 := by have := size_alloc x3 (.cells #[.slice none 0 0, .int .i64 0, .int .i64 0, .int .i64 0] 34); rw [he7] at this; exact this
      rw [he7]
      generalize x3.alloc (.cells #[.slice none 0 0, .int .i64 0, .int .i64 0, .int .i64 0] 34) = x4 at hBn hb7 hz3 ⊢
      replace hz3 := Aside0.mk hz3
      replace he7 := Aside0.mk he7
      replace hF2 := Aside0.mk (Kd.F_below hF2.out hBn.out)
      replace hb6 := hBn.blk hb6
      replace hF5 := Aside0.mk (Kd.F_below hF5.out hBn.out)
      replace hBz := hBz.trans hBn
      clear hBn
      refine hK.out _ _ ?_ (fun hHeld => ?_)
      rotate_left 1
      clear hK K
      try simp only [Act.put, z1, z2, z3, z4, z5, z6]
      rotate_left 1
      ·exact ⟨hBz, Bel.cell hBz y2⟩
      have tt0 := hlo2.out
      have tt1 := hhi2.out
      have tt2 := hz1.out
      have tt3 := he6.out
      have tt4 := hlo5.out
      have tt5 := hhi5.out
      have tt6 := hz3.out
      have tt7 := he7.out
      have hne : b6 ≠ b7 := by omega
      have hge6 : w2.heap.size ≤ b6 := by omega
      have hge7 : w2.heap.size ≤ b7 := by omega
      have n26 := Aside0.mk (show ¬ (lo2 ≤ b6 ∧ b6 < hi2) by omega)
      have n27 := Aside0.mk (show ¬ (lo2 ≤ b7 ∧ b7 < hi2) by omega)
      have n56 := Aside0.mk (show ¬ (lo5 ≤ b6 ∧ b6 < hi5) by omega)
      have n57 := Aside0.mk (show ¬ (lo5 ≤ b7 ∧ b7 < hi5) by omega)
      have hne' := hne.symm
      clear tt0 tt1 tt2 tt3 tt4 tt5 tt6 tt7
      have q0 := blk_frozen hb6 0
      have q1 := blk_frozen hb6 1
      have q2 := blk_frozen hb6 2
      have q3 := blk_frozen hb6 3
      have c0 : x4.cell? ⟨b6, 0, none⟩ = some (.slice none 0 0) := blk_cell hb6 0
      have c1 : x4.cell? ⟨b6, 1, none⟩ = some (.int .i64 0) := blk_cell hb6 1
      have c2 : x4.cell? ⟨b6, 2, none⟩ = some (.int .i64 0) := blk_cell hb6 2
      have c3 : x4.cell? ⟨b6, 3, none⟩ = some (.int .i64 0) := blk_cell hb6 3
      have hp := put4k hb6 (.slice EA2 s2.evs.length ec2) (.int .i64 s2.fin) (.int .i64 s2.val) (.int .i64 s2.code)
      refine wpAnyH_ready (rs := [8]) (by kernel_rfl) (by simp) ?_
      refine AllReadyH.cons rfl (fun K hK => ?_) AllReadyH.nil
      go_simp
      replace hBz := hp.2.bel hBz hge6
      refine hK.out _ _ ?_ (fun hHeld => ?_)
      rotate_left 1
      clear hK K
      try simp only [Act.put, z1, z2, z3, z4, z5, z6]
      rotate_left 1
      ·exact ⟨hBz, Bel.cell hBz y2⟩
      replace hb6 := hp.1
      replace hb7 := hp.2.blk hb7 hne'
      replace hF2 := Aside0.mk (F_ko hF2.out hp.2 n26.out)
      replace hF5 := Aside0.mk (F_ko hF5.out hp.2 n56.out)
      clear q0 q1 q2 q3 c0 c1 c2 c3 hp
      generalize ((((x4.setCell ⟨b6, 0, none⟩ (.slice EA2 s2.evs.length ec2)).setCell ⟨b6, 1, none⟩ (.int .i64 s2.fin)).setCell ⟨b6, 2, none⟩ (.int .i64 s2.val)).setCell ⟨b6, 3, none⟩ (.int .i64 s2.code)) = y8 at hBz hb6 hb7 hF2 hF5 ⊢
      have q0 := blk_frozen hb7 0
      have q1 := blk_frozen hb7 1
      have q2 := blk_frozen hb7 2
      have q3 := blk_frozen hb7 3
      have c0 : y8.cell? ⟨b7, 0, none⟩ = some (.slice none 0 0) := blk_cell hb7 0
      have c1 : y8.cell? ⟨b7, 1, none⟩ = some (.int .i64 0) := blk_cell hb7 1
      have c2 : y8.cell? ⟨b7, 2, none⟩ = some (.int .i64 0) := blk_cell hb7 2
      have c3 : y8.cell? ⟨b7, 3, none⟩ = some (.int .i64 0) := blk_cell hb7 3
      have hp := put4k hb7 (.slice EA5 s5.evs.length ec5) (.int .i64 s5.fin) (.int .i64 s5.val) (.int .i64 s5.code)
      refine wpAnyH_ready (rs := [9]) (by kernel_rfl) (by simp) ?_
      refine AllReadyH.cons rfl (fun K hK => ?_) AllReadyH.nil
      go_simp
      replace hBz := hp.2.bel hBz hge7
      refine hK.out _ _ ?_ (fun hHeld => ?_)
      rotate_left 1
      clear hK K
      try simp only [Act.put, z1, z2, z3, z4, z5, z6]
      rotate_left 1
      ·exact ⟨hBz, Bel.cell hBz y2⟩
      replace hb7 := hp.1
      replace hb6 := hp.2.blk hb6 hne
      replace hF2 := Aside0.mk (F_ko hF2.out hp.2 n27.out)
      replace hF5 := Aside0.mk (F_ko hF5.out hp.2 n57.out)
      clear q0 q1 q2 q3 c0 c1 c2 c3 hp
      generalize ((((y8.setCell ⟨b7, 0, none⟩ (.slice EA5 s5.evs.length ec5)).setCell ⟨b7, 1, none⟩ (.int .i64 s5.fin)).setCell ⟨b7, 2, none⟩ (.int .i64 s5.val)).setCell ⟨b7, 3, none⟩ (.int .i64 s5.code)) = y9 at hBz hb6 hb7 hF2 hF5 ⊢
      refine wpAnyH_done (by kernel_rfl) ?_ _
      go_wp2
      go_meet
      case rel => exact ⟨b6, b7, EA2, ec2, EA5, ec5, rfl, rfl, hb6, hb7, ⟨Kd.F_now hF2.out⟩, ⟨Kd.F_now hF5.out⟩, hc2, hc5, hBz⟩
     ·go_simp
      obtain ⟨b7, he7⟩ : ∃ b, x2.heap.size = b := ⟨_, rfl⟩
      have hBn : Bel x2 (x2.alloc (.cells #[.slice none 0 0, .int .i64 0, .int .i64 0, .int .i64 0] 34)) := (Bel.refl _).alloc _
      have hb7 : (x2.alloc (.cells #[.slice none 0 0, .int .i64 0, .int .i64 0, .int .i64 0] 34)).heap[b7]? = some (Obj.cells #[.slice none 0 0, .int .i64 0, .int .i64 0, .int .i64 0] 34 (0, 0)) := heap_new' (W := x2) he7.symm
      have hz2 : (x2.alloc (.cells #[.slice none 0 0, .int .i64 0, .int .i64 0, .int .i64 0] 34)).heap.size = b7 + 1 := by have := size_alloc x2 (.cells #[.slice none 0 0, .int .i64 0, .int .i64 0, .int .i64 0] 34); rw [he7] at this; exact this
      rw [he7]
      generalize x2.alloc (.cells #[.slice none 0 0, .int .i64 0, .int .i64 0, .int .i64 0] 34) = x3 at hBn hb7 hz2 ⊢
      replace hz2 := Aside0.mk hz2
      replace he7 := Aside0.mk he7
      replace hF2 := Aside0.mk (Kd.F_below hF2.out hBn.out)
      replace hb6 := hBn.blk hb6
      replace hBz := hBz.trans hBn
      clear hBn
      refine hK.out _ _ ?_ (fun hHeld => ?_)
      rotate_left 1
      clear hK K
      try simp only [Act.put, z1, z2, z3, z4, z5, z6]
      rotate_left 1
      ·exact ⟨hBz, Bel.cell hBz y2⟩
      refine wpAnyH_ready (rs := [5]) (by kernel_rfl) (by simp) ?_
      refine AllReadyH.cons rfl (fun K hK => ?_) AllReadyH.nil
      go_simp
      (go_at_call 12; refine (hr5.out _ hBz).mono ?_; rintro ex x4 ⟨EA5, ec5, rfl, hc5, hF5, hBn⟩)
      have hz3 : x3.heap.size ≤ x4.heap.size := hBn.size
      obtain ⟨lo5, hlo5⟩ : ∃ l, x3.heap.size = l := ⟨_, rfl⟩
      obtain ⟨hi5, hhi5⟩ : ∃ l, x4.heap.size = l := ⟨_, rfl⟩
      replace hF5 : Aside0 (Kd.F (Kd.int .i64) x4 (fun k => lo5 ≤ k ∧ k < hi5) EA5 s5.evs.length s5.evs) := ⟨by rw [← hlo5, ← hhi5]; exact hF5⟩
      replace hlo5 := Aside0.mk hlo5
      replace hhi5 := Aside0.mk hhi5
      replace hF2 := Aside0.mk (Kd.F_below hF2.out hBn.out)
      replace hb6 := hBn.blk hb6
      replace hb7 := hBn.blk hb7
      replace hBz := hBz.trans hBn
      clear hBn
      refine hK.out _ _ ?_ (fun hHeld => ?_)
      rotate_left 1
      clear hK K
      try simp only [Act.put, z1, z2, z3, z4, z5, z6]
      rotate_left 1
      ·exact ⟨hBz, Bel.cell hBz y2⟩
      have tt0 := hlo2.out
      have tt1 := hhi2.out
      have tt2 := hz1.out
      have tt3 := he6.out
      have tt4 := hz2.out
      have tt5 := he7.out
      have tt6 := hlo5.out
      have tt7 := hhi5.out
      have hne : b6 ≠ b7 := by omega
      have hge6 : w2.heap.size ≤ b6 := by omega
      have hge7 : w2.heap.size ≤ b7 := by omega
      have n26 := Aside0.mk (show ¬ (lo2 ≤ b6 ∧ b6 < hi2) by omega)
      have n27 := Aside0.mk (show ¬ (lo2 ≤ b7 ∧ b7 < hi2) by omega)
      have n56 := Aside0.mk (show ¬ (lo5 ≤ b6 ∧ b6 < hi5) by omega)
      have n57 := Aside0.mk (show ¬ (lo5 ≤ b7 ∧ b7 < hi5) by omega)
      have hne' := hne.symm
      clear tt0 tt1 tt2 tt3 tt4 tt5 tt6 tt7
      have q0 := blk_frozen hb6 0
      have q1 := blk_frozen hb6 1
      have q2 := blk_frozen hb6 2
      have q3 := blk_frozen hb6 3
      have c0 : x4.cell? ⟨b6, 0, none⟩ = some (.slice none 0 0) := blk_cell hb6 0
      have c1 : x4.cell? ⟨b6, 1, none⟩ = some (.int .i64 0) := blk_cell hb6 1
      have c2 : x4.cell? ⟨b6, 2, none⟩ = some (.int .i64 0) := blk_cell hb6 2
      have c3 : x4.cell? ⟨b6, 3, none⟩ = some (.int .i64 0) := blk_cell hb6 3
      have hp := put4k hb6 (.slice EA2 s2.evs.length ec2) (.int .i64 s2.fin) (.int .i64 s2.val) (.int .i64 s2.code)
      refine wpAnyH_ready (rs := [8]) (by kernel_rfl) (by simp) ?_
      refine AllReadyH.cons rfl (fun K hK => ?_) AllReadyH.nil
      go_simp
      replace hBz := hp.2.bel hBz hge6
      refine hK.out _ _ ?_ (fun hHeld => ?_)
      rotate_left 1
      clear hK K
      try simp only [Act.put, z1, z2, z3, z4, z5, z6]
      rotate_left 1
      ·exact ⟨hBz, Bel.cell hBz y2⟩
      replace hb6 := hp.1
      replace hb7 := hp.2.blk hb7 hne'
      replace hF2 := Aside0.mk (F_ko hF2.out hp.2 n26.out)
      replace hF5 := Aside0.mk (F_ko hF5.out hp.2 n56.out)
      clear q0 q1 q2 q3 c0 c1 c2 c3 hp
      generalize ((((x4.setCell ⟨b6, 0, none⟩ (.slice EA2 s2.evs.length ec2)).setCell ⟨b6, 1, none⟩ (.int .i64 s2.fin)).setCell ⟨b6, 2, none⟩ (.int .i64 s2.val)).setCell ⟨b6, 3, none⟩ (.int .i64 s2.code)) = y8 at hBz hb6 hb7 hF2 hF5 ⊢
      have q0 := blk_frozen hb7 0
      have q1 := blk_frozen hb7 1
      have q2 := blk_frozen hb7 2
      have q3 := blk_frozen hb7 3
      have c0 : y8.cell? ⟨b7, 0, none⟩ = some (.slice none 0 0) := blk_cell hb7 0
      have c1 : y8.cell? ⟨b7, 1, none⟩ = some (.int .i64 0) := blk_cell hb7 1
      have c2 : y8.cell? ⟨b7, 2, none⟩ = some (.int .i64 0) := blk_cell hb7 2
      have c3 : y8.cell? ⟨b7, 3, none⟩ = some (.int .i64 0) := blk_cell hb7 3
      have hp := put4k hb7 (.slice EA5 s5.evs.length ec5) (.int .i64 s5.fin) (.int .i64 s5.val) (.int .i64 s5.code)
      refine wpAnyH_ready (rs := [9]) (by kernel_rfl) (by simp) ?_
      refine AllReadyH.cons rfl (fun K hK => ?_) AllReadyH.nil
      go_simp
      replace hBz := hp.2.bel hBz hge7
      refine hK.out _ _ ?_ (fun hHeld => ?_)
      rotate_left 1
      clear hK K
      try simp only [Act.put, z1, z2, z3, z4, z5, z6]
      rotate_left 1
      ·exact ⟨hBz, Bel.cell hBz y2⟩
      replace hb7 := hp.1
      replace hb6 := hp.2.blk hb6 hne
      replace hF2 := Aside0.mk (F_ko hF2.out hp.2 n27.out)
      replace hF5 := Aside0.mk (F_ko hF5.out hp.2 n57.out)
      clear q0 q1 q2 q3 c0 c1 c2 c3 hp
      generalize ((((y8.setCell ⟨b7, 0, none⟩ (.slice EA5 s5.evs.length ec5)).setCell ⟨b7, 1, none⟩ (.int .i64 s5.fin)).setCell ⟨b7, 2, none⟩ (.int .i64 s5.val)).setCell ⟨b7, 3, none⟩ (.int .i64 s5.code)) = y9 at hBz hb6 hb7 hF2 hF5 ⊢
      refine wpAnyH_done (by kernel_rfl) ?_ _
      go_wp2
      go_meet
      case rel => exact ⟨b6, b7, EA2, ec2, EA5, ec5, rfl, rfl, hb6, hb7, ⟨Kd.F_now hF2.out⟩, ⟨Kd.F_now hF5.out⟩, hc2, hc5, hBz⟩
    ·go_simp
     obtain ⟨b7, he7⟩ : ∃ b, x1.heap.size = b := ⟨_, rfl⟩
     have hBn : Bel x1 (x1.alloc (.cells #[.slice none 0 0, .int .i64 0, .int .i64 0, .int .i64 0] 34)) := (Bel.refl _).alloc _
     have hb7 : (x1.alloc (.cells #[.slice none 0 0, .int .i64 0, .int .i64 0, .int .i64 0] 34)).heap[b7]? = some (Obj.cells #[.slice none 0 0, .int .i64 0, .int .i64 0, .int .i64 0] 34 (0, 0)) := heap_new' (W := x1) he7.symm
     have hz1 : (x1.alloc (.cells #[.slice none 0 0, .int .i64 0, .int .i64 0, .int .i64 0] 34)).heap.size = b7 + 1 := by have := size_alloc x1 (.cells #[.slice none 0 0, .int .i64 0, .int .i64 0, .int .i64 0] 34); rw [he7] at this; exact this
     rw [he7]
     generalize x1.alloc (.cells #[.slice none 0 0, .int .i64 0, .int .i64 0, .int .i64 0] 34) = x2 at hBn hb7 hz1 ⊢
     replace hz1 := Aside0.mk hz1
     replace he7 := Aside0.mk he7
     replace hF2 := Aside0.mk (Kd.F_below hF2.out hBn.out)
     replace hBz := hBz.trans hBn
     clear hBn
     refine hK.out _ _ ?_ (fun hHeld => ?_)
     rotate_left 1
     clear hK K
     try simp only [Act.put, z1, z2, z3, z4, z5, z6]
     rotate_left 1
     ·exact ⟨hBz, Bel.cell hBz y2⟩
     refine wpAnyH_ready (rs := [5, 6]) (by kernel_rfl) (by simp) ?_
     refine (AllReadyH.cons rfl (fun K hK => ?_) (AllReadyH.cons rfl (fun K hK => ?_) AllReadyH.nil))
     ·go_simp
      (go_at_call 12; refine (hr5.out _ hBz).mono ?_; rintro ex x3 ⟨EA5, ec5, rfl, hc5, hF5, hBn⟩)
      have hz2 : x2.heap.size ≤ x3.heap.size := hBn.size
      obtain ⟨lo5, hlo5⟩ : ∃ l, x2.heap.size = l := ⟨_, rfl⟩
      obtain ⟨hi5, hhi5⟩ : ∃ l, x3.heap.size = l := ⟨_, rfl⟩
      replace hF5 : Aside0 (Kd.F (Kd.int .i64) x3 (fun k => lo5 ≤ k ∧ k < hi5) EA5 s5.evs.length s5.evs) := ⟨by rw [← hlo5, ← hhi5]; exact hF5⟩
      replace hlo5 := Aside0.mk hlo5
      replace hhi5 := Aside0.mk hhi5
      replace hF2 := Aside0.mk (Kd.F_below hF2.out hBn.out)
      replace hb7 := hBn.blk hb7
      replace hBz := hBz.trans hBn
      clear hBn
      refine hK.out _ _ ?_ (fun hHeld => ?_)
      rotate_left 1
      clear hK K
      try simp only [Act.put, z1, z2, z3, z4, z5, z6]
      rotate_left 1
      ·exact ⟨hBz, Bel.cell hBz y2⟩
      refine wpAnyH_ready (rs := [6]) (by kernel_rfl) (by simp) ?_
      refine AllReadyH.cons rfl (fun K hK => ?_) AllReadyH.nil
      go_simp
      obtain ⟨b6, he6⟩ : ∃ b, x3.heap.size = b := ⟨_, rfl⟩
      have hBn : Bel x3 (x3.alloc (.cells #[.slice none 0 0, .int .i64 0, .int .i64 0, .int .i64 0] 34)) := (Bel.refl _).alloc _
      have hb6 : (x3.alloc (.cells #[.slice none 0 0, .int .i64 0, .int .i64 0, .int .i64 0] 34)).heap[b6]? = some (Obj.cells #[.slice none 0 0, .int .i64 0, .int .i64 0, .int .i64 0] 34 (0, 0)) := heap_new' (W := x3) he6.symm
      have hz3 : (x3.alloc (.cells #[.slice none 0 0, .int .i64 0, .int .i64 0, .int .i64 0] 34)).heap.size = b6 + 1 := by have := size_alloc x3 (.cells #[.slice none 0 0, .int .i64 0, .int .i64 0, .int .i64 0] 34); rw [he6] at this; exact this
      rw [he6]
      generalize x3.alloc (.cells #[.slice none 0 0, .int .i64 0, .int .i64 0, .int .i64 0] 34) = x4 at hBn hb6 hz3 ⊢
      replace hz3 := Aside0.mk hz3
      replace he6 := Aside0.mk he6
      replace hF2 := Aside0.mk (Kd.F_below hF2.out hBn.out)
      replace hb7 := hBn.blk hb7
      replace hF5 := Aside0.mk (Kd.F_below hF5.out hBn.out)
      replace hBz := hBz.trans hBn
      clear hBn
      refine hK.out _ _ ?_ (fun hHeld => ?_)
      rotate_left 1
      clear hK K
      try simp only [Act.put, z1, z2, z3, z4, z5, z6]
      rotate_left 1
      ·exact ⟨hBz, Bel.cell hBz y2⟩
      have tt0 := hlo2.out
      have tt1 := hhi2.out
      have tt2 := hz1.out
      have tt3 := he7.out
      have tt4 := hlo5.out
      have tt5 := hhi5.out
      have tt6 := hz3.out
      have tt7 := he6.out
      have hne : b6 ≠ b7 := by omega
      have hge6 : w2.heap.size ≤ b6 := by omega
      have hge7 : w2.heap.size ≤ b7 := by omega
      have n26 := Aside0.mk (show ¬ (lo2 ≤ b6 ∧ b6 < hi2) by omega)
      have n27 := Aside0.mk (show ¬ (lo2 ≤ b7 ∧ b7 < hi2) by omega)
      have n56 := Aside0.mk (show ¬ (lo5 ≤ b6 ∧ b6 < hi5) by omega)
      have n57 := Aside0.mk (show ¬ (lo5 ≤ b7 ∧ b7 < hi5) by omega)
      have hne' := hne.symm
      clear tt0 tt1 tt2 tt3 tt4 tt5 tt6 tt7
      have q0 := blk_frozen hb6 0
      have q1 := blk_frozen hb6 1
      have q2 := blk_frozen hb6 2
      have q3 := blk_frozen hb6 3
      have c0 : x4.cell? ⟨b6, 0, none⟩ = some (.slice none 0 0) := blk_cell hb6 0
      have c1 : x4.cell? ⟨b6, 1, none⟩ = some (.int .i64 0) := blk_cell hb6 1
      have c2 : x4.cell? ⟨b6, 2, none⟩ = some (.int .i64 0) := blk_cell hb6 2
      have c3 : x4.cell? ⟨b6, 3, none⟩ = some (.int .i64 0) := blk_cell hb6 3
      have hp := put4k hb6 (.slice EA2 s2.evs.length ec2) (.int .i64 s2.fin) (.int .i64 s2.val) (.int .i64 s2.code)
      refine wpAnyH_ready (rs := [8]) (by kernel_rfl) (by simp) ?_
      refine AllReadyH.cons rfl (fun K hK => ?_) AllReadyH.nil
      go_simp
      replace hBz := hp.2.bel hBz hge6
      refine hK.out _ _ ?_ (fun hHeld => ?_)
      rotate_left 1
      clear hK K
      try simp only [Act.put, z1, z2, z3, z4, z5, z6]
      rotate_left 1
      ·exact ⟨hBz, Bel.cell hBz y2⟩
      replace hb6 := hp.1
      replace hb7 := hp.2.blk hb7 hne'
      replace hF2 := Aside0.mk (F_ko hF2.out hp.2 n26.out)
      replace hF5 := Aside0.mk (F_ko hF5.out hp.2 n56.out)
      clear q0 q1 q2 q3 c0 c1 c2 c3 hp
      generalize ((((x4.setCell ⟨b6, 0, none⟩ (.slice EA2 s2.evs.length ec2)).setCell ⟨b6, 1, none⟩ (.int .i64 s2.fin)).setCell ⟨b6, 2, none⟩ (.int .i64 s2.val)).setCell ⟨b6, 3, none⟩ (.int .i64 s2.code)) = y8 at hBz hb6 hb7 hF2 hF5 ⊢
      have q0 := blk_frozen hb7 0
      have q1 := blk_frozen hb7 1
      have q2 := blk_frozen hb7 2
      have q3 := blk_frozen hb7 3
      have c0 : y8.cell? ⟨b7, 0, none⟩ = some (.slice none 0 0) := blk_cell hb7 0
      have c1 : y8.cell? ⟨b7, 1, none⟩ = some (.int .i64 0) := blk_cell hb7 1
      have c2 : y8.cell? ⟨b7, 2, none⟩ = some (.int .i64 0) := blk_cell hb7 2
      have c3 : y8.cell? ⟨b7, 3, none⟩ = some (.int .i64 0) := blk_cell hb7 3
      have hp := put4k hb7 (.slice EA5 s5.evs.length ec5) (.int .i64 s5.fin) (.int .i64 s5.val) (.int .i64 s5.code)
      refine wpAnyH_ready (rs := [9]) (by kernel_rfl) (by simp) ?_
      refine AllReadyH.cons rfl (fun K hK => ?_) AllReadyH.nil
      go_simp
      replace hBz := hp.2.bel hBz hge7
      refine hK.out _ _ ?_ (fun hHeld => ?_)
      rotate_left 1
      clear hK K
      try simp only [Act.put, z1, z2, z3, z4, z5, z6]
      rotate_left 1
      ·exact ⟨hBz, Bel.cell hBz y2⟩
      replace hb7 := hp.1
      replace hb6 := hp.2.blk hb6 hne
      replace hF2 := Aside0.mk (F_ko hF2.out hp.2 n27.out)
      replace hF5 := Aside0.mk (F_ko hF5.out hp.2 n57.out)
      clear q0 q1 q2 q3 c0 c1 c2 c3 hp
      generalize ((((y8.setCell ⟨b7, 0, none⟩ (.slice EA5 s5.evs.length ec5)).setCell ⟨b7, 1, none⟩ (.int .i64 s5.fin)).setCell ⟨b7, 2, none⟩ (.int .i64 s5.val)).setCell ⟨b7, 3, none⟩ (.int .i64 s5.code)) = y9 at hBz hb6 hb7 hF2 hF5 ⊢
      refine wpAnyH_done (by kernel_rfl) ?_ _
      go_wp2
      go_meet
      case rel => exact ⟨b6, b7, EA2, ec2, EA5, ec5, rfl, rfl, hb6, hb7, ⟨Kd.F_now hF2.out⟩, ⟨Kd.F_now hF5.out⟩, hc2, hc5, hBz⟩
     ·go_simp
      obtain ⟨b6, he6⟩ : ∃ b, x2.heap.size = b := ⟨_, rfl⟩
      have hBn : Bel x2 (x2.alloc (.cells #[.slice none 0 0, .int .i64 0, .int .i64 0, .int .i64 0] 34)) := (Bel.refl _).alloc _
      have hb6 : (x2.alloc (.cells #[.slice none 0 0, .int .i64 0, .int .i64 0, .int .i64 0] 34)).heap[b6]? = some (Obj.cells #[.slice none 0 0, .int .i64 0, .int .i64 0, .int .i64 0] 34 (0, 0)) := heap_new' (W := x2) he6.symm
      have hz2 : (x2.alloc (.cells #[.slice none 0 0, .int .i64 0, .int .i64 0, .int .i64 0] 34)).heap.size = b6 + 1 := by have := size_alloc x2 (.cells #[.slice none 0 0, .int .i64 0, .int .i64 0, .int .i64 0] 34); rw [he6] at this; exact this
      rw [he6]
      generalize x2.alloc (.cells #[.slice none 0 0, .int .i64 0, .int .i64 0, .int .i64 0] 34) = x3 at hBn hb6 hz2 ⊢
      replace hz2 := Aside0.mk hz2
      replace he6 := Aside0.mk he6
      replace hF2 := Aside0.mk (Kd.F_below hF2.out hBn.out)
      replace hb7 := hBn.blk hb7
      replace hBz := hBz.trans hBn
      clear hBn
      refine hK.out _ _ ?_ (fun hHeld => ?_)
      rotate_left 1
      clear hK K
      try simp only [Act.put, z1, z2, z3, z4, z5, z6]
      rotate_left 1
      ·exact ⟨hBz, Bel.cell hBz y2⟩
      refine wpAnyH_ready (rs := [5]) (by kernel_rfl) (by simp) ?_
      refine AllReadyH.cons rfl (fun K hK => ?_) AllReadyH.nil
      go_simp
      (go_at_call 12; refine (hr5.out _ hBz).mono ?_; rintro ex x4 ⟨EA5, ec5, rfl, hc5, hF5, hBn⟩)
      have hz3 : x3.heap.size ≤ x4.heap.size := hBn.size
      obtain ⟨lo5, hlo5⟩ : ∃ l, x3.heap.size = l := ⟨_, rfl⟩
      obtain ⟨hi5, hhi5⟩ : ∃ l, x4.heap.size = l := ⟨_, rfl⟩
      replace hF5 : Aside0 (Kd.F (Kd.int .i64) x4 (fun k => lo5 ≤ k ∧ k < hi5) EA5 s5.evs.length s5.evs) := ⟨by rw [← hlo5, ← hhi5]; exact hF5⟩
      replace hlo5 := Aside0.mk hlo5
      replace hhi5 := Aside0.mk hhi5
      replace hF2 := Aside0.mk (Kd.F_below hF2.out hBn.out)
      replace hb7 := hBn.blk hb7
      replace hb6 := hBn.blk hb6
      replace hBz := hBz.trans hBn
      clear hBn
      refine hK.out _ _ ?_ (fun hHeld => ?_)
      rotate_left 1
      clear hK K
      try simp only [Act.put, z1, z2, z3, z4, z5, z6]
      rotate_left 1
      ·exact ⟨hBz, Bel.cell hBz y2⟩
      have tt0 := hlo2.out
      have tt1 := hhi2.out
      have tt2 := hz1.out
      have tt3 := he7.out
      have tt4 := hz2.out
      have tt5 := he6.out
      have tt6 := hlo5.out
      have tt7 := hhi5.out
      have hne : b6 ≠ b7 := by omega
      have hge6 : w2.heap.size ≤ b6 := by omega
      have hge7 : w2.heap.size ≤ b7 := by omega
      have n26 := Aside0.mk (show ¬ (lo2 ≤ b6 ∧ b6 < hi2) by omega)
      have n27 := Aside0.mk (show ¬ (lo2 ≤ b7 ∧ b7 < hi2) by omega)
      have n56 := Aside0.mk (show ¬ (lo5 ≤ b6 ∧ b6 < hi5) by omega)
      have n57 := Aside0.mk (show ¬ (lo5 ≤ b7 ∧ b7 < hi5) by omega)
      have hne' := hne.symm
      clear tt0 tt1 tt2 tt3 tt4 tt5 tt6 tt7
      have q0 := blk_frozen hb6 0
      have q1 := blk_frozen hb6 1
      have q2 := blk_frozen hb6 2
      have q3 := blk_frozen hb6 3
      have c0 : x4.cell? ⟨b6, 0, none⟩ = some (.slice none 0 0) := blk_cell hb6 0
      have c1 : x4.cell? ⟨b6, 1, none⟩ = some (.int .i64 0) := blk_cell hb6 1
      have c2 : x4.cell? ⟨b6, 2, none⟩ = some (.int .i64 0) := blk_cell hb6 2
      have c3 : x4.cell? ⟨b6, 3, none⟩ = some (.int .i64 0) := blk_cell hb6 3
      have hp := put4k hb6 (.slice EA2 s2.evs.length ec2) (.int .i64 s2.fin) (.int .i64 s2.val) (.int .i64 s2.code)
      refine wpAnyH_ready (rs := [8]) (by kernel_rfl) (by simp) ?_
      refine AllReadyH.cons rfl (fun K hK => ?_) AllReadyH.nil
      go_simp
      replace hBz := hp.2.bel hBz hge6
      refine hK.out _ _ ?_ (fun hHeld => ?_)
      rotate_left 1
      clear hK K
      try simp only [Act.put, z1, z2, z3, z4, z5, z6]
      rotate_left 1
      ·exact ⟨hBz, Bel.cell hBz y2⟩
      replace hb6 := hp.1
      replace hb7 := hp.2.blk hb7 hne'
      replace hF2 := Aside0.mk (F_ko hF2.out hp.2 n26.out)
      replace hF5 := Aside0.mk (F_ko hF5.out hp.2 n56.out)
      clear q0 q1 q2 q3 c0 c1 c2 c3 hp
      generalize ((((x4.setCell ⟨b6, 0, none⟩ (.slice EA2 s2.evs.length ec2)).setCell ⟨b6, 1, none⟩ (.int .i64 s2.fin)).setCell ⟨b6, 2, none⟩ (.int .i64 s2.val)).setCell ⟨b6, 3, none⟩ (.int .i64 s2.code)) = y8 at hBz hb6 hb7 hF2 hF5 ⊢
      have q0 := blk_frozen hb7 0
      have q1 := blk_frozen hb7 1
      have q2 := blk_frozen hb7 2
      have q3 := blk_frozen hb7 3
      have c0 : y8.cell? ⟨b7, 0, none⟩ = some (.slice none 0 0) := blk_cell hb7 0
      have c1 : y8.cell? ⟨b7, 1, none⟩ = some (.int .i64 0) := blk_cell hb7 1
      have c2 : y8.cell? ⟨b7, 2, none⟩ = some (.int .i64 0) := blk_cell hb7 2
      have c3 : y8.cell? ⟨b7, 3, none⟩ = some (.int .i64 0) := blk_cell hb7 3
      have hp := put4k hb7 (.slice EA5 s5.evs.length ec5) (.int .i64 s5.fin) (.int .i64 s5.val) (.int .i64 s5.code)
      refine wpAnyH_ready (rs := [9]) (by kernel_rfl) (by simp) ?_
      refine AllReadyH.cons rfl (fun K hK => ?_) AllReadyH.nil
      go_simp
      replace hBz := hp.2.bel hBz hge7
      refine hK.out _ _ ?_ (fun hHeld => ?_)
      rotate_left 1
      clear hK K
      try simp only [Act.put, z1, z2, z3, z4, z5, z6]
      rotate_left 1
      ·exact ⟨hBz, Bel.cell hBz y2⟩
      replace hb7 := hp.1
      replace hb6 := hp.2.blk hb6 hne
      replace hF2 := Aside0.mk (F_ko hF2.out hp.2 n27.out)
      replace hF5 := Aside0.mk (F_ko hF5.out hp.2 n57.out)
      clear q0 q1 q2 q3 c0 c1 c2 c3 hp
      generalize ((((y8.setCell ⟨b7, 0, none⟩ (.slice EA5 s5.evs.length ec5)).setCell ⟨b7, 1, none⟩ (.int .i64 s5.fin)).setCell ⟨b7, 2, none⟩ (.int .i64 s5.val)).setCell ⟨b7, 3, none⟩ (.int .i64 s5.code)) = y9 at hBz hb6 hb7 hF2 hF5 ⊢
      refine wpAnyH_done (by kernel_rfl) ?_ _
      go_wp2
      go_meet
      case rel => exact ⟨b6, b7, EA2, ec2, EA5, ec5, rfl, rfl, hb6, hb7, ⟨Kd.F_now hF2.out⟩, ⟨Kd.F_now hF5.out⟩, hc2, hc5, hBz⟩
   ·go_simp
    obtain ⟨b6, he6⟩ : ∃ b, w2.heap.size = b := ⟨_, rfl⟩
    have hBn : Bel w2 ((w2.alloc (.cells #[.slice none 0 0, .int .i64 0, .int .i64 0, .int .i64 0] 34)).drew) := ((Bel.refl w2).alloc _).drewN 1
    have hb6 : ((w2.alloc (.cells #[.slice none 0 0, .int .i64 0, .int .i64 0, .int .i64 0] 34)).drew).heap[b6]? = some (Obj.cells #[.slice none 0 0, .int .i64 0, .int .i64 0, .int .i64 0] 34 (0, 0)) := heap_new' (W := w2) he6.symm
    have hz0 : ((w2.alloc (.cells #[.slice none 0 0, .int .i64 0, .int .i64 0, .int .i64 0] 34)).drew).heap.size = b6 + 1 := by have := size_alloc w2 (.cells #[.slice none 0 0, .int .i64 0, .int .i64 0, .int .i64 0] 34); rw [he6] at this; exact this
    rw [he6]
    generalize (w2.alloc (.cells #[.slice none 0 0, .int .i64 0, .int .i64 0, .int .i64 0] 34)).drew = x1 at hBn hb6 hz0 ⊢
    replace hz0 := Aside0.mk hz0
    replace he6 := Aside0.mk he6
    replace hBz := hBn
    clear hBn
    refine hK.out _ _ ?_ (fun hHeld => ?_)
    rotate_left 1
    clear hK K
    try simp only [Act.put, z1, z2, z3, z4, z5, z6]
    rotate_left 1
    ·exact ⟨hBz, Bel.cell hBz y2⟩
    refine wpAnyH_ready (rs := [2, 7]) (by kernel_rfl) (by simp) ?_
    refine (AllReadyH.cons rfl (fun K hK => ?_) (AllReadyH.cons rfl (fun K hK => ?_) AllReadyH.nil))
    ·go_simp
     (go_at_call 12; refine (hr2.out _ hBz).mono ?_; rintro ex x2 ⟨EA2, ec2, rfl, hc2, hF2, hBn⟩)
     have hz1 : x1.heap.size ≤ x2.heap.size := hBn.size
     obtain ⟨lo2, hlo2⟩ : ∃ l, x1.heap.size = l := ⟨_, rfl⟩
     obtain ⟨hi2, hhi2⟩ : ∃ l, x2.heap.size = l := ⟨_, rfl⟩
     replace hF2 : Aside0 (Kd.F (Kd.int .i64) x2 (fun k => lo2 ≤ k ∧ k < hi2) EA2 s2.evs.length s2.evs) := ⟨by rw [← hlo2, ← hhi2]; exact hF2⟩
     replace hlo2 := Aside0.mk hlo2
     replace hhi2 := Aside0.mk hhi2
     replace hb6 := hBn.blk hb6
     replace hBz := hBz.trans hBn
     clear hBn
     refine hK.out _ _ ?_ (fun hHeld => ?_)
     rotate_left 1
     clear hK K
     try simp only [Act.put, z1, z2, z3, z4, z5, z6]
     rotate_left 1
     ·exact ⟨hBz, Bel.cell hBz y2⟩
     refine wpAnyH_ready (rs := [5, 7]) (by kernel_rfl) (by simp) ?_
     refine (AllReadyH.cons rfl (fun K hK => ?_) (AllReadyH.cons rfl (fun K hK => ?_) AllReadyH.nil))
     ·go_simp
      (go_at_call 12; refine (hr5.out _ hBz).mono ?_; rintro ex x3 ⟨EA5, ec5, rfl, hc5, hF5, hBn⟩)
      have hz2 : x2.heap.size ≤ x3.heap.size := hBn.size
      obtain ⟨lo5, hlo5⟩ : ∃ l, x2.heap.size = l := ⟨_, rfl⟩
      obtain ⟨hi5, hhi5⟩ : ∃ l, x3.heap.size = l := ⟨_, rfl⟩
      replace hF5 : Aside0 (Kd.F (Kd.int .i64) x3 (fun k => lo5 ≤ k ∧ k < hi5) EA5 s5.evs.length s5.evs) := ⟨by rw [← hlo5, ← hhi5]; exact hF5⟩
      replace hlo5 := Aside0.mk hlo5
      replace hhi5 := Aside0.mk hhi5
      replace hb6 := hBn.blk hb6
      replace hF2 := Aside0.mk (Kd.F_below hF2.out hBn.out)
      replace hBz := hBz.trans hBn
      clear hBn
      refine hK.out _ _ ?_ (fun hHeld => ?_)
      rotate_left 1
      clear hK K
      try simp only [Act.put, z1, z2, z3, z4, z5, z6]
      rotate_left 1
      ·exact ⟨hBz, Bel.cell hBz y2⟩
      refine wpAnyH_ready (rs := [7]) (by kernel_rfl) (by simp) ?_
      refine AllReadyH.cons rfl (fun K hK => ?_) AllReadyH.nil
      go_simp
      obtain ⟨b7, he7⟩ : ∃ b, x3.heap.size = b := ⟨_, rfl⟩
      have hBn : Bel x3 (x3.alloc (.cells #[.slice none 0 0, .int .i64 0, .int .i64 0, .int .i64 0] 34)) := (Bel.refl _).alloc _
      have hb7 : (x3.alloc (.cells #[.slice none 0 0, .int .i64 0, .int .i64 0, .int .i64 0] 34)).heap[b7]? = some (Obj.cells #[.slice none 0 0, .int .i64 0, .int .i64 0, .int .i64 0] 34 (0, 0)) := heap_new' (W := x3) he7.symm
      have hz3 : (x3.alloc (.cells #[.slice none 0 0, .int .i64 0, .int .i64 0, .int .i64 0] 34)).heap.size = b7 + 1 := by have := size_alloc x3 (.cells #[.slice none 0 0, .int .i64 0, .int .i64 0, .int .i64 0] 34); rw [he7] at this; exact this
      rw [he7]
      generalize x3.alloc (.cells #[.slice none 0 0, .int .i64 0, .int .i64 0, .int .i64 0] 34) = x4 at hBn hb7 hz3 ⊢
      replace hz3 := Aside0.mk hz3
      replace he7 := Aside0.mk he7
      replace hb6 := hBn.blk hb6
      replace hF2 := Aside0.mk (Kd.F_below hF2.out hBn.out)
      replace hF5 := Aside0.mk (Kd.F_below hF5.out hBn.out)
      replace hBz := hBz.trans hBn
      clear hBn
      refine hK.out _ _ ?_ (fun hHeld => ?_)
      rotate_left 1
      clear hK K
      try simp only [Act.put, z1, z2, z3, z4, z5, z6]
      rotate_left 1
      ·exact ⟨hBz, Bel.cell hBz y2⟩
      have tt0 := hz0.out
      have tt1 := he6.out
      have tt2 := hlo2.out
      have tt3 := hhi2.out
      have tt4 := hlo5.out
      have tt5 := hhi5.out
      have tt6 := hz3.out
      have tt7 := he7.out
      have hne : b6 ≠ b7 := by omega
      have hge6 : w2.heap.size ≤ b6 := by omega
      have hge7 : w2.heap.size ≤ b7 := by omega
      have n26 := Aside0.mk (show ¬ (lo2 ≤ b6 ∧ b6 < hi2) by omega)
      have n27 := Aside0.mk (show ¬ (lo2 ≤ b7 ∧ b7 < hi2) by omega)
      have n56 := Aside0.mk (show ¬ (lo5 ≤ b6 ∧ b6 < hi5) by omega)
      have n57 := Aside0.mk (show ¬ (lo5 ≤ b7 ∧ b7 < hi5) by omega)
      have hne' := hne.symm
      clear tt0 tt1 tt2 tt3 tt4 tt5 tt6 tt7
      have q0 := blk_frozen hb6 0
      have q1 := blk_frozen hb6 1
      have q2 := blk_frozen hb6 2
      have q3 := blk_frozen hb6 3
      have c0 : x4.cell? ⟨b6, 0, none⟩ = some (.slice none 0 0) := blk_cell hb6 0
      have c1 : x4.cell? ⟨b6, 1, none⟩ = some (.int .i64 0) := blk_cell hb6 1
      have c2 : x4.cell? ⟨b6, 2, none⟩ = some (.int .i64 0) := blk_cell hb6 2
      have c3 : x4.cell? ⟨b6, 3, none⟩ = some (.int .i64 0) := blk_cell hb6 3
      have hp := put4k hb6 (.slice EA2 s2.evs.length ec2) (.int .i64 s2.fin) (.int .i64 s2.val) (.int .i64 s2.code)
      refine wpAnyH_ready (rs := [8]) (by kernel_rfl) (by simp) ?_
      refine AllReadyH.cons rfl (fun K hK => ?_) AllReadyH.nil
      go_simp
      replace hBz := hp.2.bel hBz hge6
      refine hK.out _ _ ?_ (fun hHeld => ?_)
      rotate_left 1
      clear hK K
      try simp only [Act.put, z1, z2, z3, z4, z5, z6]
      rotate_left 1
      ·exact ⟨hBz, Bel.cell hBz y2⟩
      replace hb6 := hp.1
      replace hb7 := hp.2.blk hb7 hne'
      replace hF2 := Aside0.mk (F_ko hF2.out hp.2 n26.out)
      replace hF5 := Aside0.mk (F_ko hF5.out hp.2 n56.out)
      clear q0 q1 q2 q3 c0 c1 c2 c3 hp
      generalize ((((x4.setCell ⟨b6, 0, none⟩ (.slice EA2 s2.evs.length ec2)).setCell ⟨b6, 1, none⟩ (.int .i64 s2.fin)).setCell ⟨b6, 2, none⟩ (.int .i64 s2.val)).setCell ⟨b6, 3, none⟩ (.int .i64 s2.code)) = y8 at hBz hb6 hb7 hF2 hF5 ⊢
      have q0 := blk_frozen hb7 0
      have q1 := blk_frozen hb7 1
      have q2 := blk_frozen hb7 2
      have q3 := blk_frozen hb7 3
      have c0 : y8.cell? ⟨b7, 0, none⟩ = some (.slice none 0 0) := blk_cell hb7 0
      have c1 : y8.cell? ⟨b7, 1, none⟩ = some (.int .i64 0) := blk_cell hb7 1
      have c2 : y8.cell? ⟨b7, 2, none⟩ = some (.int .i64 0) := blk_cell hb7 2
      have c3 : y8.cell? ⟨b7, 3, none⟩ = some (.int .i64 0) := blk_cell hb7 3
      have hp := put4k hb7 (.slice EA5 s5.evs.length ec5) (.int .i64 s5.fin) (.int .i64 s5.val) (.int .i64 s5.code)
      refine wpAnyH_ready (rs := [9]) (by kernel_rfl) (by simp) ?_
      refine AllReadyH.cons rfl (fun K hK => ?_) AllReadyH.nil
      go_simp
      replace hBz := hp.2.bel hBz hge7
      refine hK.out _ _ ?_ (fun hHeld => ?_)
      rotate_left 1
      clear hK K
      try simp only [Act.put, z1, z2, z3, z4, z5, z6]
      rotate_left 1
      ·exact ⟨hBz, Bel.cell hBz y2⟩
      replace hb7 := hp.1
      replace hb6 := hp.2.blk hb6 hne
      replace hF2 := Aside0.mk (F_ko hF2.out hp.2 n27.out)
      replace hF5 := Aside0.mk (F_ko hF5.out hp.2 n57.out)
      clear q0 q1 q2 q3 c0 c1 c2 c3 hp
      generalize ((((y8.setCell ⟨b7, 0, none⟩ (.slice EA5 s5.evs.length ec5)).setCell ⟨b7, 1, none⟩ (.int .i64 s5.fin)).setCell ⟨b7, 2, none⟩ (.int .i64 s5.val)).setCell ⟨b7, 3, none⟩ (.int .i64 s5.code)) = y9 at hBz hb6 hb7 hF2 hF5 ⊢
      refine wpAnyH_done (by kernel_rfl) ?_ _
      go_wp2
      go_meet
      case rel => exact ⟨b6, b7, EA2, ec2, EA5, ec5, rfl, rfl, hb6, hb7, ⟨Kd.F_now hF2.out⟩, ⟨Kd.F_now hF5.out⟩, hc2, hc5, hBz⟩
     ·go_simp
      obtain ⟨b7, he7⟩ : ∃ b, x2.heap.size = b := ⟨_, rfl⟩
      have hBn : Bel x2 (x2.alloc (.cells #[.slice none 0 0, .int .i64 0, .int .i64 0, .int .i64 0] 34)) := (Bel.refl _).alloc _
      have hb7 : (x2.alloc (.cells #[.slice none 0 0, .int .i64 0, .int .i64 0, .int .i64 0] 34)).heap[b7]? = some (Obj.cells #[.slice none 0 0, .int .i64 0, .int .i64 0, .int .i64 0] 34 (0, 0)) := heap_new' (W := x2) he7.symm
      have hz2 : (x2.alloc (.cells #[.slice none 0 0, .int .i64 0, .int .i64 0, .int .i64 0] 34)).heap.size = b7 + 1 := by have := size_alloc x2 (.cells #[.slice none 0 0, .int .i64 0, .int .i64 0, .int .i64 0] 34); rw [he7] at this; exact this
      rw [he7]
      generalize x2.alloc (.cells #[.slice none 0 0, .int .i64 0, .int .i64 0, .int .i64 0] 34) = x3 at hBn hb7 hz2 ⊢
      replace hz2 := Aside0.mk hz2
      replace he7 := Aside0.mk he7
      replace hb6 := hBn.blk hb6
      replace hF2 := Aside0.mk (Kd.F_below hF2.out hBn.out)
      replace hBz := hBz.trans hBn
      clear hBn
      refine hK.out _ _ ?_ (fun hHeld => ?_)
      rotate_left 1
      clear hK K
      try simp only [Act.put, z1, z2, z3, z4, z5, z6]
      rotate_left 1
      ·exact ⟨hBz, Bel.cell hBz y2⟩
      refine wpAnyH_ready (rs := [5]) (by kernel_rfl) (by simp) ?_
      refine AllReadyH.cons rfl (fun K hK => ?_) AllReadyH.nil
      go_simp
      (go_at_call 12; refine (hr5.out _ hBz).mono ?_; rintro ex x4 ⟨EA5, ec5, rfl, hc5, hF5, hBn⟩)
      have hz3 : x3.heap.size ≤ x4.heap.size := hBn.size
      obtain ⟨lo5, hlo5⟩ : ∃ l, x3.heap.size = l := ⟨_, rfl⟩
      obtain ⟨hi5, hhi5⟩ : ∃ l, x4.heap.size = l := ⟨_, rfl⟩
      replace hF5 : Aside0 (Kd.F (Kd.int .i64) x4 (fun k => lo5 ≤ k ∧ k < hi5) EA5 s5.evs.length s5.evs) := ⟨by rw [← hlo5, ← hhi5]; exact hF5⟩
      replace hlo5 := Aside0.mk hlo5
      replace hhi5 := Aside0.mk hhi5
      replace hb6 := hBn.blk hb6
      replace hF2 := Aside0.mk (Kd.F_below hF2.out hBn.out)
      replace hb7 := hBn.blk hb7
      replace hBz := hBz.trans hBn
      clear hBn
      refine hK.out _ _ ?_ (fun hHeld => ?_)
      rotate_left 1
      clear hK K
      try simp only [Act.put, z1, z2, z3, z4, z5, z6]
      rotate_left 1
      ·exact ⟨hBz, Bel.cell hBz y2⟩
      have tt0 := hz0.out
      have tt1 := he6.out
      have tt2 := hlo2.out
      have tt3 := hhi2.out
      have tt4 := hz2.out
      have tt5 := he7.out
      have tt6 := hlo5.out
      have tt7 := hhi5.out
      have hne : b6 ≠ b7 := by omega
      have hge6 : w2.heap.size ≤ b6 := by omega
      have hge7 : w2.heap.size ≤ b7 := by omega
      have n26 := Aside0.mk (show ¬ (lo2 ≤ b6 ∧ b6 < hi2) by omega)
      have n27 := Aside0.mk (show ¬ (lo2 ≤ b7 ∧ b7 < hi2) by omega)
      have n56 := Aside0.mk (show ¬ (lo5 ≤ b6 ∧ b6 < hi5) by omega)
      have n57 := Aside0.mk (show ¬ (lo5 ≤ b7 ∧ b7 < hi5) by omega)
      have hne' := hne.symm
      clear tt0 tt1 tt2 tt3 tt4 tt5 tt6 tt7
      have q0 := blk_frozen hb6 0
      have q1 := blk_frozen hb6 1
      have q2 := blk_frozen hb6 2
      have q3 := blk_frozen hb6 3
      have c0 : x4.cell? ⟨b6, 0, none⟩ = some (.slice none 0 0) := blk_cell hb6 0
      have c1 : x4.cell? ⟨b6, 1, none⟩ = some (.int .i64 0) := blk_cell hb6 1
      have c2 : x4.cell? ⟨b6, 2, none⟩ = some (.int .i64 0) := blk_cell hb6 2
      have c3 : x4.cell? ⟨b6, 3, none⟩ = some (.int .i64 0) := blk_cell hb6 3
      have hp := put4k hb6 (.slice EA2 s2.evs.length ec2) (.int .i64 s2.fin) (.int .i64 s2.val) (.int .i64 s2.code)
      refine wpAnyH_ready (rs := [8]) (by kernel_rfl) (by simp) ?_
      refine AllReadyH.cons rfl (fun K hK => ?_) AllReadyH.nil
      go_simp
      replace hBz := hp.2.bel hBz hge6
      refine hK.out _ _ ?_ (fun hHeld => ?_)
      rotate_left 1
      clear hK K
      try simp only [Act.put, z1, z2, z3, z4, z5, z6]
      rotate_left 1
      ·exact ⟨hBz, Bel.cell hBz y2⟩
      replace hb6 := hp.1
      replace hb7 := hp.2.blk hb7 hne'
      replace hF2 := Aside0.mk (F_ko hF2.out hp.2 n26.out)
      replace hF5 := Aside0.mk (F_ko hF5.out hp.2 n56.out)
      clear q0 q1 q2 q3 c0 c1 c2 c3 hp
      generalize ((((x4.setCell ⟨b6, 0, none⟩ (.slice EA2 s2.evs.length ec2)).setCell ⟨b6, 1, none⟩ (.int .i64 s2.fin)).setCell ⟨b6, 2, none⟩ (.int .i64 s2.val)).setCell ⟨b6, 3, none⟩ (.int .i64 s2.code)) = y8 at hBz hb6 hb7 hF2 hF5 ⊢
      have q0 := blk_frozen hb7 0
      have q1 := blk_frozen hb7 1
      have q2 := blk_frozen hb7 2
      have q3 := blk_frozen hb7 3
      have c0 : y8.cell? ⟨b7, 0, none⟩ = some (.slice none 0 0) := blk_cell hb7 0
      have c1 : y8.cell? ⟨b7, 1, none⟩ = some (.int .i64 0) := blk_cell hb7 1
      have c2 : y8.cell? ⟨b7, 2, none⟩ = some (.int .i64 0) := blk_cell hb7 2
      have c3 : y8.cell? ⟨b7, 3, none⟩ = some (.int .i64 0) := blk_cell hb7 3
      have hp := put4k hb7 (.slice EA5 s5.evs.length ec5) (.int .i64 s5.fin) (.int .i64 s5.val) (.int .i64 s5.code)
      refine wpAnyH_ready (rs := [9]) (by kernel_rfl) (by simp) ?_
      refine AllReadyH.cons rfl (fun K hK => ?_) AllReadyH.nil
      go_simp
      replace hBz := hp.2.bel hBz hge7
      refine hK.out _ _ ?_ (fun hHeld => ?_)
      rotate_left 1
      clear hK K
      try simp only [Act.put, z1, z2, z3, z4, z5, z6]
      rotate_left 1
      ·exact ⟨hBz, Bel.cell hBz y2⟩
      replace hb7 := hp.1
      replace hb6 := hp.2.blk hb6 hne
      replace hF2 := Aside0.mk (F_ko hF2.out hp.2 n27.out)
      replace hF5 := Aside0.mk (F_ko hF5.out hp.2 n57.out)
      clear q0 q1 q2 q3 c0 c1 c2 c3 hp
      generalize ((((y8.setCell ⟨b7, 0, none⟩ (.slice EA5 s5.evs.length ec5)).setCell ⟨b7, 1, none⟩ (.int .i64 s5.fin)).setCell ⟨b7, 2, none⟩ (.int .i64 s5.val)).setCell ⟨b7, 3, none⟩ (.int .i64 s5.code)) = y9 at hBz hb6 hb7 hF2 hF5 ⊢
      refine wpAnyH_done (by kernel_rfl) ?_ _
      go_wp2
      go_meet
      case rel => exact ⟨b6, b7, EA2, ec2, EA5, ec5, rfl, rfl, hb6, hb7, ⟨Kd.F_now hF2.out⟩, ⟨Kd.F_now hF5.out⟩, hc2, hc5, hBz⟩
    ·go_simp
     obtain ⟨b7, he7⟩ : ∃ b, x1.heap.size = b := ⟨_, rfl⟩
     have hBn : Bel x1 (x1.alloc (.cells #[.slice none 0 0, .int .i64 0, .int .i64 0, .int .i64 0] 34)) := (Bel.refl _).alloc _
     have hb7 : (x1.alloc (.cells #[.slice none 0 0, .int .i64 0, .int .i64 0, .int .i64 0] 34)).heap[b7]? = some (Obj.cells #[.slice none 0 0, .int .i64 0, .int .i64 0, .int .i64 0] 34 (0, 0)) := heap_new' (W := x1) he7.symm
     have hz1 : (x1.alloc (.cells #[.slice none 0 0, .int .i64 0, .int .i64 0, .int .i64 0] 34)).heap.size = b7 + 1 := by have := size_alloc x1 (.cells #[.slice none 0 0, .int .i64 0, .int .i64 0, .int .i64 0] 34); rw [he7] at this; exact this
     rw [he7]
     generalize x1.alloc (.cells #[.slice none 0 0, .int .i64 0, .int .i64 0, .int .i64 0] 34) = x2 at hBn hb7 hz1 ⊢
     replace hz1 := Aside0.mk hz1
     replace he7 := Aside0.mk he7
     replace hb6 := hBn.blk hb6
     replace hBz := hBz.trans hBn
     clear hBn
     refine hK.out _ _ ?_ (fun hHeld => ?_)
     rotate_left 1
     clear hK K
     try simp only [Act.put, z1, z2, z3, z4, z5, z6]
     rotate_left 1
     ·exact ⟨hBz, Bel.cell hBz y2⟩
     refine wpAnyH_ready (rs := [2]) (by kernel_rfl) (by simp) ?_
     refine AllReadyH.cons rfl (fun K hK => ?_) AllReadyH.nil
     go_simp
     (go_at_call 12; refine (hr2.out _ hBz).mono ?_; rintro ex x3 ⟨EA2, ec2, rfl, hc2, hF2, hBn⟩)
     have hz2 : x2.heap.size ≤ x3.heap.size := hBn.size
     obtain ⟨lo2, hlo2⟩ : ∃ l, x2.heap.size = l := ⟨_, rfl⟩
     obtain ⟨hi2, hhi2⟩ : ∃ l, x3.heap.size = l := ⟨_, rfl⟩
     replace hF2 : Aside0 (Kd.F (Kd.int .i64) x3 (fun k => lo2 ≤ k ∧ k < hi2) EA2 s2.evs.length s2.evs) := ⟨by rw [← hlo2, ← hhi2]; exact hF2⟩
     replace hlo2 := Aside0.mk hlo2
     replace hhi2 := Aside0.mk hhi2
     replace hb6 := hBn.blk hb6
     replace hb7 := hBn.blk hb7
     replace hBz := hBz.trans hBn
     clear hBn
     refine hK.out _ _ ?_ (fun hHeld => ?_)
     rotate_left 1
     clear hK K
     try simp only [Act.put, z1, z2, z3, z4, z5, z6]
     rotate_left 1
     ·exact ⟨hBz, Bel.cell hBz y2⟩
     refine wpAnyH_ready (rs := [5]) (by kernel_rfl) (by simp) ?_
     refine AllReadyH.cons rfl (fun K hK => ?_) AllReadyH.nil
     go_simp
     (go_at_call 12; refine (hr5.out _ hBz).mono ?_; rintro ex x4 ⟨EA5, ec5, rfl, hc5, hF5, hBn⟩)
     have hz3 : x3.heap.size ≤ x4.heap.size := hBn.size
     obtain ⟨lo5, hlo5⟩ : ∃ l, x3.heap.size = l := ⟨_, rfl⟩
     obtain ⟨hi5, hhi5⟩ : ∃ l, x4.heap.size = l := ⟨_, rfl⟩
     replace hF5 : Aside0 (Kd.F (Kd.int .i64) x4 (fun k => lo5 ≤ k ∧ k < hi5) EA5 s5.evs.length s5.evs) := ⟨by rw [← hlo5, ← hhi5]; exact hF5⟩
     replace hlo5 := Aside0.mk hlo5
     replace hhi5 := Aside0.mk hhi5
     replace hb6 := hBn.blk hb6
     replace hb7 := hBn.blk hb7
     replace hF2 := Aside0.mk (Kd.F_below hF2.out hBn.out)
     replace hBz := hBz.trans hBn
     clear hBn
     refine hK.out _ _ ?_ (fun hHeld => ?_)
     rotate_left 1
     clear hK K
     try simp only [Act.put, z1, z2, z3, z4, z5, z6]
     rotate_left 1
     ·exact ⟨hBz, Bel.cell hBz y2⟩
     have tt0 := hz0.out
     have tt1 := he6.out
     have tt2 := hz1.out
     have tt3 := he7.out
     have tt4 := hlo2.out
     have tt5 := hhi2.out
     have tt6 := hlo5.out
     have tt7 := hhi5.out
     have hne : b6 ≠ b7 := by omega
     have hge6 : w2.heap.size ≤ b6 := by omega
     have hge7 : w2.heap.size ≤ b7 := by omega
     have n26 := Aside0.mk (show ¬ (lo2 ≤ b6 ∧ b6 < hi2) by omega)
     have n27 := Aside0.mk (show ¬ (lo2 ≤ b7 ∧ b7 < hi2) by omega)
     have n56 := Aside0.mk (show ¬ (lo5 ≤ b6 ∧ b6 < hi5) by omega)
     have n57 := Aside0.mk (show ¬ (lo5 ≤ b7 ∧ b7 < hi5) by omega)
     have hne' := hne.symm
     clear tt0 tt1 tt2 tt3 tt4 tt5 tt6 tt7
     have q0 := blk_frozen hb6 0
     have q1 := blk_frozen hb6 1
     have q2 := blk_frozen hb6 2
     have q3 := blk_frozen hb6 3
     have c0 : x4.cell? ⟨b6, 0, none⟩ = some (.slice none 0 0) := blk_cell hb6 0
     have c1 : x4.cell? ⟨b6, 1, none⟩ = some (.int .i64 0) := blk_cell hb6 1
     have c2 : x4.cell? ⟨b6, 2, none⟩ = some (.int .i64 0) := blk_cell hb6 2
     have c3 : x4.cell? ⟨b6, 3, none⟩ = some (.int .i64 0) := blk_cell hb6 3
     have hp := put4k hb6 (.slice EA2 s2.evs.length ec2) (.int .i64 s2.fin) (.int .i64 s2.val) (.int .i64 s2.code)
     refine wpAnyH_ready (rs := [8]) (by kernel_rfl) (by simp) ?_
     refine AllReadyH.cons rfl (fun K hK => ?_) AllReadyH.nil
     go_simp
     replace hBz := hp.2.bel hBz hge6
     refine hK.out _ _ ?_ (fun hHeld => ?_)
     rotate_left 1
     clear hK K
     try simp only [Act.put, z1, z2, z3, z4, z5, z6]
     rotate_left 1
     ·exact ⟨hBz, Bel.cell hBz y2⟩
     replace hb6 := hp.1
     replace hb7 := hp.2.blk hb7 hne'
     replace hF2 := Aside0.mk (F_ko hF2.out hp.2 n26.out)
     replace hF5 := Aside0.mk (F_ko hF5.out hp.2 n56.out)
     clear q0 q1 q2 q3 c0 c1 c2 c3 hp
     generalize ((((x4.setCell ⟨b6, 0, none⟩ (.slice EA2 s2.evs.length ec2)).setCell ⟨b6, 1, none⟩ (.int .i64 s2.fin)).setCell ⟨b6, 2, none⟩ (.int .i64 s2.val)).setCell ⟨b6, 3, none⟩ (.int .i64 s2.code)) = y8 at hBz hb6 hb7 hF2 hF5 ⊢
     have q0 := blk_frozen hb7 0
     have q1 := blk_frozen hb7 1
     have q2 := blk_frozen hb7 2
     have q3 := blk_frozen hb7 3
     have c0 : y8.cell? ⟨b7, 0, none⟩ = some (.slice none 0 0) := blk_cell hb7 0
     have c1 : y8.cell? ⟨b7, 1, none⟩ = some (.int .i64 0) := blk_cell hb7 1
     have c2 : y8.cell? ⟨b7, 2, none⟩ = some (.int .i64 0) := blk_cell hb7 2
     have c3 : y8.cell? ⟨b7, 3, none⟩ = some (.int .i64 0) := blk_cell hb7 3
     have hp := put4k hb7 (.slice EA5 s5.evs.length ec5) (.int .i64 s5.fin) (.int .i64 s5.val) (.int .i64 s5.code)
     refine wpAnyH_ready (rs := [9]) (by kernel_rfl) (by simp) ?_
     refine AllReadyH.cons rfl (fun K hK => ?_) AllReadyH.nil
     go_simp
     replace hBz := hp.2.bel hBz hge7
     refine hK.out _ _ ?_ (fun hHeld => ?_)
     rotate_left 1
     clear hK K
     try simp only [Act.put, z1, z2, z3, z4, z5, z6]
     rotate_left 1
     ·exact ⟨hBz, Bel.cell hBz y2⟩
     replace hb7 := hp.1
     replace hb6 := hp.2.blk hb6 hne
     replace hF2 := Aside0.mk (F_ko hF2.out hp.2 n27.out)
     replace hF5 := Aside0.mk (F_ko hF5.out hp.2 n57.out)
     clear q0 q1 q2 q3 c0 c1 c2 c3 hp
     generalize ((((y8.setCell ⟨b7, 0, none⟩ (.slice EA5 s5.evs.length ec5)).setCell ⟨b7, 1, none⟩ (.int .i64 s5.fin)).setCell ⟨b7, 2, none⟩ (.int .i64 s5.val)).setCell ⟨b7, 3, none⟩ (.int .i64 s5.code)) = y9 at hBz hb6 hb7 hF2 hF5 ⊢
     refine wpAnyH_done (by kernel_rfl) ?_ _
     go_wp2
     go_meet
     case rel => exact ⟨b6, b7, EA2, ec2, EA5, ec5, rfl, rfl, hb6, hb7, ⟨Kd.F_now hF2.out⟩, ⟨Kd.F_now hF5.out⟩, hc2, hc5, hBz⟩
   ·go_simp
    obtain ⟨b7, he7⟩ : ∃ b, w2.heap.size = b := ⟨_, rfl⟩
    have hBn : Bel w2 ((w2.alloc (.cells #[.slice none 0 0, .int .i64 0, .int .i64 0, .int .i64 0] 34)).drew) := ((Bel.refl w2).alloc _).drewN 1
    have hb7 : ((w2.alloc (.cells #[.slice none 0 0, .int .i64 0, .int .i64 0, .int .i64 0] 34)).drew).heap[b7]? = some (Obj.cells #[.slice none 0 0, .int .i64 0, .int .i64 0, .int .i64 0] 34 (0, 0)) := heap_new' (W := w2) he7.symm
    have hz0 : ((w2.alloc (.cells #[.slice none 0 0, .int .i64 0, .int .i64 0, .int .i64 0] 34)).drew).heap.size = b7 + 1 := by have := size_alloc w2 (.cells #[.slice none 0 0, .int .i64 0, .int .i64 0, .int .i64 0] 34); rw [he7] at this; exact this
    rw [he7]
    generalize (w2.alloc (.cells #[.slice none 0 0, .int .i64 0, .int .i64 0, .int .i64 0] 34)).drew = x1 at hBn hb7 hz0 ⊢
    replace hz0 := Aside0.mk hz0
    replace he7 := Aside0.mk he7
    replace hBz := hBn
    clear hBn
    refine hK.out _ _ ?_ (fun hHeld => ?_)
    rotate_left 1
    clear hK K
    try simp only [Act.put, z1, z2, z3, z4, z5, z6]
    rotate_left 1
    ·exact ⟨hBz, Bel.cell hBz y2⟩
    refine wpAnyH_ready (rs := [2, 6]) (by kernel_rfl) (by simp) ?_
    refine (AllReadyH.cons rfl (fun K hK => ?_) (AllReadyH.cons rfl (fun K hK => ?_) AllReadyH.nil))
    ·go_simp
     (go_at_call 12; refine (hr2.out _ hBz).mono ?_; rintro ex x2 ⟨EA2, ec2, rfl, hc2, hF2, hBn⟩)
     have hz1 : x1.heap.size ≤ x2.heap.size := hBn.size
     obtain ⟨lo2, hlo2⟩ : ∃ l, x1.heap.size = l := ⟨_, rfl⟩
     obtain ⟨hi2, hhi2⟩ : ∃ l, x2.heap.size = l := ⟨_, rfl⟩
     replace hF2 : Aside0 (Kd.F (Kd.int .i64) x2 (fun k => lo2 ≤ k ∧ k < hi2) EA2 s2.evs.length s2.evs) := ⟨by rw [← hlo2, ← hhi2]; exact hF2⟩
     replace hlo2 := Aside0.mk hlo2
     replace hhi2 := Aside0.mk hhi2
     replace hb7 := hBn.blk hb7
     replace hBz := hBz.trans hBn
     clear hBn
     refine hK.out _ _ ?_ (fun hHeld => ?_)
     rotate_left 1
     clear hK K
     try simp only [Act.put, z1, z2, z3, z4, z5, z6]
     rotate_left 1
     ·exact ⟨hBz, Bel.cell hBz y2⟩
     refine wpAnyH_ready (rs := [5, 6]) (by kernel_rfl) (by simp) ?_
     refine (AllReadyH.cons rfl (fun K hK => ?_) (AllReadyH.cons rfl (fun K hK => ?_) AllReadyH.nil))
     ·go_simp
      (go_at_call 12; refine (hr5.out _ hBz).mono ?_; rintro ex x3 ⟨EA5, ec5, rfl, hc5, hF5, hBn⟩)
      have hz2 : x2.heap.size ≤ x3.heap.size := hBn.size
      obtain ⟨lo5, hlo5⟩ : ∃ l, x2.heap.size = l := ⟨_, rfl⟩
      obtain ⟨hi5, hhi5⟩ : ∃ l, x3.heap.size = l := ⟨_, rfl⟩
      replace hF5 : Aside0 (Kd.F (Kd.int .i64) x3 (fun k => lo5 ≤ k ∧ k < hi5) EA5 s5.evs.length s5.evs) := ⟨by rw [← hlo5, ← hhi5]; exact hF5⟩
      replace hlo5 := Aside0.mk hlo5
      replace hhi5 := Aside0.mk hhi5
      replace hb7 := hBn.blk hb7
      replace hF2 := Aside0.mk (Kd.F_below hF2.out hBn.out)
      replace hBz := hBz.trans hBn
      clear hBn
      refine hK.out _ _ ?_ (fun hHeld => ?_)
      rotate_left 1
      clear hK K
      try simp only [Act.put, z1, z2, z3, z4, z5, z6]
      rotate_left 1
      ·exact ⟨hBz, Bel.cell hBz y2⟩
      refine wpAnyH_ready (rs := [6]) (by kernel_rfl) (by simp) ?_
      refine AllReadyH.cons rfl (fun K hK => ?_) AllReadyH.nil
      go_simp
      obtain ⟨b6, he6⟩ : ∃ b, x3.heap.size = b := ⟨_, rfl⟩
      have hBn : Bel x3 (x3.alloc (.cells #[.slice none 0 0, .int .i64 0, .int .i64 0, .int .i64 0] 34)) := (Bel.refl _).alloc _
      have hb6 : (x3.alloc (.cells #[.slice none 0 0, .int .i64 0, .int .i64 0, .int .i64 0] 34)).heap[b6]? = some (Obj.cells #[.slice none 0 0, .int .i64 0, .int .i64 0, .int .i64 0] 34 (0, 0)) := heap_new' (W := x3) he6.symm
      have hz3 : (x3.alloc (.cells #[.slice none 0 0, .int .i64 0, .int .i64 0, .int .i64 0] 34)).heap.size = b6 + 1 := by have := size_alloc x3 (.cells #[.slice none 0 0, .int .i64 0, .int .i64 0, .int .i64 0] 34); rw [he6] at this; exact this
      rw [he6]
      generalize x3.alloc (.cells #[.slice none 0 0, .int .i64 0, .int .i64 0, .int .i64 0] 34) = x4 at hBn hb6 hz3 ⊢
      replace hz3 := Aside0.mk hz3
      replace he6 := Aside0.mk he6
      replace hb7 := hBn.blk hb7
      replace hF2 := Aside0.mk (Kd.F_below hF2.out hBn.out)
      replace hF5 := Aside0.mk (Kd.F_below hF5.out hBn.out)
      replace hBz := hBz.trans hBn
      clear hBn
      refine hK.out _ _ ?_ (fun hHeld => ?_)
      rotate_left 1
      clear hK K
      try simp only [Act.put, z1, z2, z3, z4, z5, z6]
      rotate_left 1
      ·exact ⟨hBz, Bel.cell hBz y2⟩
      have tt0 := hz0.out
      have tt1 := he7.out
      have tt2 := hlo2.out
      have tt3 := hhi2.out
      have tt4 := hlo5.out
      have tt5 := hhi5.out
      have tt6 := hz3.out
      have tt7 := he6.out
      have hne : b6 ≠ b7 := by omega
      have hge6 : w2.heap.size ≤ b6 := by omega
      have hge7 : w2.heap.size ≤ b7 := by omega
      have n26 := Aside0.mk (show ¬ (lo2 ≤ b6 ∧ b6 < hi2) by omega)
      have n27 := Aside0.mk (show ¬ (lo2 ≤ b7 ∧ b7 < hi2) by omega)
      have n56 := Aside0.mk (show ¬ (lo5 ≤ b6 ∧ b6 < hi5) by omega)
      have n57 := Aside0.mk (show ¬ (lo5 ≤ b7 ∧ b7 < hi5) by omega)
      have hne' := hne.symm
      clear tt0 tt1 tt2 tt3 tt4 tt5 tt6 tt7
      have q0 := blk_frozen hb6 0
      have q1 := blk_frozen hb6 1
      have q2 := blk_frozen hb6 2
      have q3 := blk_frozen hb6 3
      have c0 : x4.cell? ⟨b6, 0, none⟩ = some (.slice none 0 0) := blk_cell hb6 0
      have c1 : x4.cell? ⟨b6, 1, none⟩ = some (.int .i64 0) := blk_cell hb6 1
      have c2 : x4.cell? ⟨b6, 2, none⟩ = some (.int .i64 0) := blk_cell hb6 2
      have c3 : x4.cell? ⟨b6, 3, none⟩ = some (.int .i64 0) := blk_cell hb6 3
      have hp := put4k hb6 (.slice EA2 s2.evs.length ec2) (.int .i64 s2.fin) (.int .i64 s2.val) (.int .i64 s2.code)
      refine wpAnyH_ready (rs := [8]) (by kernel_rfl) (by simp) ?_
      refine AllReadyH.cons rfl (fun K hK => ?_) AllReadyH.nil
      go_simp
      replace hBz := hp.2.bel hBz hge6
      refine hK.out _ _ ?_ (fun hHeld => ?_)
      rotate_left 1
      clear hK K
      try simp only [Act.put, z1, z2, z3, z4, z5, z6]
      rotate_left 1
      ·exact ⟨hBz, Bel.cell hBz y2⟩
      replace hb6 := hp.1
      replace hb7 := hp.2.blk hb7 hne'
      replace hF2 := Aside0.mk (F_ko hF2.out hp.2 n26.out)
      replace hF5 := Aside0.mk (F_ko hF5.out hp.2 n56.out)
      clear q0 q1 q2 q3 c0 c1 c2 c3 hp
      generalize ((((x4.setCell ⟨b6, 0, none⟩ (.slice EA2 s2.evs.length ec2)).setCell ⟨b6, 1, none⟩ (.int .i64 s2.fin)).setCell ⟨b6, 2, none⟩ (.int .i64 s2.val)).setCell ⟨b6, 3, none⟩ (.int .i64 s2.code)) = y8 at hBz hb6 hb7 hF2 hF5 ⊢
      have q0 := blk_frozen hb7 0
      have q1 := blk_frozen hb7 1
      have q2 := blk_frozen hb7 2
      have q3 := blk_frozen hb7 3
      have c0 : y8.cell? ⟨b7, 0, none⟩ = some (.slice none 0 0) := blk_cell hb7 0
      have c1 : y8.cell? ⟨b7, 1, none⟩ = some (.int .i64 0) := blk_cell hb7 1
      have c2 : y8.cell? ⟨b7, 2, none⟩ = some (.int .i64 0) := blk_cell hb7 2
      have c3 : y8.cell? ⟨b7, 3, none⟩ = some (.int .i64 0) := blk_cell hb7 3
      have hp := put4k hb7 (.slice EA5 s5.evs.length ec5) (.int .i64 s5.fin) (.int .i64 s5.val) (.int .i64 s5.code)
      refine wpAnyH_ready (rs := [9]) (by kernel_rfl) (by simp) ?_
      refine AllReadyH.cons rfl (fun K hK => ?_) AllReadyH.nil
      go_simp
      replace hBz := hp.2.bel hBz hge7
      refine hK.out _ _ ?_ (fun hHeld => ?_)
      rotate_left 1
      clear hK K
      try simp only [Act.put, z1, z2, z3, z4, z5, z6]
      rotate_left 1
      ·exact ⟨hBz, Bel.cell hBz y2⟩
      replace hb7 := hp.1
      replace hb6 := hp.2.blk hb6 hne
      replace hF2 := Aside0.mk (F_ko hF2.out hp.2 n27.out)
      replace hF5 := Aside0.mk (F_ko hF5.out hp.2 n57.out)
      clear q0 q1 q2 q3 c0 c1 c2 c3 hp
      generalize ((((y8.setCell ⟨b7, 0, none⟩ (.slice EA5 s5.evs.length ec5)).setCell ⟨b7, 1, none⟩ (.int .i64 s5.fin)).setCell ⟨b7, 2, none⟩ (.int .i64 s5.val)).setCell ⟨b7, 3, none⟩ (.int .i64 s5.code)) = y9 at hBz hb6 hb7 hF2 hF5 ⊢
      refine wpAnyH_done (by kernel_rfl) ?_ _
      go_wp2
      go_meet
      case rel => exact ⟨b6, b7, EA2, ec2, EA5, ec5, rfl, rfl, hb6, hb7, ⟨Kd.F_now hF2.out⟩, ⟨Kd.F_now hF5.out⟩, hc2, hc5, hBz⟩
     ·go_simp
      obtain ⟨b6, he6⟩ : ∃ b, x2.heap.size = b := ⟨_, rfl⟩
      have hBn : Bel x2 (x2.alloc (.cells #[.slice none 0 0, .int .i64 0, .int .i64 0, .int .i64 0] 34)) := (Bel.refl _).alloc _
      have hb6 : (x2.alloc (.cells #[.slice none 0 0, .int .i64 0, .int .i64 0, .int .i64 0] 34)).heap[b6]? = some (Obj.cells #[.slice none 0 0, .int .i64 0, .int .i64 0, .int .i64 0] 34 (0, 0)) := heap_new' (W := x2) he6.symm
      have hz2 : (x2.alloc (.cells #[.slice none 0 0, .int .i64 0, .int .i64 0, .int .i64 0] 34)).heap.size = b6 + 1 := by have := size_alloc x2 (.cells #[.slice none 0 0, .int .i64 0, .int .i64 0, .int .i64 0] 34); rw [he6] at this; exact this
      rw [he6]
      generalize x2.alloc (.cells #[.slice none 0 0, .int .i64 0, .int .i64 0, .int .i64 0] 34) = x3 at hBn hb6 hz2 ⊢
      replace hz2 := Aside0.mk hz2
      replace he6 := Aside0.mk he6
      replace hb7 := hBn.blk hb7
      replace hF2 := Aside0.mk (Kd.F_below hF2.out hBn.out)
      replace hBz := hBz.trans hBn
      clear hBn
      refine hK.out _ _ ?_ (fun hHeld => ?_)
      rotate_left 1
      clear hK K
      try simp only [Act.put, z1, z2, z3, z4, z5, z6]
      rotate_left 1
      ·exact ⟨hBz, Bel.cell hBz y2⟩
      refine wpAnyH_ready (rs := [5]) (by kernel_rfl) (by simp) ?_
      refine AllReadyH.cons rfl (fun K hK => ?_) AllReadyH.nil
      go_simp
      (go_at_call 12; refine (hr5.out _ hBz).mono ?_; rintro ex x4 ⟨EA5, ec5, rfl, hc5, hF5, hBn⟩)
      have hz3 : x3.heap.size ≤ x4.heap.size := hBn.size
      obtain ⟨lo5, hlo5⟩ : ∃ l, x3.heap.size = l := ⟨_, rfl⟩
      obtain ⟨hi5, hhi5⟩ : ∃ l, x4.heap.size = l := ⟨_, rfl⟩
      replace hF5 : Aside0 (Kd.F (Kd.int .i64) x4 (fun k => lo5 ≤ k ∧ k < hi5) EA5 s5.evs.length s5.evs) := ⟨by rw [← hlo5, ← hhi5]; exact hF5⟩
      replace hlo5 := Aside0.mk hlo5
      replace hhi5 := Aside0.mk hhi5
      replace hb7 := hBn.blk hb7
      replace hF2 := Aside0.mk (Kd.F_below hF2.out hBn.out)
      replace hb6 := hBn.blk hb6
      replace hBz := hBz.trans hBn
      clear hBn
      refine hK.out _ _ ?_ (fun hHeld => ?_)
      rotate_left 1
      clear hK K
      try simp only [Act.put, z1, z2, z3, z4, z5, z6]
      rotate_left 1
      ·exact ⟨hBz, Bel.cell hBz y2⟩
      have tt0 := hz0.out
      have tt1 := he7.out
      have tt2 := hlo2.out
      have tt3 := hhi2.out
      have tt4 := hz2.out
      have tt5 := he6.out
      have tt6 := hlo5.out
      have tt7 := hhi5.out
      have hne : b6 ≠ b7 := by omega
      have hge6 : w2.heap.size ≤ b6 := by omega
      have hge7 : w2.heap.size ≤ b7 := by omega
      have n26 := Aside0.mk (show ¬ (lo2 ≤ b6 ∧ b6 < hi2) by omega)
      have n27 := Aside0.mk (show ¬ (lo2 ≤ b7 ∧ b7 < hi2) by omega)
      have n56 := Aside0.mk (show ¬ (lo5 ≤ b6 ∧ b6 < hi5) by omega)
      have n57 := Aside0.mk (show ¬ (lo5 ≤ b7 ∧ b7 < hi5) by omega)
      have hne' := hne.symm
      clear tt0 tt1 tt2 tt3 tt4 tt5 tt6 tt7
      have q0 := blk_frozen hb6 0
      have q1 := blk_frozen hb6 1
      have q2 := blk_frozen hb6 2
      have q3 := blk_frozen hb6 3
      have c0 : x4.cell? ⟨b6, 0, none⟩ = some (.slice none 0 0) := blk_cell hb6 0
      have c1 : x4.cell? ⟨b6, 1, none⟩ = some (.int .i64 0) := blk_cell hb6 1
      have c2 : x4.cell? ⟨b6, 2, none⟩ = some (.int .i64 0) := blk_cell hb6 2
      have c3 : x4.cell? ⟨b6, 3, none⟩ = some (.int .i64 0) := blk_cell hb6 3
      have hp := put4k hb6 (.slice EA2 s2.evs.length ec2) (.int .i64 s2.fin) (.int .i64 s2.val) (.int .i64 s2.code)
      refine wpAnyH_ready (rs := [8]) (by kernel_rfl) (by simp) ?_
      refine AllReadyH.cons rfl (fun K hK => ?_) AllReadyH.nil
      go_simp
      replace hBz := hp.2.bel hBz hge6
      refine hK.out _ _ ?_ (fun hHeld => ?_)
      rotate_left 1
      clear hK K
      try simp only [Act.put, z1, z2, z3, z4, z5, z6]
      rotate_left 1
      ·exact ⟨hBz, Bel.cell hBz y2⟩
      replace hb6 := hp.1
      replace hb7 := hp.2.blk hb7 hne'
      replace hF2 := Aside0.mk (F_ko hF2.out hp.2 n26.out)
      replace hF5 := Aside0.mk (F_ko hF5.out hp.2 n56.out)
      clear q0 q1 q2 q3 c0 c1 c2 c3 hp
      generalize ((((x4.setCell ⟨b6, 0, none⟩ (.slice EA2 s2.evs.length ec2)).setCell ⟨b6, 1, none⟩ (.int .i64 s2.fin)).setCell ⟨b6, 2, none⟩ (.int .i64 s2.val)).setCell ⟨b6, 3, none⟩ (.int .i64 s2.code)) = y8 at hBz hb6 hb7 hF2 hF5 ⊢
      have q0 := blk_frozen hb7 0
      have q1 := blk_frozen hb7 1
      have q2 := blk_frozen hb7 2
      have q3 := blk_frozen hb7 3
      have c0 : y8.cell? ⟨b7, 0, none⟩ = some (.slice none 0 0) := blk_cell hb7 0
      have c1 : y8.cell? ⟨b7, 1, none⟩ = some (.int .i64 0) := blk_cell hb7 1
      have c2 : y8.cell? ⟨b7, 2, none⟩ = some (.int .i64 0) := blk_cell hb7 2
      have c3 : y8.cell? ⟨b7, 3, none⟩ = some (.int .i64 0) := blk_cell hb7 3
      have hp := put4k hb7 (.slice EA5 s5.evs.length ec5) (.int .i64 s5.fin) (.int .i64 s5.val) (.int .i64 s5.code)
      refine wpAnyH_ready (rs := [9]) (by kernel_rfl) (by simp) ?_
      refine AllReadyH.cons rfl (fun K hK => ?_) AllReadyH.nil
      go_simp
      replace hBz := hp.2.bel hBz hge7
      refine hK.out _ _ ?_ (fun hHeld => ?_)
      rotate_left 1
      clear hK K
      try simp only [Act.put, z1, z2, z3, z4, z5, z6]
      rotate_left 1
      ·exact ⟨hBz, Bel.cell hBz y2⟩
      replace hb7 := hp.1
      replace hb6 := hp.2.blk hb6 hne
      replace hF2 := Aside0.mk (F_ko hF2.out hp.2 n27.out)
      replace hF5 := Aside0.mk (F_ko hF5.out hp.2 n57.out)
      clear q0 q1 q2 q3 c0 c1 c2 c3 hp
      generalize ((((y8.setCell ⟨b7, 0, none⟩ (.slice EA5 s5.evs.length ec5)).setCell ⟨b7, 1, none⟩ (.int .i64 s5.fin)).setCell ⟨b7, 2, none⟩ (.int .i64 s5.val)).setCell ⟨b7, 3, none⟩ (.int .i64 s5.code)) = y9 at hBz hb6 hb7 hF2 hF5 ⊢
      refine wpAnyH_done (by kernel_rfl) ?_ _
      go_wp2
      go_meet
      case rel => exact ⟨b6, b7, EA2, ec2, EA5, ec5, rfl, rfl, hb6, hb7, ⟨Kd.F_now hF2.out⟩, ⟨Kd.F_now hF5.out⟩, hc2, hc5, hBz⟩
    ·go_simp
     obtain ⟨b6, he6⟩ : ∃ b, x1.heap.size = b := ⟨_, rfl⟩
     have hBn : Bel x1 (x1.alloc (.cells #[.slice none 0 0, .int .i64 0, .int .i64 0, .int .i64 0] 34)) := (Bel.refl _).alloc _
     have hb6 : (x1.alloc (.cells #[.slice none 0 0, .int .i64 0, .int .i64 0, .int .i64 0] 34)).heap[b6]? = some (Obj.cells #[.slice none 0 0, .int .i64 0, .int .i64 0, .int .i64 0] 34 (0, 0)) := heap_new' (W := x1) he6.symm
     have hz1 : (x1.alloc (.cells #[.slice none 0 0, .int .i64 0, .int .i64 0, .int .i64 0] 34)).heap.size = b6 + 1 := by have := size_alloc x1 (.cells #[.slice none 0 0, .int .i64 0, .int .i64 0, .int .i64 0] 34); rw [he6] at this; exact this
     rw [he6]
     generalize x1.alloc (.cells #[.slice none 0 0, .int .i64 0, .int .i64 0, .int .i64 0] 34) = x2 at hBn hb6 hz1 ⊢
     replace hz1 := Aside0.mk hz1
     replace he6 := Aside0.mk he6
     replace hb7 := hBn.blk hb7
     replace hBz := hBz.trans hBn
     clear hBn
     refine hK.out _ _ ?_ (fun hHeld => ?_)
     rotate_left 1
     clear hK K
     try simp only [Act.put, z1, z2, z3, z4, z5, z6]
     rotate_left 1
     ·exact ⟨hBz, Bel.cell hBz y2⟩
     refine wpAnyH_ready (rs := [2]) (by kernel_rfl) (by simp) ?_
     refine AllReadyH.cons rfl (fun K hK => ?_) AllReadyH.nil
     go_simp
     (go_at_call 12; refine (hr2.out _ hBz).mono ?_; rintro ex x3 ⟨EA2, ec2, rfl, hc2, hF2, hBn⟩)
     have hz2 : x2.heap.size ≤ x3.heap.size := hBn.size
     obtain ⟨lo2, hlo2⟩ : ∃ l, x2.heap.size = l := ⟨_, rfl⟩
     obtain ⟨hi2, hhi2⟩ : ∃ l, x3.heap.size = l := ⟨_, rfl⟩
     replace hF2 : Aside0 (Kd.F (Kd.int .i64) x3 (fun k => lo2 ≤ k ∧ k < hi2) EA2 s2.evs.length s2.evs) := ⟨by rw [← hlo2, ← hhi2]; exact hF2⟩
     replace hlo2 := Aside0.mk hlo2
     replace hhi2 := Aside0.mk hhi2
     replace hb7 := hBn.blk hb7
     replace hb6 := hBn.blk hb6
     replace hBz := hBz.trans hBn
     clear hBn
     refine hK.out _ _ ?_ (fun hHeld => ?_)
     rotate_left 1
     clear hK K
     try simp only [Act.put, z1, z2, z3, z4, z5, z6]
     rotate_left 1
     ·exact ⟨hBz, Bel.cell hBz y2⟩
     refine wpAnyH_ready (rs := [5]) (by kernel_rfl) (by simp) ?_
     refine AllReadyH.cons rfl (fun K hK => ?_) AllReadyH.nil
     go_simp
     (go_at_call 12; refine (hr5.out _ hBz).mono ?_; rintro ex x4 ⟨EA5, ec5, rfl, hc5, hF5, hBn⟩)
     have hz3 : x3.heap.size ≤ x4.heap.size := hBn.size
     obtain ⟨lo5, hlo5⟩ : ∃ l, x3.heap.size = l := ⟨_, rfl⟩
     obtain ⟨hi5, hhi5⟩ : ∃ l, x4.heap.size = l := ⟨_, rfl⟩
     replace hF5 : Aside0 (Kd.F (Kd.int .i64) x4 (fun k => lo5 ≤ k ∧ k < hi5) EA5 s5.evs.length s5.evs) := ⟨by rw [← hlo5, ← hhi5]; exact hF5⟩
     replace hlo5 := Aside0.mk hlo5
     replace hhi5 := Aside0.mk hhi5
     replace hb7 := hBn.blk hb7
     replace hb6 := hBn.blk hb6
     replace hF2 := Aside0.mk (Kd.F_below hF2.out hBn.out)
     replace hBz := hBz.trans hBn
     clear hBn
     refine hK.out _ _ ?_ (fun hHeld => ?_)
     rotate_left 1
     clear hK K
     try simp only [Act.put, z1, z2, z3, z4, z5, z6]
     rotate_left 1
     ·exact ⟨hBz, Bel.cell hBz y2⟩
     have tt0 := hz0.out
     have tt1 := he7.out
     have tt2 := hz1.out
     have tt3 := he6.out
     have tt4 := hlo2.out
     have tt5 := hhi2.out
     have tt6 := hlo5.out
     have tt7 := hhi5.out
     have hne : b6 ≠ b7 := by omega
     have hge6 : w2.heap.size ≤ b6 := by omega
     have hge7 : w2.heap.size ≤ b7 := by omega
     have n26 := Aside0.mk (show ¬ (lo2 ≤ b6 ∧ b6 < hi2) by omega)
     have n27 := Aside0.mk (show ¬ (lo2 ≤ b7 ∧ b7 < hi2) by omega)
     have n56 := Aside0.mk (show ¬ (lo5 ≤ b6 ∧ b6 < hi5) by omega)
     have n57 := Aside0.mk (show ¬ (lo5 ≤ b7 ∧ b7 < hi5) by omega)
     have hne' := hne.symm
     clear tt0 tt1 tt2 tt3 tt4 tt5 tt6 tt7
     have q0 := blk_frozen hb6 0
     have q1 := blk_frozen hb6 1
     have q2 := blk_frozen hb6 2
     have q3 := blk_frozen hb6 3
     have c0 : x4.cell? ⟨b6, 0, none⟩ = some (.slice none 0 0) := blk_cell hb6 0
     have c1 : x4.cell? ⟨b6, 1, none⟩ = some (.int .i64 0) := blk_cell hb6 1
     have c2 : x4.cell? ⟨b6, 2, none⟩ = some (.int .i64 0) := blk_cell hb6 2
     have c3 : x4.cell? ⟨b6, 3, none⟩ = some (.int .i64 0) := blk_cell hb6 3
     have hp := put4k hb6 (.slice EA2 s2.evs.length ec2) (.int .i64 s2.fin) (.int .i64 s2.val) (.int .i64 s2.code)
     refine wpAnyH_ready (rs := [8]) (by kernel_rfl) (by simp) ?_
     refine AllReadyH.cons rfl (fun K hK => ?_) AllReadyH.nil
     go_simp
     replace hBz := hp.2.bel hBz hge6
     refine hK.out _ _ ?_ (fun hHeld => ?_)
     rotate_left 1
     clear hK K
     try simp only [Act.put, z1, z2, z3, z4, z5, z6]
     rotate_left 1
     ·exact ⟨hBz, Bel.cell hBz y2⟩
     replace hb6 := hp.1
     replace hb7 := hp.2.blk hb7 hne'
     replace hF2 := Aside0.mk (F_ko hF2.out hp.2 n26.out)
     replace hF5 := Aside0.mk (F_ko hF5.out hp.2 n56.out)
     clear q0 q1 q2 q3 c0 c1 c2 c3 hp
     generalize ((((x4.setCell ⟨b6, 0, none⟩ (.slice EA2 s2.evs.length ec2)).setCell ⟨b6, 1, none⟩ (.int .i64 s2.fin)).setCell ⟨b6, 2, none⟩ (.int .i64 s2.val)).setCell ⟨b6, 3, none⟩ (.int .i64 s2.code)) = y8 at hBz hb6 hb7 hF2 hF5 ⊢
     have q0 := blk_frozen hb7 0
     have q1 := blk_frozen hb7 1
     have q2 := blk_frozen hb7 2
     have q3 := blk_frozen hb7 3
     have c0 : y8.cell? ⟨b7, 0, none⟩ = some (.slice none 0 0) := blk_cell hb7 0
     have c1 : y8.cell? ⟨b7, 1, none⟩ = some (.int .i64 0) := blk_cell hb7 1
     have c2 : y8.cell? ⟨b7, 2, none⟩ = some (.int .i64 0) := blk_cell hb7 2
     have c3 : y8.cell? ⟨b7, 3, none⟩ = some (.int .i64 0) := blk_cell hb7 3
     have hp := put4k hb7 (.slice EA5 s5.evs.length ec5) (.int .i64 s5.fin) (.int .i64 s5.val) (.int .i64 s5.code)
     refine wpAnyH_ready (rs := [9]) (by kernel_rfl) (by simp) ?_
     refine AllReadyH.cons rfl (fun K hK => ?_) AllReadyH.nil
     go_simp
     replace hBz := hp.2.bel hBz hge7
     refine hK.out _ _ ?_ (fun hHeld => ?_)
     rotate_left 1
     clear hK K
     try simp only [Act.put, z1, z2, z3, z4, z5, z6]
     rotate_left 1
     ·exact ⟨hBz, Bel.cell hBz y2⟩
     replace hb7 := hp.1
     replace hb6 := hp.2.blk hb6 hne
     replace hF2 := Aside0.mk (F_ko hF2.out hp.2 n27.out)
     replace hF5 := Aside0.mk (F_ko hF5.out hp.2 n57.out)
     clear q0 q1 q2 q3 c0 c1 c2 c3 hp
     generalize ((((y8.setCell ⟨b7, 0, none⟩ (.slice EA5 s5.evs.length ec5)).setCell ⟨b7, 1, none⟩ (.int .i64 s5.fin)).setCell ⟨b7, 2, none⟩ (.int .i64 s5.val)).setCell ⟨b7, 3, none⟩ (.int .i64 s5.code)) = y9 at hBz hb6 hb7 hF2 hF5 ⊢
     refine wpAnyH_done (by kernel_rfl) ?_ _
     go_wp2
     go_meet
     case rel => exact ⟨b6, b7, EA2, ec2, EA5, ec5, rfl, rfl, hb6, hb7, ⟨Kd.F_now hF2.out⟩, ⟨Kd.F_now hF5.out⟩, hc2, hc5, hBz⟩
  case rest =>
   clear hr2 hr5
   obtain ⟨b6, b7, EA2, ec2, EA5, ec5, rfl, rfl, hb6, hb7, hR2, hR5, hc2, hc5, hBc⟩ := hcut
   have z2 := Bel.cell hBc y2
   have hrt := Aside0.mk (fun (X : World) (HA : Option Addr) (hc : Nat) (hR : Rd kObj X HA s2.heap) => Right_true HA hc s2.heap X hhv hR hhl)
   have hBx3 := hBx.trans hBc
   obtain ⟨l0, hl0⟩ : ∃ l, s2.evs = l := ⟨_, rfl⟩
   by_cases hf0 : s2.fin = 0
   ·have hr9 := hr.out
    rw [hl0] at hr9 hb6 hR2 hc2 hl2
    rw [hr9] at hb7 hR5 hc5 hl5
    have hbg := Begins_any EA2 EA5 ec2 ec5 l0 r _ hR2 hR5 hc5 hl5
    simp only [List.length_append] at hbg hb7
    replace hbg := Aside0.mk hbg
    have e1 : ((s2.steps : Int) == n) = true := by simp [hst2.out hf0]
    have e2 : n ≤ (s5.steps : Int) := by have := hst2.out hf0; omega
    have e3 : (s2.fin != 0) = false := by simp [hf0]
    have x60 := blk_cell hb6 0
    have x70 := blk_cell hb7 0
    have hBcw := hBc
    replace hl0 := Aside0.mk hl0
    replace hr := Aside0.mk hr
    go_upto_region 11 with (first | (go_at_call 16; ((with_reducible refine hbg.out.mono ?_); rintro e w4 ⟨rfl, hB4⟩; have z4 := Bel.cell hB4 z2)) | (go_at_call 15; ((with_reducible refine (hhp.out _ (hBcw.trans hB4)).mono ?_); rintro e w5 ⟨HA, hc, rfl, hH, -, hB5⟩)) | (go_at_call 17; ((with_reducible refine (hrt.out _ HA hc hH).mono ?_); rintro e w6 ⟨rfl, hB6⟩)))
    have hq6 := hB4.trans (hB5.trans hB6)
    replace hb6 := hq6.blk hb6
    replace hb7 := hq6.blk hb7
    replace hR2 := hR2.step hq6
    replace hR5 := hR5.step hq6
    have z6 := Bel.cell hq6 z2
    have x61 := blk_cell hb6 1
    clear x60 x70 z4 z2
    replace hf0 := Aside0.mk hf0
    go_wp2_with (go_at_call 13; (first | (with_reducible refine (hs2c.out _ ((hBc.trans hB4).trans (hB5.trans hB6))).mono ?_) | (with_reducible refine (hs5c.out _ (((hBc.trans hB4).trans (hB5.trans hB6)).trans hB7)).mono ?_)); (first | (rintro e w7 ⟨rfl, hB7⟩; have z7 := Bel.cell hB7 z6) | (rintro e w8 ⟨rfl, hB8⟩)))
    go_ret
    exact ⟨rfl, hBx3.trans (hq6.trans (hB7.trans hB8))⟩
   ·have hq : s2 = s5 := (hsame.out hf0).symm
    subst hq
    rw [hl0] at hb6 hR2 hc2 hl2 hb7 hR5 hc5 hl5
    have hbg := Begins_any EA2 EA5 ec2 ec5 l0 [] _ hR2 (by simpa using hR5) (by simpa using hc5) (by simpa using hl5)
    simp only [List.append_nil] at hbg
    replace hbg := Aside0.mk hbg
    have e3 : (s2.fin != 0) = true := by simp [hf0]
    have x60 := blk_cell hb6 0
    have x70 := blk_cell hb7 0
    have hBcw := hBc
    replace hl0 := Aside0.mk hl0
    replace hr := Aside0.mk hr
    go_upto_region 11 with (first | (go_at_call 16; ((with_reducible refine hbg.out.mono ?_); rintro e w4 ⟨rfl, hB4⟩; have z4 := Bel.cell hB4 z2)) | (go_at_call 15; ((with_reducible refine (hhp.out _ (hBcw.trans hB4)).mono ?_); rintro e w5 ⟨HA, hc, rfl, hH, -, hB5⟩)) | (go_at_call 17; ((with_reducible refine (hrt.out _ HA hc hH).mono ?_); rintro e w6 ⟨rfl, hB6⟩)))
    have hq6 := hB4.trans (hB5.trans hB6)
    replace hb6 := hq6.blk hb6
    replace hb7 := hq6.blk hb7
    replace hR2 := hR2.step hq6
    replace hR5 := hR5.step hq6
    have z6 := Bel.cell hq6 z2
    have x61 := blk_cell hb6 1
    clear x60 x70 z4 z2
    replace hf0 := Aside0.mk hf0
    go_upto_region 12 with (fail)
    have hBd : Bel w6 w6.drew := (Bel.refl w6).drewN 1
    have hB6w := hBcw.trans hq6
    have hS := Aside0.mk (fun (Y : World) (q : Bel w6 Y) => And.intro (Bel.cell q z6) (And.intro (Bel.cell q (show w6.cell? ⟨b6, 0, none⟩ = some (.slice EA2 l0.length ec2) from blk_cell hb6 0)) (And.intro (Bel.cell q (show w6.cell? ⟨b6, 1, none⟩ = some (.int .i64 s2.fin) from blk_cell hb6 1)) (And.intro (Bel.cell q (show w6.cell? ⟨b6, 2, none⟩ = some (.int .i64 s2.val) from blk_cell hb6 2)) (And.intro (Bel.cell q (show w6.cell? ⟨b6, 3, none⟩ = some (.int .i64 s2.code) from blk_cell hb6 3)) (And.intro (Bel.cell q (show w6.cell? ⟨b7, 0, none⟩ = some (.slice EA5 l0.length ec5) from blk_cell hb7 0)) (And.intro (Bel.cell q (show w6.cell? ⟨b7, 1, none⟩ = some (.int .i64 s2.fin) from blk_cell hb7 1)) (And.intro (Bel.cell q (show w6.cell? ⟨b7, 2, none⟩ = some (.int .i64 s2.val) from blk_cell hb7 2)) (Bel.cell q (show w6.cell? ⟨b7, 3, none⟩ = some (.int .i64 s2.code) from blk_cell hb7 3))))))))))
    have hsm := Aside0.mk (SameT_any EA2 EA5 ec2 ec5 l0 s2.fin s2.val s2.code w6.drew (hR2.step hBd) (hR5.step hBd) hl2)
    refine wp_region_held_drew (S := fun w' => w'.cell? ⟨g, 0, none⟩ = some (.slice PA N pc) ∧ w'.cell? ⟨b6, 0, none⟩ = some (.slice EA2 l0.length ec2) ∧ w'.cell? ⟨b6, 1, none⟩ = some (.int .i64 s2.fin) ∧ w'.cell? ⟨b6, 2, none⟩ = some (.int .i64 s2.val) ∧ w'.cell? ⟨b6, 3, none⟩ = some (.int .i64 s2.code) ∧ w'.cell? ⟨b7, 0, none⟩ = some (.slice EA5 l0.length ec5) ∧ w'.cell? ⟨b7, 1, none⟩ = some (.int .i64 s2.fin) ∧ w'.cell? ⟨b7, 2, none⟩ = some (.int .i64 s2.val) ∧ w'.cell? ⟨b7, 3, none⟩ = some (.int .i64 s2.code)) (by kernel_rfl) (hS.out _ hBd) (fun hHeld => ?_)
    refine takeH [0, 1] (by kernel_rfl) (by kernel_rfl) hHeld ?_
    iterate 2 (refine takeI (v := ?_) rfl rfl (fun _ _ _ h => h) (Or.inl ⟨by kernel_rfl, ?_⟩) ?_; rotate_left 1; focus (intro w hSw; (try dsimp only at hSw); go_simp; (try with_reducible rfl); done); try simp only [Act.put, z1, z2, z3, z4, z5, z6])
    refine takeE ?_
    try dsimp only
    refine wpAnyH_ready (rs := [2]) (by kernel_rfl) (by simp) ?_
    refine AllReadyH.cons rfl (fun K hK => ?_) AllReadyH.nil
    go_simp
    (go_at_call 11; refine hsm.out.mono ?_; rintro ex w7 ⟨rfl, hB7⟩)
    replace hB7 := hBd.trans hB7
    refine hK.out _ _ ?_ (fun hHeld => ?_)
    rotate_left 1
    clear hK K
    try simp only [Act.put, z1, z2, z3, z4, z5, z6]
    rotate_left 1
    ·exact hS.out _ hB7
    refine takeH [3, 4, 5, 7, 8] (by kernel_rfl) (by kernel_rfl) hHeld ?_
    iterate 5 (refine takeI (v := ?_) rfl rfl (fun _ _ _ h => h) (Or.inl ⟨by kernel_rfl, ?_⟩) ?_; rotate_left 1; focus (intro w hSw; (try dsimp only at hSw); go_simp; (try with_reducible rfl); done); try simp only [Act.put, z1, z2, z3, z4, z5, z6])
    refine takeE ?_
    try dsimp only
    refine wpAnyH_ready (rs := [6]) (by kernel_rfl) (by simp) ?_
    refine AllReadyH.cons rfl (fun K hK => ?_) AllReadyH.nil
    go_simp
    (go_at_call 13; refine (hs2c.out _ (hB6w.trans hB7)).mono ?_; rintro ex w8 ⟨rfl, hB8⟩)
    replace hB8 := hB7.trans hB8
    refine hK.out _ _ ?_ (fun hHeld => ?_)
    rotate_left 1
    clear hK K
    try simp only [Act.put, z1, z2, z3, z4, z5, z6]
    rotate_left 1
    ·exact hS.out _ hB8
    refine wpAnyH_ready (rs := [9]) (by kernel_rfl) (by simp) ?_
    refine AllReadyH.cons rfl (fun K hK => ?_) AllReadyH.nil
    go_simp
    (go_at_call 13; refine (hs5c.out _ (hB6w.trans hB8)).mono ?_; rintro ex w9 ⟨rfl, hB9⟩)
    replace hB9 := hB8.trans hB9
    refine hK.out _ _ ?_ (fun hHeld => ?_)
    rotate_left 1
    clear hK K
    try simp only [Act.put, z1, z2, z3, z4, z5, z6]
    rotate_left 1
    ·exact hS.out _ hB9
    refine takeH [10, 11, 12] (by kernel_rfl) (by kernel_rfl) hHeld ?_
    iterate 3 (refine takeI (v := ?_) rfl rfl (fun _ _ _ h => h) (Or.inl ⟨by kernel_rfl, ?_⟩) ?_; rotate_left 1; focus (intro w hSw; (try dsimp only at hSw); go_simp; (try with_reducible rfl); done); try simp only [Act.put, z1, z2, z3, z4, z5, z6])
    refine takeE ?_
    try dsimp only
    refine wpAnyH_done (by kernel_rfl) ?_ _
    go_wp2
    go_ret
    exact ⟨rfl, hBx3.trans (hq6.trans hB9)⟩
theorem RunBegins_row (A0 : Option Addr) (c0 : Nat) (l0 : List SFunc) (a b : Int) (w : World) (H0 : Rd kFunc w A0 l0) (_ : l0.length ≤ c0) (o0 : AProg l0) (a0 : 0 ≤ a) (a1 : a ≤ 65535) (b0 : 0 ≤ b) (b1 : b ≤ 65535) :
  Calls Try.prog 5 #[.agg #[.slice A0 l0.length c0], .agg #[.int .u16 a, .int .u16 b]] w fun e w' => e = .returned (.bool true) ∧ Bel w w' := RunBegins_walk ⟨l0⟩ A0 c0 a b w H0 ⟨o0⟩ a0 a1 b0 b1
end Go.Proofs.Ytodjpbidjldblaa.H
