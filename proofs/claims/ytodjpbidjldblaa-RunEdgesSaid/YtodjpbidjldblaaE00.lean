/- Texts joined. Conditions: each stands with its theorem. -/
import Derived.Test.YtodjpbidjldblaaZ06
namespace Go.Proofs.Ytodjpbidjldblaa.H
open Go.RowKit Go.Proofs.YtodjpbidjldblaaW.PrintWords Go.Proofs.YtodjpbidjldblaaW.PrintLast Go.Proofs.Ytodjpbidjldblaa.PRunEdges
open Go.Proofs.YtodjpbidjldblaaW.PrintMore
set_option linter.unusedVariables false
set_option linter.unusedSimpArgs false
set_option maxRecDepth 100000
attribute [local go_sem] min2_int min_two
theorem fuel_mn (n : Int) : fuelN (mn n 4000) = fuelN n := by
 unfold fuelN mn
 split
 ·simp
 ·rfl
theorem end_mn (p : SProg) (n : Int) : endL p (mn n 4000) = endL p n := by
 show runL p (fuelN (mn n 4000)) _ = _
 rw [fuel_mn]
set_option maxHeartbeats 8000000 in
theorem RunEdges_walk (p : SProg) (PA : Option Addr) (pc : Nat) (n : Int) (w : World) (hP : Rd kFunc w PA p.f0) (hA : Aside0 (AProg p.f0)) :
  Calls Try.prog 3 #[.agg #[.slice PA p.f0.length pc], .int .i64 n] w fun e w' => e = .returned (.bool true) ∧ Bel w w' := by
 by_cases c1 : (3000 : Int) < n
 ·by_cases c2 : n < 4000
  ·skip
   obtain ⟨g, hg⟩ : ∃ g, w.heap.size = g := ⟨_, rfl⟩
   have hB := (Bel.refl w).alloc (.cells #[.slice PA p.f0.length pc] 24)
   have hbp := heap_new' (o := .cells #[.slice PA p.f0.length pc] 24) hg.symm
   go_enter Try.func3, Try.ntmps3
   go_upto_region 1 with (fail)
   generalize w.alloc (.cells #[.slice PA p.f0.length pc] 24) = wa at hB hbp ⊢
   replace hg := Aside0.mk hg
   have hal := Aside0.mk (alive_any wa)
   have hot := Aside0.mk (fun (X : World) (q : Bel wa X) => out_any p PA pc X (hP.step (hB.trans q)) hA)
   obtain ⟨N, hN⟩ : ∃ N, p.f0.length = N := ⟨_, rfl⟩
   rw [hN] at hbp ⊢
   replace hN := Aside0.mk hN
   simp only [hN.out] at hot
   have y0 : wa.cell? ⟨g, 0, none⟩ = some (.slice PA N pc) := blk_cell hbp 0
   go_wp2_with (first | (go_at_call 8; ((with_reducible refine hal.out.mono ?_); rintro e w1 ⟨rfl, hB1⟩; have hb1 := hB1.blk hbp; have y1 := blk_cell hb1 0)) | (go_at_call 9; ((with_reducible refine (hot.out _ hB1).mono ?_); rintro e w2 ⟨ob, rfl, hpr, hB2⟩; have hb2 := hB2.blk hb1; have y2 := blk_cell hb2 0; cases ob)))
   all_goals
    go_ret
    exact ⟨rfl, hB.trans (hB1.trans hB2)⟩
  ·by_cases c3 : (4000 : Int) < n
   ·have e4 : endL p 4000 = endL p n := by rw [← end_mn p n]; unfold mn; rw [if_pos c3]
    obtain ⟨g, hg⟩ : ∃ g, w.heap.size = g := ⟨_, rfl⟩
    have hB := (Bel.refl w).alloc (.cells #[.slice PA p.f0.length pc] 24)
    have hbp := heap_new' (o := .cells #[.slice PA p.f0.length pc] 24) hg.symm
    go_enter Try.func3, Try.ntmps3
    go_upto_region 1 with (fail)
    generalize w.alloc (.cells #[.slice PA p.f0.length pc] 24) = wa at hB hbp ⊢
    replace hg := Aside0.mk hg
    have hal := Aside0.mk (alive_any wa)
    have hot := Aside0.mk (fun (X : World) (q : Bel wa X) => out_any p PA pc X (hP.step (hB.trans q)) hA)
    obtain ⟨N, hN⟩ : ∃ N, p.f0.length = N := ⟨_, rfl⟩
    rw [hN] at hbp ⊢
    replace hN := Aside0.mk hN
    simp only [hN.out] at hot
    have y0 : wa.cell? ⟨g, 0, none⟩ = some (.slice PA N pc) := blk_cell hbp 0
    go_upto_region 5 with (first | (go_at_call 8; ((with_reducible refine hal.out.mono ?_); rintro e w1 ⟨rfl, hB1⟩; have hb1 := hB1.blk hbp; have y1 := blk_cell hb1 0)) | (go_at_call 9; ((with_reducible refine (hot.out _ hB1).mono ?_); rintro e w2 ⟨ob, rfl, hpr, hB2⟩; have hb2 := hB2.blk hb1; have y2 := blk_cell hb2 0; cases ob)))
    rotate_left 1
    ·go_wp2
     go_ret
     exact ⟨rfl, hB.trans (hB1.trans hB2)⟩
    have hpp : Aside0 (ProgP p) := ⟨hpr (by first | trivial | rfl)⟩
    have hBx := hB.trans (hB1.trans hB2)
    obtain ⟨s, hs⟩ : ∃ s, endL p n = s := ⟨_, rfl⟩
    obtain ⟨hrp, hr0, hr1⟩ := run_start hpp.out (fuelN n)
    rw [show runL p (fuelN n) (startL p) = s from hs] at hrp hr0 hr1
    have hf4 : fuelN n ≤ 4000 := by unfold fuelN mn; split <;> omega
    have hgo : Aside0 (∀ X, Bel w2 X → Calls Try.prog 10 #[.agg #[.slice PA N pc], .int .i64 4000] X fun e W' => ∃ SA sl sc EA ec HA hc, e = .returned (.agg #[.slice SA sl sc, .slice HA s.heap.length hc, .slice EA s.evs.length ec, .int .i64 s.fin, .int .i64 s.val, .int .i64 s.code, .int .i64 s.steps]) ∧ RdI W' EA s.evs ∧ Rd kObj W' HA s.heap ∧ Bel X W') := ⟨fun X hX => by
     have h1 := Go_any p X PA pc ((hP.step hBx).step hX) hpp 4000
     unfold GoIs at h1
     rw [hN.out, e4, hs] at h1
     exact h1⟩
    have hst : Aside0 (∀ X, Bel w2 X → Calls Try.prog 13 #[.agg #[.slice PA N pc], .int .i64 n] X fun e W' => e = .returned (.int .i64 s.steps) ∧ Bel X W') := ⟨fun X hX => by
     have h1 := Steps_any p X PA pc ((hP.step hBx).step hX) hpp n
     rw [hN.out, hs] at h1
     exact h1⟩
    have hhp : Aside0 (∀ X, Bel w2 X → Calls Try.prog 15 #[.agg #[.slice PA N pc], .int .i64 n] X (HeapIs s.heap X)) := ⟨fun X hX => by
     have h1 := Heap_any p X PA pc ((hP.step hBx).step hX) hpp n
     rw [hN.out, hs] at h1
     exact h1⟩
    have hrn : Aside0 (∀ X, Bel w2 X → Calls Try.prog 12 #[.agg #[.slice PA N pc], .int .i64 n] X (TraceIs s X)) := ⟨fun X hX => by
     have h1 := Run_any p X PA pc ((hP.step hBx).step hX) hpp n
     rw [hN.out, hs] at h1
     exact h1⟩
    clear hpr hal hot y0 y1 hbp hb1
    have htl : s.evs.length ≤ 1000000 := by have := hrp.told; omega
    have hhl : s.heap.length ≤ 1000000 := by have := hrp.objs; omega
    have hh8 := Aside0.mk (fun o (ho : o ∈ s.heap) => (show o.f0.length ≤ 100000 ∧ o.f1.length ≤ 100000 from ⟨by have := (hrp.heap o ho).1; omega, by have := (hrp.heap o ho).2.1; omega⟩))
    replace hs := Aside0.mk hs
    clear hr0 hr1 hrp hf4
    go_upto_region 6 with (go_at_call 10; ((with_reducible refine (hgo.out _ (Bel.refl _)).mono ?_); rintro e w3 ⟨SA, sl, sc, EA, ec, HA, hc, rfl, hE, hH, hB3⟩))
    obtain ⟨b, hb⟩ : ∃ b, w3.heap.size = b := ⟨_, rfl⟩
    have hBc := hB3.trans ((Bel.refl w3).alloc (.cells #[.slice SA sl sc, .slice HA s.heap.length hc, .slice EA s.evs.length ec, .int .i64 s.fin, .int .i64 s.val, .int .i64 s.code, .int .i64 s.steps] 36))
    have hbS := heap_new' (o := .cells #[.slice SA sl sc, .slice HA s.heap.length hc, .slice EA s.evs.length ec, .int .i64 s.fin, .int .i64 s.val, .int .i64 s.code, .int .i64 s.steps] 36) hb.symm
    replace hE := hE.step ((Bel.refl w3).alloc (.cells #[.slice SA sl sc, .slice HA s.heap.length hc, .slice EA s.evs.length ec, .int .i64 s.fin, .int .i64 s.val, .int .i64 s.code, .int .i64 s.steps] 36))
    replace hH := hH.step ((Bel.refl w3).alloc (.cells #[.slice SA sl sc, .slice HA s.heap.length hc, .slice EA s.evs.length ec, .int .i64 s.fin, .int .i64 s.val, .int .i64 s.code, .int .i64 s.steps] 36))
    rw [hb]
    generalize w3.alloc (.cells #[.slice SA sl sc, .slice HA s.heap.length hc, .slice EA s.evs.length ec, .int .i64 s.fin, .int .i64 s.val, .int .i64 s.code, .int .i64 s.steps] 36) = wc at hBc hbS hE hH ⊢
    replace hb := Aside0.mk hb
    have hbg := hBc.blk hb2
    clear hgo y2 hB3
    have hS := Aside0.mk (fun (Y : World) (q : Bel wc Y) => And.intro (Bel.cell q (show wc.cell? ⟨g, 0, none⟩ = some (.slice PA N pc) from blk_cell hbg 0)) (And.intro (Bel.cell q (show wc.cell? ⟨b, 1, none⟩ = some (.slice HA s.heap.length hc) from blk_cell hbS 1)) (And.intro (Bel.cell q (show wc.cell? ⟨b, 2, none⟩ = some (.slice EA s.evs.length ec) from blk_cell hbS 2)) (And.intro (Bel.cell q (show wc.cell? ⟨b, 3, none⟩ = some (.int .i64 s.fin) from blk_cell hbS 3)) (And.intro (Bel.cell q (show wc.cell? ⟨b, 4, none⟩ = some (.int .i64 s.val) from blk_cell hbS 4)) (And.intro (Bel.cell q (show wc.cell? ⟨b, 5, none⟩ = some (.int .i64 s.code) from blk_cell hbS 5)) (Bel.cell q (show wc.cell? ⟨b, 6, none⟩ = some (.int .i64 s.steps) from blk_cell hbS 6))))))))
    have hBd : Bel wc wc.drew := (Bel.refl wc).drewN 1
    refine wp_region_held_drew (S := fun w' => w'.cell? ⟨g, 0, none⟩ = some (.slice PA N pc) ∧ w'.cell? ⟨b, 1, none⟩ = some (.slice HA s.heap.length hc) ∧ w'.cell? ⟨b, 2, none⟩ = some (.slice EA s.evs.length ec) ∧ w'.cell? ⟨b, 3, none⟩ = some (.int .i64 s.fin) ∧ w'.cell? ⟨b, 4, none⟩ = some (.int .i64 s.val) ∧ w'.cell? ⟨b, 5, none⟩ = some (.int .i64 s.code) ∧ w'.cell? ⟨b, 6, none⟩ = some (.int .i64 s.steps)) (by kernel_rfl) (hS.out _ hBd) (fun hHeld => ?_)
    refine takeH [0, 1, 3, 4] (by kernel_rfl) (by kernel_rfl) hHeld ?_
    iterate 4 (refine takeI (v := ?_) rfl rfl (fun _ _ _ h => h) (Or.inl ⟨by kernel_rfl, ?_⟩) ?_; rotate_left 1; focus (intro w hSw; (try dsimp only at hSw); go_simp; (try with_reducible rfl); done); try simp only [Act.put, z1, z2, z3, z4, z5, z6])
    refine takeE ?_
    try dsimp only
    refine wpAnyH_ready (rs := [2]) (by kernel_rfl) (by simp) ?_
    refine AllReadyH.cons rfl (fun K hK => ?_) AllReadyH.nil
    go_simp
    (go_at_call 12; refine (hrn.out _ (hBc.trans hBd)).mono ?_; rintro ex w4 ⟨EB, eb, rfl, hEB, -, hB4⟩)
    replace hB4 := hBd.trans hB4
    refine hK.out _ _ ?_ (fun hHeld => ?_)
    rotate_left 1
    clear hK K
    try simp only [Act.put, z1, z2, z3, z4, z5, z6]
    rotate_left 1
    ·exact hS.out _ hB4
    have hsm := Aside0.mk (SameT_any EB EA eb ec s.evs s.fin s.val s.code w4 hEB (hE.step hB4) htl)
    refine wpAnyH_ready (rs := [5]) (by kernel_rfl) (by simp) ?_
    refine AllReadyH.cons rfl (fun K hK => ?_) AllReadyH.nil
    go_simp
    (go_at_call 11; refine hsm.out.mono ?_; rintro ex w5 ⟨rfl, hB5⟩)
    replace hB5 := hB4.trans hB5
    refine hK.out _ _ ?_ (fun hHeld => ?_)
    rotate_left 1
    clear hK K
    try simp only [Act.put, z1, z2, z3, z4, z5, z6]
    rotate_left 1
    ·exact hS.out _ hB5
    refine takeH [6, 7, 8, 10, 11] (by kernel_rfl) (by kernel_rfl) hHeld ?_
    iterate 5 (refine takeI (v := ?_) rfl rfl (fun _ _ _ h => h) (Or.inl ⟨by kernel_rfl, ?_⟩) ?_; rotate_left 1; focus (intro w hSw; (try dsimp only at hSw); go_simp; (try with_reducible rfl); done); try simp only [Act.put, z1, z2, z3, z4, z5, z6])
    refine takeE ?_
    try dsimp only
    refine wpAnyH_ready (rs := [9]) (by kernel_rfl) (by simp) ?_
    refine AllReadyH.cons rfl (fun K hK => ?_) AllReadyH.nil
    go_simp
    (go_at_call 13; refine (hst.out _ (hBc.trans hB5)).mono ?_; rintro ex w6 ⟨rfl, hB6⟩)
    replace hB6 := hB5.trans hB6
    refine hK.out _ _ ?_ (fun hHeld => ?_)
    rotate_left 1
    clear hK K
    try simp only [Act.put, z1, z2, z3, z4, z5, z6]
    rotate_left 1
    ·exact hS.out _ hB6
    refine takeH [12, 13, 14] (by kernel_rfl) (by kernel_rfl) hHeld ?_
    iterate 3 (refine takeI (v := ?_) rfl rfl (fun _ _ _ h => h) (Or.inl ⟨by kernel_rfl, ?_⟩) ?_; rotate_left 1; focus (intro w hSw; (try dsimp only at hSw); go_simp; (try with_reducible rfl); done); try simp only [Act.put, z1, z2, z3, z4, z5, z6])
    refine takeE ?_
    try dsimp only
    refine wpAnyH_done (by kernel_rfl) ?_ _
    go_wp2
    go_ret
    exact ⟨rfl, hBx.trans (hBc.trans hB6)⟩
   ·skip
    obtain ⟨g, hg⟩ : ∃ g, w.heap.size = g := ⟨_, rfl⟩
    have hB := (Bel.refl w).alloc (.cells #[.slice PA p.f0.length pc] 24)
    have hbp := heap_new' (o := .cells #[.slice PA p.f0.length pc] 24) hg.symm
    go_enter Try.func3, Try.ntmps3
    go_upto_region 1 with (fail)
    generalize w.alloc (.cells #[.slice PA p.f0.length pc] 24) = wa at hB hbp ⊢
    replace hg := Aside0.mk hg
    have hal := Aside0.mk (alive_any wa)
    have hot := Aside0.mk (fun (X : World) (q : Bel wa X) => out_any p PA pc X (hP.step (hB.trans q)) hA)
    obtain ⟨N, hN⟩ : ∃ N, p.f0.length = N := ⟨_, rfl⟩
    rw [hN] at hbp ⊢
    replace hN := Aside0.mk hN
    simp only [hN.out] at hot
    have y0 : wa.cell? ⟨g, 0, none⟩ = some (.slice PA N pc) := blk_cell hbp 0
    go_upto_region 5 with (first | (go_at_call 8; ((with_reducible refine hal.out.mono ?_); rintro e w1 ⟨rfl, hB1⟩; have hb1 := hB1.blk hbp; have y1 := blk_cell hb1 0)) | (go_at_call 9; ((with_reducible refine (hot.out _ hB1).mono ?_); rintro e w2 ⟨ob, rfl, hpr, hB2⟩; have hb2 := hB2.blk hb1; have y2 := blk_cell hb2 0; cases ob)))
    rotate_left 1
    ·go_wp2
     go_ret
     exact ⟨rfl, hB.trans (hB1.trans hB2)⟩
    have hpp : Aside0 (ProgP p) := ⟨hpr (by first | trivial | rfl)⟩
    have hBx := hB.trans (hB1.trans hB2)
    obtain ⟨s, hs⟩ : ∃ s, endL p n = s := ⟨_, rfl⟩
    obtain ⟨hrp, hr0, hr1⟩ := run_start hpp.out (fuelN n)
    rw [show runL p (fuelN n) (startL p) = s from hs] at hrp hr0 hr1
    have hf4 : fuelN n ≤ 4000 := by unfold fuelN mn; split <;> omega
    have hgo : Aside0 (∀ X, Bel w2 X → Calls Try.prog 10 #[.agg #[.slice PA N pc], .int .i64 n] X fun e W' => ∃ SA sl sc EA ec HA hc, e = .returned (.agg #[.slice SA sl sc, .slice HA s.heap.length hc, .slice EA s.evs.length ec, .int .i64 s.fin, .int .i64 s.val, .int .i64 s.code, .int .i64 s.steps]) ∧ RdI W' EA s.evs ∧ Rd kObj W' HA s.heap ∧ Bel X W') := ⟨fun X hX => by
     have h1 := Go_any p X PA pc ((hP.step hBx).step hX) hpp n
     unfold GoIs at h1
     rw [hN.out, show endL p n = endL p n from rfl, hs] at h1
     exact h1⟩
    have hst : Aside0 (∀ X, Bel w2 X → Calls Try.prog 13 #[.agg #[.slice PA N pc], .int .i64 n] X fun e W' => e = .returned (.int .i64 s.steps) ∧ Bel X W') := ⟨fun X hX => by
     have h1 := Steps_any p X PA pc ((hP.step hBx).step hX) hpp n
     rw [hN.out, hs] at h1
     exact h1⟩
    have hhp : Aside0 (∀ X, Bel w2 X → Calls Try.prog 15 #[.agg #[.slice PA N pc], .int .i64 n] X (HeapIs s.heap X)) := ⟨fun X hX => by
     have h1 := Heap_any p X PA pc ((hP.step hBx).step hX) hpp n
     rw [hN.out, hs] at h1
     exact h1⟩
    have hrn : Aside0 (∀ X, Bel w2 X → Calls Try.prog 12 #[.agg #[.slice PA N pc], .int .i64 n] X (TraceIs s X)) := ⟨fun X hX => by
     have h1 := Run_any p X PA pc ((hP.step hBx).step hX) hpp n
     rw [hN.out, hs] at h1
     exact h1⟩
    clear hpr hal hot y0 y1 hbp hb1
    have htl : s.evs.length ≤ 1000000 := by have := hrp.told; omega
    have hhl : s.heap.length ≤ 1000000 := by have := hrp.objs; omega
    have hh8 := Aside0.mk (fun o (ho : o ∈ s.heap) => (show o.f0.length ≤ 100000 ∧ o.f1.length ≤ 100000 from ⟨by have := (hrp.heap o ho).1; omega, by have := (hrp.heap o ho).2.1; omega⟩))
    replace hs := Aside0.mk hs
    clear hr0 hr1 hrp hf4
    go_upto_region 6 with (go_at_call 10; ((with_reducible refine (hgo.out _ (Bel.refl _)).mono ?_); rintro e w3 ⟨SA, sl, sc, EA, ec, HA, hc, rfl, hE, hH, hB3⟩))
    obtain ⟨b, hb⟩ : ∃ b, w3.heap.size = b := ⟨_, rfl⟩
    have hBc := hB3.trans ((Bel.refl w3).alloc (.cells #[.slice SA sl sc, .slice HA s.heap.length hc, .slice EA s.evs.length ec, .int .i64 s.fin, .int .i64 s.val, .int .i64 s.code, .int .i64 s.steps] 36))
    have hbS := heap_new' (o := .cells #[.slice SA sl sc, .slice HA s.heap.length hc, .slice EA s.evs.length ec, .int .i64 s.fin, .int .i64 s.val, .int .i64 s.code, .int .i64 s.steps] 36) hb.symm
    replace hE := hE.step ((Bel.refl w3).alloc (.cells #[.slice SA sl sc, .slice HA s.heap.length hc, .slice EA s.evs.length ec, .int .i64 s.fin, .int .i64 s.val, .int .i64 s.code, .int .i64 s.steps] 36))
    replace hH := hH.step ((Bel.refl w3).alloc (.cells #[.slice SA sl sc, .slice HA s.heap.length hc, .slice EA s.evs.length ec, .int .i64 s.fin, .int .i64 s.val, .int .i64 s.code, .int .i64 s.steps] 36))
    rw [hb]
    generalize w3.alloc (.cells #[.slice SA sl sc, .slice HA s.heap.length hc, .slice EA s.evs.length ec, .int .i64 s.fin, .int .i64 s.val, .int .i64 s.code, .int .i64 s.steps] 36) = wc at hBc hbS hE hH ⊢
    replace hb := Aside0.mk hb
    have hbg := hBc.blk hb2
    clear hgo y2 hB3
    have hS := Aside0.mk (fun (Y : World) (q : Bel wc Y) => And.intro (Bel.cell q (show wc.cell? ⟨g, 0, none⟩ = some (.slice PA N pc) from blk_cell hbg 0)) (And.intro (Bel.cell q (show wc.cell? ⟨b, 1, none⟩ = some (.slice HA s.heap.length hc) from blk_cell hbS 1)) (And.intro (Bel.cell q (show wc.cell? ⟨b, 2, none⟩ = some (.slice EA s.evs.length ec) from blk_cell hbS 2)) (And.intro (Bel.cell q (show wc.cell? ⟨b, 3, none⟩ = some (.int .i64 s.fin) from blk_cell hbS 3)) (And.intro (Bel.cell q (show wc.cell? ⟨b, 4, none⟩ = some (.int .i64 s.val) from blk_cell hbS 4)) (And.intro (Bel.cell q (show wc.cell? ⟨b, 5, none⟩ = some (.int .i64 s.code) from blk_cell hbS 5)) (Bel.cell q (show wc.cell? ⟨b, 6, none⟩ = some (.int .i64 s.steps) from blk_cell hbS 6))))))))
    have hBd : Bel wc wc.drew := (Bel.refl wc).drewN 1
    refine wp_region_held_drew (S := fun w' => w'.cell? ⟨g, 0, none⟩ = some (.slice PA N pc) ∧ w'.cell? ⟨b, 1, none⟩ = some (.slice HA s.heap.length hc) ∧ w'.cell? ⟨b, 2, none⟩ = some (.slice EA s.evs.length ec) ∧ w'.cell? ⟨b, 3, none⟩ = some (.int .i64 s.fin) ∧ w'.cell? ⟨b, 4, none⟩ = some (.int .i64 s.val) ∧ w'.cell? ⟨b, 5, none⟩ = some (.int .i64 s.code) ∧ w'.cell? ⟨b, 6, none⟩ = some (.int .i64 s.steps)) (by kernel_rfl) (hS.out _ hBd) (fun hHeld => ?_)
    refine takeH [0, 1, 3, 4] (by kernel_rfl) (by kernel_rfl) hHeld ?_
    iterate 4 (refine takeI (v := ?_) rfl rfl (fun _ _ _ h => h) (Or.inl ⟨by kernel_rfl, ?_⟩) ?_; rotate_left 1; focus (intro w hSw; (try dsimp only at hSw); go_simp; (try with_reducible rfl); done); try simp only [Act.put, z1, z2, z3, z4, z5, z6])
    refine takeE ?_
    try dsimp only
    refine wpAnyH_ready (rs := [2]) (by kernel_rfl) (by simp) ?_
    refine AllReadyH.cons rfl (fun K hK => ?_) AllReadyH.nil
    go_simp
    (go_at_call 12; refine (hrn.out _ (hBc.trans hBd)).mono ?_; rintro ex w4 ⟨EB, eb, rfl, hEB, -, hB4⟩)
    replace hB4 := hBd.trans hB4
    refine hK.out _ _ ?_ (fun hHeld => ?_)
    rotate_left 1
    clear hK K
    try simp only [Act.put, z1, z2, z3, z4, z5, z6]
    rotate_left 1
    ·exact hS.out _ hB4
    have hsm := Aside0.mk (SameT_any EB EA eb ec s.evs s.fin s.val s.code w4 hEB (hE.step hB4) htl)
    refine wpAnyH_ready (rs := [5]) (by kernel_rfl) (by simp) ?_
    refine AllReadyH.cons rfl (fun K hK => ?_) AllReadyH.nil
    go_simp
    (go_at_call 11; refine hsm.out.mono ?_; rintro ex w5 ⟨rfl, hB5⟩)
    replace hB5 := hB4.trans hB5
    refine hK.out _ _ ?_ (fun hHeld => ?_)
    rotate_left 1
    clear hK K
    try simp only [Act.put, z1, z2, z3, z4, z5, z6]
    rotate_left 1
    ·exact hS.out _ hB5
    refine takeH [6, 7, 8, 10, 11] (by kernel_rfl) (by kernel_rfl) hHeld ?_
    iterate 5 (refine takeI (v := ?_) rfl rfl (fun _ _ _ h => h) (Or.inl ⟨by kernel_rfl, ?_⟩) ?_; rotate_left 1; focus (intro w hSw; (try dsimp only at hSw); go_simp; (try with_reducible rfl); done); try simp only [Act.put, z1, z2, z3, z4, z5, z6])
    refine takeE ?_
    try dsimp only
    refine wpAnyH_ready (rs := [9]) (by kernel_rfl) (by simp) ?_
    refine AllReadyH.cons rfl (fun K hK => ?_) AllReadyH.nil
    go_simp
    (go_at_call 13; refine (hst.out _ (hBc.trans hB5)).mono ?_; rintro ex w6 ⟨rfl, hB6⟩)
    replace hB6 := hB5.trans hB6
    refine hK.out _ _ ?_ (fun hHeld => ?_)
    rotate_left 1
    clear hK K
    try simp only [Act.put, z1, z2, z3, z4, z5, z6]
    rotate_left 1
    ·exact hS.out _ hB6
    refine takeH [12, 13, 14] (by kernel_rfl) (by kernel_rfl) hHeld ?_
    iterate 3 (refine takeI (v := ?_) rfl rfl (fun _ _ _ h => h) (Or.inl ⟨by kernel_rfl, ?_⟩) ?_; rotate_left 1; focus (intro w hSw; (try dsimp only at hSw); go_simp; (try with_reducible rfl); done); try simp only [Act.put, z1, z2, z3, z4, z5, z6])
    refine takeE ?_
    try dsimp only
    refine wpAnyH_done (by kernel_rfl) ?_ _
    go_wp2
    go_ret
    exact ⟨rfl, hBx.trans (hBc.trans hB6)⟩
 ·have c3 : ¬ (4000 : Int) < n := by omega
  obtain ⟨g, hg⟩ : ∃ g, w.heap.size = g := ⟨_, rfl⟩
  have hB := (Bel.refl w).alloc (.cells #[.slice PA p.f0.length pc] 24)
  have hbp := heap_new' (o := .cells #[.slice PA p.f0.length pc] 24) hg.symm
  go_enter Try.func3, Try.ntmps3
  go_upto_region 1 with (fail)
  generalize w.alloc (.cells #[.slice PA p.f0.length pc] 24) = wa at hB hbp ⊢
  replace hg := Aside0.mk hg
  have hal := Aside0.mk (alive_any wa)
  have hot := Aside0.mk (fun (X : World) (q : Bel wa X) => out_any p PA pc X (hP.step (hB.trans q)) hA)
  obtain ⟨N, hN⟩ : ∃ N, p.f0.length = N := ⟨_, rfl⟩
  rw [hN] at hbp ⊢
  replace hN := Aside0.mk hN
  simp only [hN.out] at hot
  have y0 : wa.cell? ⟨g, 0, none⟩ = some (.slice PA N pc) := blk_cell hbp 0
  go_upto_region 5 with (first | (go_at_call 8; ((with_reducible refine hal.out.mono ?_); rintro e w1 ⟨rfl, hB1⟩; have hb1 := hB1.blk hbp; have y1 := blk_cell hb1 0)) | (go_at_call 9; ((with_reducible refine (hot.out _ hB1).mono ?_); rintro e w2 ⟨ob, rfl, hpr, hB2⟩; have hb2 := hB2.blk hb1; have y2 := blk_cell hb2 0; cases ob)))
  rotate_left 1
  ·go_wp2
   go_ret
   exact ⟨rfl, hB.trans (hB1.trans hB2)⟩
  have hpp : Aside0 (ProgP p) := ⟨hpr (by first | trivial | rfl)⟩
  have hBx := hB.trans (hB1.trans hB2)
  obtain ⟨s, hs⟩ : ∃ s, endL p n = s := ⟨_, rfl⟩
  obtain ⟨hrp, hr0, hr1⟩ := run_start hpp.out (fuelN n)
  rw [show runL p (fuelN n) (startL p) = s from hs] at hrp hr0 hr1
  have hf4 : fuelN n ≤ 4000 := by unfold fuelN mn; split <;> omega
  have hgo : Aside0 (∀ X, Bel w2 X → Calls Try.prog 10 #[.agg #[.slice PA N pc], .int .i64 n] X fun e W' => ∃ SA sl sc EA ec HA hc, e = .returned (.agg #[.slice SA sl sc, .slice HA s.heap.length hc, .slice EA s.evs.length ec, .int .i64 s.fin, .int .i64 s.val, .int .i64 s.code, .int .i64 s.steps]) ∧ RdI W' EA s.evs ∧ Rd kObj W' HA s.heap ∧ Bel X W') := ⟨fun X hX => by
   have h1 := Go_any p X PA pc ((hP.step hBx).step hX) hpp n
   unfold GoIs at h1
   rw [hN.out, show endL p n = endL p n from rfl, hs] at h1
   exact h1⟩
  have hst : Aside0 (∀ X, Bel w2 X → Calls Try.prog 13 #[.agg #[.slice PA N pc], .int .i64 n] X fun e W' => e = .returned (.int .i64 s.steps) ∧ Bel X W') := ⟨fun X hX => by
   have h1 := Steps_any p X PA pc ((hP.step hBx).step hX) hpp n
   rw [hN.out, hs] at h1
   exact h1⟩
  have hhp : Aside0 (∀ X, Bel w2 X → Calls Try.prog 15 #[.agg #[.slice PA N pc], .int .i64 n] X (HeapIs s.heap X)) := ⟨fun X hX => by
   have h1 := Heap_any p X PA pc ((hP.step hBx).step hX) hpp n
   rw [hN.out, hs] at h1
   exact h1⟩
  have hrn : Aside0 (∀ X, Bel w2 X → Calls Try.prog 12 #[.agg #[.slice PA N pc], .int .i64 n] X (TraceIs s X)) := ⟨fun X hX => by
   have h1 := Run_any p X PA pc ((hP.step hBx).step hX) hpp n
   rw [hN.out, hs] at h1
   exact h1⟩
  clear hpr hal hot y0 y1 hbp hb1
  have htl : s.evs.length ≤ 1000000 := by have := hrp.told; omega
  have hhl : s.heap.length ≤ 1000000 := by have := hrp.objs; omega
  have hh8 := Aside0.mk (fun o (ho : o ∈ s.heap) => (show o.f0.length ≤ 100000 ∧ o.f1.length ≤ 100000 from ⟨by have := (hrp.heap o ho).1; omega, by have := (hrp.heap o ho).2.1; omega⟩))
  replace hs := Aside0.mk hs
  clear hr0 hr1 hrp hf4
  go_upto_region 6 with (go_at_call 10; ((with_reducible refine (hgo.out _ (Bel.refl _)).mono ?_); rintro e w3 ⟨SA, sl, sc, EA, ec, HA, hc, rfl, hE, hH, hB3⟩))
  obtain ⟨b, hb⟩ : ∃ b, w3.heap.size = b := ⟨_, rfl⟩
  have hBc := hB3.trans ((Bel.refl w3).alloc (.cells #[.slice SA sl sc, .slice HA s.heap.length hc, .slice EA s.evs.length ec, .int .i64 s.fin, .int .i64 s.val, .int .i64 s.code, .int .i64 s.steps] 36))
  have hbS := heap_new' (o := .cells #[.slice SA sl sc, .slice HA s.heap.length hc, .slice EA s.evs.length ec, .int .i64 s.fin, .int .i64 s.val, .int .i64 s.code, .int .i64 s.steps] 36) hb.symm
  replace hE := hE.step ((Bel.refl w3).alloc (.cells #[.slice SA sl sc, .slice HA s.heap.length hc, .slice EA s.evs.length ec, .int .i64 s.fin, .int .i64 s.val, .int .i64 s.code, .int .i64 s.steps] 36))
  replace hH := hH.step ((Bel.refl w3).alloc (.cells #[.slice SA sl sc, .slice HA s.heap.length hc, .slice EA s.evs.length ec, .int .i64 s.fin, .int .i64 s.val, .int .i64 s.code, .int .i64 s.steps] 36))
  rw [hb]
  generalize w3.alloc (.cells #[.slice SA sl sc, .slice HA s.heap.length hc, .slice EA s.evs.length ec, .int .i64 s.fin, .int .i64 s.val, .int .i64 s.code, .int .i64 s.steps] 36) = wc at hBc hbS hE hH ⊢
  replace hb := Aside0.mk hb
  have hbg := hBc.blk hb2
  clear hgo y2 hB3
  have hS := Aside0.mk (fun (Y : World) (q : Bel wc Y) => And.intro (Bel.cell q (show wc.cell? ⟨g, 0, none⟩ = some (.slice PA N pc) from blk_cell hbg 0)) (And.intro (Bel.cell q (show wc.cell? ⟨b, 1, none⟩ = some (.slice HA s.heap.length hc) from blk_cell hbS 1)) (And.intro (Bel.cell q (show wc.cell? ⟨b, 2, none⟩ = some (.slice EA s.evs.length ec) from blk_cell hbS 2)) (And.intro (Bel.cell q (show wc.cell? ⟨b, 3, none⟩ = some (.int .i64 s.fin) from blk_cell hbS 3)) (And.intro (Bel.cell q (show wc.cell? ⟨b, 4, none⟩ = some (.int .i64 s.val) from blk_cell hbS 4)) (And.intro (Bel.cell q (show wc.cell? ⟨b, 5, none⟩ = some (.int .i64 s.code) from blk_cell hbS 5)) (Bel.cell q (show wc.cell? ⟨b, 6, none⟩ = some (.int .i64 s.steps) from blk_cell hbS 6))))))))
  have hBd : Bel wc wc.drew := (Bel.refl wc).drewN 1
  refine wp_region_held_drew (S := fun w' => w'.cell? ⟨g, 0, none⟩ = some (.slice PA N pc) ∧ w'.cell? ⟨b, 1, none⟩ = some (.slice HA s.heap.length hc) ∧ w'.cell? ⟨b, 2, none⟩ = some (.slice EA s.evs.length ec) ∧ w'.cell? ⟨b, 3, none⟩ = some (.int .i64 s.fin) ∧ w'.cell? ⟨b, 4, none⟩ = some (.int .i64 s.val) ∧ w'.cell? ⟨b, 5, none⟩ = some (.int .i64 s.code) ∧ w'.cell? ⟨b, 6, none⟩ = some (.int .i64 s.steps)) (by kernel_rfl) (hS.out _ hBd) (fun hHeld => ?_)
  refine takeH [0, 1, 3, 4] (by kernel_rfl) (by kernel_rfl) hHeld ?_
  iterate 4 (refine takeI (v := ?_) rfl rfl (fun _ _ _ h => h) (Or.inl ⟨by kernel_rfl, ?_⟩) ?_; rotate_left 1; focus (intro w hSw; (try dsimp only at hSw); go_simp; (try with_reducible rfl); done); try simp only [Act.put, z1, z2, z3, z4, z5, z6])
  refine takeE ?_
  try dsimp only
  refine wpAnyH_ready (rs := [2]) (by kernel_rfl) (by simp) ?_
  refine AllReadyH.cons rfl (fun K hK => ?_) AllReadyH.nil
  go_simp
  (go_at_call 12; refine (hrn.out _ (hBc.trans hBd)).mono ?_; rintro ex w4 ⟨EB, eb, rfl, hEB, -, hB4⟩)
  replace hB4 := hBd.trans hB4
  refine hK.out _ _ ?_ (fun hHeld => ?_)
  rotate_left 1
  clear hK K
  try simp only [Act.put, z1, z2, z3, z4, z5, z6]
  rotate_left 1
  ·exact hS.out _ hB4
  have hsm := Aside0.mk (SameT_any EB EA eb ec s.evs s.fin s.val s.code w4 hEB (hE.step hB4) htl)
  refine wpAnyH_ready (rs := [5]) (by kernel_rfl) (by simp) ?_
  refine AllReadyH.cons rfl (fun K hK => ?_) AllReadyH.nil
  go_simp
  (go_at_call 11; refine hsm.out.mono ?_; rintro ex w5 ⟨rfl, hB5⟩)
  replace hB5 := hB4.trans hB5
  refine hK.out _ _ ?_ (fun hHeld => ?_)
  rotate_left 1
  clear hK K
  try simp only [Act.put, z1, z2, z3, z4, z5, z6]
  rotate_left 1
  ·exact hS.out _ hB5
  refine takeH [6, 7, 8, 10, 11] (by kernel_rfl) (by kernel_rfl) hHeld ?_
  iterate 5 (refine takeI (v := ?_) rfl rfl (fun _ _ _ h => h) (Or.inl ⟨by kernel_rfl, ?_⟩) ?_; rotate_left 1; focus (intro w hSw; (try dsimp only at hSw); go_simp; (try with_reducible rfl); done); try simp only [Act.put, z1, z2, z3, z4, z5, z6])
  refine takeE ?_
  try dsimp only
  refine wpAnyH_ready (rs := [9]) (by kernel_rfl) (by simp) ?_
  refine AllReadyH.cons rfl (fun K hK => ?_) AllReadyH.nil
  go_simp
  (go_at_call 13; refine (hst.out _ (hBc.trans hB5)).mono ?_; rintro ex w6 ⟨rfl, hB6⟩)
  replace hB6 := hB5.trans hB6
  refine hK.out _ _ ?_ (fun hHeld => ?_)
  rotate_left 1
  clear hK K
  try simp only [Act.put, z1, z2, z3, z4, z5, z6]
  rotate_left 1
  ·exact hS.out _ hB6
  refine takeH [12, 13, 14] (by kernel_rfl) (by kernel_rfl) hHeld ?_
  iterate 3 (refine takeI (v := ?_) rfl rfl (fun _ _ _ h => h) (Or.inl ⟨by kernel_rfl, ?_⟩) ?_; rotate_left 1; focus (intro w hSw; (try dsimp only at hSw); go_simp; (try with_reducible rfl); done); try simp only [Act.put, z1, z2, z3, z4, z5, z6])
  refine takeE ?_
  try dsimp only
  refine wpAnyH_done (by kernel_rfl) ?_ _
  go_wp2
  go_ret
  exact ⟨rfl, hBx.trans (hBc.trans hB6)⟩
theorem RunEdges_row (A0 : Option Addr) (c0 : Nat) (l0 : List SFunc) (n : Int) (w : World) (H0 : Rd kFunc w A0 l0) (_ : l0.length ≤ c0) (o0 : AProg l0) (n0 : -9223372036854775808 ≤ n) (n1 : n ≤ 9223372036854775807) :
  Calls Try.prog 3 #[.agg #[.slice A0 l0.length c0], .int .i64 n] w fun e w' => e = .returned (.bool true) ∧ Bel w w' := RunEdges_walk ⟨l0⟩ A0 c0 n w H0 ⟨o0⟩
end Go.Proofs.Ytodjpbidjldblaa.H
