/- Texts of this work, joined. Conditions: each stands with its theorem. -/
import Derived.Test.YtodjpbidjldblaaX16
import Derived.Test.YtodjpbidjldblaaX01
/- Layer 1, law10: a run's heap is right, and has no more objects, and tells no more numbers, than steps were taken. -/
namespace Go.Proofs.Ytodjpbidjldblaa.H
open Go.RowKit Go.Proofs.YtodjpbidjldblaaW.PrintWords Go.Proofs.YtodjpbidjldblaaW.PrintLast Go.Proofs.Ytodjpbidjldblaa.PRunEdges
set_option linter.unusedVariables false
set_option linter.unusedSimpArgs false
set_option maxRecDepth 100000
/-- a run's heap lies in no block that was there ahead -/
def HeapFar (l : List SObj) (w : World) (e : Ending) (W' : World) : Prop := ∃ HA hc, e = .returned (.agg #[.slice HA l.length hc]) ∧ Rd kObj W' HA l ∧ (∀ (b : Nat) (W2 : World), b < w.heap.size → KO b W' W2 → Rd kObj W2 HA l) ∧ Bel w W'
set_option maxHeartbeats 2000000 in
theorem Heap_far (p : SProg) (w : World) (PA : Option Addr) (pc : Nat) (hP : Rd kFunc w PA p.f0) (hp : Aside0 (ProgP p)) (n : Int) : Calls Try.prog 15 #[.agg #[.slice PA p.f0.length pc], .int .i64 n] w (HeapFar (endL p n).heap w) := by
  obtain ⟨g, hg⟩ : ∃ g, w.heap.size = g := ⟨_, rfl⟩
  have hB : Bel w ((w.alloc (.cells #[.slice PA p.f0.length pc] 24)).alloc (.cells #[.slice none 0 0] 30)) := ((Bel.refl w).alloc _).alloc _
  have hb0 : ((w.alloc (.cells #[.slice PA p.f0.length pc] 24)).alloc (.cells #[.slice none 0 0] 30)).heap[g]? = some (.cells #[.slice PA p.f0.length pc] 24 (0, 0)) := heap_old (heap_new' hg.symm)
  have hb1 : ((w.alloc (.cells #[.slice PA p.f0.length pc] 24)).alloc (.cells #[.slice none 0 0] 30)).heap[g + 1]? = some (.cells #[.slice none 0 0] 30 (0, 0)) := heap_new' (by simp [hg])
  obtain ⟨s, hs⟩ : ∃ s, endL p n = s := ⟨_, rfl⟩
  rw [hs]
  replace hs := Aside0.mk hs
  go_enter Try.func15, Try.ntmps15
  go_upto_region 1 with (fail)
  generalize (w.alloc (.cells #[.slice PA p.f0.length pc] 24)).alloc (.cells #[.slice none 0 0] 30) = wa at hB hb0 hb1 ⊢
  have hpl := Aside0.mk (play_any p wa PA pc (hP.step hB) hp n)
  have z0 : wa.cell? ⟨g, 0, none⟩ = some (.slice PA p.f0.length pc) := blk_cell hb0 0
  replace hg := Aside0.mk hg
  go_wp2_with (go_at_call 24; ((with_reducible refine hpl.out.mono ?_); rintro e w2 ⟨mb, fs, sv, ev, hv, S, rfl, hC⟩; rw [show runL p (fuelN n) (startL p) = s from hs.out] at hC; obtain ⟨HA, hc, rfl, hhc, hF⟩ := hC.heap.reads; obtain ⟨PA2, pc2, hb, _⟩ := hC.blk; have z2 : w2.cell? ⟨mb, 2, none⟩ = some (.slice HA s.heap.length hc) := blk_cell hb 2; have hb2 := hC.bel.blk hb1; have x0 := blk_frozen hb2 0; have y0 : w2.cell? ⟨g + 1, 0, none⟩ = some (.slice none 0 0) := blk_cell hb2 0; have hp4 := Aside0.mk (blk_set hb2 0 (.slice HA s.heap.length hc))))
  refine bodyPost_ret (results_cell_row rfl _ _ (g + 1) 30 #[.slice HA s.heap.length hc] (0, 0) _ rfl (hp4.out.trans rfl) Try.underlying30 rfl (by kernel_rfl)) rfl ?_
  have hlt := blk_lt hb1
  have hk := KO.set (g + 1) 0 w2 (.slice HA s.heap.length hc)
  have hV := (HV.mk hF hhc).ko hk (hC.old (g + 1) hlt)
  obtain ⟨A9, c9, e9, _, hF9⟩ := hV.reads
  injection e9 with e9
  subst e9
  refine ⟨HA, hc, rfl, hF9.rd, fun b W2 hb hK => ?_, hk.bel (hB.trans hC.bel) (by have := hg.out; omega)⟩
  obtain ⟨A8, c8, e8, _, hF8⟩ := (hV.ko hK (hC.old b (Nat.lt_of_lt_of_le hb hB.size))).reads
  injection e8 with e8
  subst e8
  exact hF8.rd
theorem trap_eq {s : VSt} {p : SProg} (h : RunP p s) : ((s.fin == 2) == (s.code != 0)) = true := by
  by_cases q : s.fin = 2
  · have := h.trap.1 q
    simp [q, this]
  · have : s.code = 0 := by
      by_cases c : s.code = 0
      · exact c
      · exact absurd (h.trap.2 c) q
    simp [q, this]
set_option maxHeartbeats 8000000 in
theorem RunHeap_walk (p : SProg) (PA : Option Addr) (pc : Nat) (n : Int) (w : World) (hP : Rd kFunc w PA p.f0) (hA : Aside0 (AProg p.f0)) (n0 : 0 ≤ n) (n1 : n ≤ 65535) :
    Calls Try.prog 6 #[.agg #[.slice PA p.f0.length pc], .int .u16 n] w fun e w' => e = .returned (.bool true) ∧ Bel w w' := by
  have ew : IntKind.i64.wrap n = n := by rw [IntKind.wrap_i64]; omega
  obtain ⟨g, hg⟩ : ∃ g, w.heap.size = g := ⟨_, rfl⟩
  have hB := (Bel.refl w).alloc (.cells #[.slice PA p.f0.length pc] 24)
  have hbp := heap_new' (o := .cells #[.slice PA p.f0.length pc] 24) hg.symm
  go_enter Try.func6, Try.ntmps6
  go_upto_region 1 with (fail)
  generalize w.alloc (.cells #[.slice PA p.f0.length pc] 24) = wa at hB hbp ⊢
  replace hg := Aside0.mk hg
  have hal := Aside0.mk (alive_any wa)
  have hot := Aside0.mk (fun (X : World) (q : Bel wa X) => out_any p PA pc X (hP.step (hB.trans q)) hA)
  obtain ⟨N, hN⟩ : ∃ N, p.f0.length = N := ⟨_, rfl⟩
  rw [hN] at hbp ⊢
  replace hN := Aside0.mk hN
  simp only [hN.out] at hot
  have y0 : wa.cell? ⟨g, 0, none⟩ = some (.slice PA N pc) := blk_cell hbp 0
  go_wp2_with (first | (go_at_call 8; ((with_reducible refine hal.out.mono ?_); rintro e w1 ⟨rfl, hB1⟩; have hb1 := hB1.blk hbp; have y1 := blk_cell hb1 0)) | (go_at_call 9; ((with_reducible refine (hot.out _ hB1).mono ?_); rintro e w2 ⟨ob, rfl, hpr, hB2⟩; have hb2 := hB2.blk hb1; have y2 := blk_cell hb2 0; cases ob)))
  rotate_left 1
  · go_ret
    exact ⟨rfl, hB.trans (hB1.trans hB2)⟩
  have hpp : Aside0 (ProgP p) := ⟨hpr (by first | trivial | rfl)⟩
  have hBx := hB.trans (hB1.trans hB2)
  obtain ⟨m, hm⟩ : ∃ m, n % 1000 = m := ⟨_, rfl⟩
  have hm0 : 0 ≤ m := by omega
  have hm1 : m < 1000 := by omega
  obtain ⟨s, hs⟩ : ∃ s, endL p m = s := ⟨_, rfl⟩
  have hfu : fuelN m = m.toNat := by unfold fuelN mn; rw [if_neg (by omega)]
  obtain ⟨hrp, hr0, hr1⟩ := run_start hpp.out (fuelN m)
  rw [show runL p (fuelN m) (startL p) = s from hs] at hrp hr0 hr1
  have hst : Aside0 (∀ X, Bel w2 X → Calls Try.prog 13 #[.agg #[.slice PA N pc], .int .i64 m] X fun e W' => e = .returned (.int .i64 s.steps) ∧ Bel X W') := ⟨fun X hX => by
    have h1 := Steps_any p X PA pc ((hP.step hBx).step hX) hpp m
    rw [hN.out, hs] at h1
    exact h1⟩
  have hhp : Aside0 (∀ X, Bel w2 X → Calls Try.prog 15 #[.agg #[.slice PA N pc], .int .i64 m] X (HeapFar s.heap X)) := ⟨fun X hX => by
    have h1 := Heap_far p X PA pc ((hP.step hBx).step hX) hpp m
    rw [hN.out, hs] at h1
    exact h1⟩
  have hrn : Aside0 (∀ X, Bel w2 X → Calls Try.prog 12 #[.agg #[.slice PA N pc], .int .i64 m] X (TraceIs s X)) := ⟨fun X hX => by
    have h1 := Run_any p X PA pc ((hP.step hBx).step hX) hpp m
    rw [hN.out, hs] at h1
    exact h1⟩
  clear hpr hal hot y0 y1 hbp hb1
  have hfu2 : (s.steps : Int) ≤ m := by omega
  have hob := hrp.objs
  have htl := hrp.told
  have hhl : s.heap.length ≤ 1000000000 := by omega
  have hhv := Aside0.mk hrp.heap
  replace hs := Aside0.mk hs
  replace hrp := Aside0.mk hrp
  go_upto_region 6 with (fail)
  rw [hm]
  replace hm := Aside0.mk hm
  go_cut [6, 7, 16, 17, 18, 19, 20, 21] (fun v6 v7 _ _ _ _ _ _ W => ∃ b HA hc, v6 = .pointer (some ⟨b, 0, none⟩) ∧ v7 = .int .i64 s.steps ∧ W.heap[b]? = some (.cells #[.slice HA s.heap.length hc] 30 (0, 0)) ∧ Rd kObj W HA s.heap ∧ Bel w2 W)
  case first =>
    have hBd : Bel w2 w2.drew := (Bel.refl w2).drewN 1
    refine wp_region_held_drew (S := fun w' => Bel w2 w' ∧ w'.cell? ⟨g, 0, none⟩ = some (.slice PA N pc)) (by kernel_rfl) ⟨hBd, Bel.cell hBd y2⟩ (fun hHeld => ?_)
    refine wpAnyH_take (i := 0) (v := ?_) rfl (by kernel_rfl) (by kernel_rfl) (by kernel_rfl) (fun _ _ _ h => h) (Or.inl ⟨by kernel_rfl, ?_⟩) hHeld ?_
    rotate_left 1
    focus (intro w hSw; (try dsimp only at hSw); go_simp; (try with_reducible rfl); done)
    try simp only [Act.put, List.getElem_toArray, List.getElem_cons_zero, List.getElem_cons_succ, List.setIfInBounds_toArray, List.set_cons_zero, List.set_cons_succ]
    refine wpAnyH_take (i := 1) (v := ?_) rfl (by kernel_rfl) (by kernel_rfl) (by kernel_rfl) (fun _ _ _ h => h) (Or.inl ⟨by kernel_rfl, ?_⟩) hHeld ?_
    rotate_left 1
    focus (intro w hSw; (try dsimp only at hSw); go_simp; (try with_reducible rfl); done)
    try simp only [Act.put, List.getElem_toArray, List.getElem_cons_zero, List.getElem_cons_succ, List.setIfInBounds_toArray, List.set_cons_zero, List.set_cons_succ]
    refine wpAnyH_take (i := 3) (v := ?_) rfl (by kernel_rfl) (by kernel_rfl) (by kernel_rfl) (fun _ _ _ h => h) (Or.inl ⟨by kernel_rfl, ?_⟩) hHeld ?_
    rotate_left 1
    focus (intro w hSw; (try dsimp only at hSw); go_simp; (try with_reducible rfl); done)
    try simp only [Act.put, List.getElem_toArray, List.getElem_cons_zero, List.getElem_cons_succ, List.setIfInBounds_toArray, List.set_cons_zero, List.set_cons_succ]
    refine wpAnyH_take (i := 4) (v := ?_) rfl (by kernel_rfl) (by kernel_rfl) (by kernel_rfl) (fun _ _ _ h => h) (Or.inl ⟨by kernel_rfl, ?_⟩) hHeld ?_
    rotate_left 1
    focus (intro w hSw; (try dsimp only at hSw); go_simp; (try with_reducible rfl); done)
    try simp only [Act.put, List.getElem_toArray, List.getElem_cons_zero, List.getElem_cons_succ, List.setIfInBounds_toArray, List.set_cons_zero, List.set_cons_succ]
    refine wpAnyH_ready (rs := [2, 6]) (by kernel_rfl) (by simp) ?_
    refine AllReadyH.cons rfl (fun K hK => ?_) (AllReadyH.cons rfl (fun K hK => ?_) AllReadyH.nil)
    · go_simp
      (go_at_call 15; refine (hhp.out _ hBd).mono ?_; rintro ex w3 ⟨HA, hc, rfl, hR, hfar, hBa⟩)
      replace hBa := hBd.trans hBa
      refine hK.out _ _ ?_ (fun hHeld => ?_)
      rotate_left 1
      clear hK K
      try simp only [Act.put, List.getElem_toArray, List.getElem_cons_zero, List.getElem_cons_succ, List.setIfInBounds_toArray, List.set_cons_zero, List.set_cons_succ]
      rotate_left 1
      · exact ⟨hBa, Bel.cell hBa y2⟩
      refine wpAnyH_ready (rs := [5, 6]) (by kernel_rfl) (by simp) ?_
      refine AllReadyH.cons rfl (fun K hK => ?_) (AllReadyH.cons rfl (fun K hK => ?_) AllReadyH.nil)
      · go_simp
        (go_at_call 13; refine (hst.out _ hBa).mono ?_; rintro ex w4 ⟨rfl, hBb⟩)
        have hBc := hBa.trans hBb
        refine hK.out _ _ ?_ (fun hHeld => ?_)
        rotate_left 1
        clear hK K
        try simp only [Act.put, List.getElem_toArray, List.getElem_cons_zero, List.getElem_cons_succ, List.setIfInBounds_toArray, List.set_cons_zero, List.set_cons_succ]
        rotate_left 1
        · exact ⟨hBc, Bel.cell hBc y2⟩
        refine wpAnyH_ready (rs := [6]) (by kernel_rfl) (by simp) ?_
        refine AllReadyH.cons rfl (fun K hK => ?_) AllReadyH.nil
        go_simp
        obtain ⟨b, hb⟩ : ∃ b, (w4).heap.size = b := ⟨_, rfl⟩
        have hBz := hBc.trans ((Bel.refl (w4)).alloc (.cells #[.slice none 0 0] 30))
        have hbz := heap_new' (o := .cells #[.slice none 0 0] 30) hb.symm
        have hbg : w2.heap.size ≤ b := by rw [← hb]; exact (hBc).size
        have hz3 := hBb.trans ((Bel.refl w4).alloc (.cells #[.slice none 0 0] 30)); have hb3 : w3.heap.size ≤ b := by rw [← hb]; exact hBb.size
        rw [hb]
        generalize (w4).alloc (.cells #[.slice none 0 0] 30) = wz at hBz hbz hz3 ⊢
        refine hK.out _ _ ?_ (fun hHeld => ?_)
        rotate_left 1
        clear hK K
        try simp only [Act.put, List.getElem_toArray, List.getElem_cons_zero, List.getElem_cons_succ, List.setIfInBounds_toArray, List.set_cons_zero, List.set_cons_succ]
        rotate_left 1
        · exact ⟨hBz, Bel.cell hBz y2⟩
        have q0 := blk_frozen hbz 0
        have q1 : (wz).cell? ⟨b, 0, none⟩ = some (.slice none 0 0) := blk_cell hbz 0
        refine wpAnyH_ready (rs := [7]) (by kernel_rfl) (by simp) ?_
        refine AllReadyH.cons rfl (fun K hK => ?_) AllReadyH.nil
        go_simp
        have hKb := KO.set b 0 (wz) (.slice HA s.heap.length hc)
        have hBk := hKb.bel hBz hbg
        refine hK.out _ _ ?_ (fun hHeld => ?_)
        rotate_left 1
        clear hK K
        try simp only [Act.put, List.getElem_toArray, List.getElem_cons_zero, List.getElem_cons_succ, List.setIfInBounds_toArray, List.set_cons_zero, List.set_cons_succ]
        rotate_left 1
        · exact ⟨hBk, Bel.cell hBk y2⟩
        refine wpAnyH_take (i := 8) (v := ?_) rfl (by kernel_rfl) (by kernel_rfl) (by kernel_rfl) (fun _ _ _ h => h) (Or.inl ⟨by kernel_rfl, ?_⟩) hHeld ?_
        rotate_left 1
        focus (intro w hSw; (try dsimp only at hSw); go_simp; (try with_reducible rfl); done)
        try simp only [Act.put, List.getElem_toArray, List.getElem_cons_zero, List.getElem_cons_succ, List.setIfInBounds_toArray, List.set_cons_zero, List.set_cons_succ]
        refine wpAnyH_done (by kernel_rfl) ?_ _
        go_wp2
        go_meet
        case rel => exact ⟨b, HA, hc, rfl, rfl, (blk_set hbz 0 _).trans rfl, hR.step (hKb.bel hz3 hb3), hBk⟩
      · go_simp
        obtain ⟨b, hb⟩ : ∃ b, (w3).heap.size = b := ⟨_, rfl⟩
        have hBz := hBa.trans ((Bel.refl (w3)).alloc (.cells #[.slice none 0 0] 30))
        have hbz := heap_new' (o := .cells #[.slice none 0 0] 30) hb.symm
        have hbg : w2.heap.size ≤ b := by rw [← hb]; exact (hBa).size
        have hz3 := (Bel.refl w3).alloc (.cells #[.slice none 0 0] 30); have hb3 : w3.heap.size ≤ b := by rw [← hb]; exact Nat.le_refl _
        rw [hb]
        generalize (w3).alloc (.cells #[.slice none 0 0] 30) = wz at hBz hbz hz3 ⊢
        refine hK.out _ _ ?_ (fun hHeld => ?_)
        rotate_left 1
        clear hK K
        try simp only [Act.put, List.getElem_toArray, List.getElem_cons_zero, List.getElem_cons_succ, List.setIfInBounds_toArray, List.set_cons_zero, List.set_cons_succ]
        rotate_left 1
        · exact ⟨hBz, Bel.cell hBz y2⟩
        refine wpAnyH_ready (rs := [5]) (by kernel_rfl) (by simp) ?_
        refine AllReadyH.cons rfl (fun K hK => ?_) AllReadyH.nil
        go_simp
        (go_at_call 13; refine (hst.out _ hBz).mono ?_; rintro ex w4 ⟨rfl, hBb⟩)
        replace hbz := hBb.blk hbz
        replace hBz := hBz.trans hBb
        replace hz3 := hz3.trans hBb
        refine hK.out _ _ ?_ (fun hHeld => ?_)
        rotate_left 1
        clear hK K
        try simp only [Act.put, List.getElem_toArray, List.getElem_cons_zero, List.getElem_cons_succ, List.setIfInBounds_toArray, List.set_cons_zero, List.set_cons_succ]
        rotate_left 1
        · exact ⟨hBz, Bel.cell hBz y2⟩
        have q0 := blk_frozen hbz 0
        have q1 : (w4).cell? ⟨b, 0, none⟩ = some (.slice none 0 0) := blk_cell hbz 0
        refine wpAnyH_ready (rs := [7]) (by kernel_rfl) (by simp) ?_
        refine AllReadyH.cons rfl (fun K hK => ?_) AllReadyH.nil
        go_simp
        have hKb := KO.set b 0 (w4) (.slice HA s.heap.length hc)
        have hBk := hKb.bel hBz hbg
        refine hK.out _ _ ?_ (fun hHeld => ?_)
        rotate_left 1
        clear hK K
        try simp only [Act.put, List.getElem_toArray, List.getElem_cons_zero, List.getElem_cons_succ, List.setIfInBounds_toArray, List.set_cons_zero, List.set_cons_succ]
        rotate_left 1
        · exact ⟨hBk, Bel.cell hBk y2⟩
        refine wpAnyH_take (i := 8) (v := ?_) rfl (by kernel_rfl) (by kernel_rfl) (by kernel_rfl) (fun _ _ _ h => h) (Or.inl ⟨by kernel_rfl, ?_⟩) hHeld ?_
        rotate_left 1
        focus (intro w hSw; (try dsimp only at hSw); go_simp; (try with_reducible rfl); done)
        try simp only [Act.put, List.getElem_toArray, List.getElem_cons_zero, List.getElem_cons_succ, List.setIfInBounds_toArray, List.set_cons_zero, List.set_cons_succ]
        refine wpAnyH_done (by kernel_rfl) ?_ _
        go_wp2
        go_meet
        case rel => exact ⟨b, HA, hc, rfl, rfl, (blk_set hbz 0 _).trans rfl, hR.step (hKb.bel hz3 hb3), hBk⟩
    · go_simp
      obtain ⟨b, hb⟩ : ∃ b, w2.heap.size = b := ⟨_, rfl⟩
      have hBz : Bel w2 (w2.alloc (.cells #[.slice none 0 0] 30)).drew := ((Bel.refl w2).alloc _).drewN 1
      have hbz : (w2.alloc (.cells #[.slice none 0 0] 30)).drew.heap[b]? = some (.cells #[.slice none 0 0] 30 (0, 0)) := heap_new' (W := w2) hb.symm
      have hbg : w2.heap.size ≤ b := by rw [← hb]; exact Nat.le_refl _
      rw [hb]
      generalize (w2.alloc (.cells #[.slice none 0 0] 30)).drew = wz at hBz hbz ⊢
      refine hK.out _ _ ?_ (fun hHeld => ?_)
      rotate_left 1
      clear hK K
      try simp only [Act.put, List.getElem_toArray, List.getElem_cons_zero, List.getElem_cons_succ, List.setIfInBounds_toArray, List.set_cons_zero, List.set_cons_succ]
      rotate_left 1
      · exact ⟨hBz, Bel.cell hBz y2⟩
      refine wpAnyH_ready (rs := [2]) (by kernel_rfl) (by simp) ?_
      refine AllReadyH.cons rfl (fun K hK => ?_) AllReadyH.nil
      go_simp
      (go_at_call 15; refine (hhp.out _ hBz).mono ?_; rintro ex w3 ⟨HA, hc, rfl, hR, hfar, hBa⟩)
      have hlt := blk_lt hbz
      replace hbz := hBa.blk hbz
      replace hBz := hBz.trans hBa
      refine hK.out _ _ ?_ (fun hHeld => ?_)
      rotate_left 1
      clear hK K
      try simp only [Act.put, List.getElem_toArray, List.getElem_cons_zero, List.getElem_cons_succ, List.setIfInBounds_toArray, List.set_cons_zero, List.set_cons_succ]
      rotate_left 1
      · exact ⟨hBz, Bel.cell hBz y2⟩
      refine wpAnyH_ready (rs := [5]) (by kernel_rfl) (by simp) ?_
      refine AllReadyH.cons rfl (fun K hK => ?_) AllReadyH.nil
      go_simp
      (go_at_call 13; refine (hst.out _ hBz).mono ?_; rintro ex w4 ⟨rfl, hBb⟩)
      have hlt3 := blk_lt hbz
      replace hbz := hBb.blk hbz
      replace hBz := hBz.trans hBb
      refine hK.out _ _ ?_ (fun hHeld => ?_)
      rotate_left 1
      clear hK K
      try simp only [Act.put, List.getElem_toArray, List.getElem_cons_zero, List.getElem_cons_succ, List.setIfInBounds_toArray, List.set_cons_zero, List.set_cons_succ]
      rotate_left 1
      · exact ⟨hBz, Bel.cell hBz y2⟩
      have q0 := blk_frozen hbz 0
      have q1 : (w4).cell? ⟨b, 0, none⟩ = some (.slice none 0 0) := blk_cell hbz 0
      refine wpAnyH_ready (rs := [7]) (by kernel_rfl) (by simp) ?_
      refine AllReadyH.cons rfl (fun K hK => ?_) AllReadyH.nil
      go_simp
      have hKb := KO.set b 0 (w4) (.slice HA s.heap.length hc)
      have hBk := hKb.bel hBz hbg
      refine hK.out _ _ ?_ (fun hHeld => ?_)
      rotate_left 1
      clear hK K
      try simp only [Act.put, List.getElem_toArray, List.getElem_cons_zero, List.getElem_cons_succ, List.setIfInBounds_toArray, List.set_cons_zero, List.set_cons_succ]
      rotate_left 1
      · exact ⟨hBk, Bel.cell hBk y2⟩
      refine wpAnyH_take (i := 8) (v := ?_) rfl (by kernel_rfl) (by kernel_rfl) (by kernel_rfl) (fun _ _ _ h => h) (Or.inl ⟨by kernel_rfl, ?_⟩) hHeld ?_
      rotate_left 1
      focus (intro w hSw; (try dsimp only at hSw); go_simp; (try with_reducible rfl); done)
      try simp only [Act.put, List.getElem_toArray, List.getElem_cons_zero, List.getElem_cons_succ, List.setIfInBounds_toArray, List.set_cons_zero, List.set_cons_succ]
      refine wpAnyH_done (by kernel_rfl) ?_ _
      go_wp2
      go_meet
      case rel => exact ⟨b, HA, hc, rfl, rfl, (blk_set hbz 0 _).trans rfl, hfar b _ hlt ((KO.of_bel hBb (Nat.le_of_lt hlt3)).trans hKb), hBk⟩
  case rest =>
    clear hst hhp
    obtain ⟨b, HA, hc, rfl, rfl, hbh, hRh, hBc⟩ := hcut
    have y3 := Bel.cell hBc y2
    have hgt := hrn.out _ hBc
    replace hgt := Aside0.mk hgt
    clear hrn
    go_upto_region 8 with (go_at_call 12; ((with_reducible refine hgt.out.mono ?_); rintro e w5 ⟨EA, ec, rfl, hE, hec, hBe⟩))
    have hb5 := hBe.blk hbh
    obtain ⟨b2, hb2e⟩ : ∃ b2, w5.heap.size = b2 := ⟨_, rfl⟩
    have hBf := (Bel.refl w5).alloc (.cells #[.slice EA s.evs.length ec, .int .i64 s.fin, .int .i64 s.val, .int .i64 s.code] 34)
    have hbt := heap_new' (o := .cells #[.slice EA s.evs.length ec, .int .i64 s.fin, .int .i64 s.val, .int .i64 s.code] 34) hb2e.symm
    rw [hb2e]
    replace hb5 := hBf.blk hb5
    have hRr := (hRh.step hBe).step hBf
    have hBz := hBx.trans (hBc.trans (hBe.trans hBf))
    generalize w5.alloc (.cells #[.slice EA s.evs.length ec, .int .i64 s.fin, .int .i64 s.val, .int .i64 s.code] 34) = wf at hbt hb5 hRr hBz ⊢
    replace hb2e := Aside0.mk hb2e
    have y5 : wf.cell? ⟨b, 0, none⟩ = some (.slice HA s.heap.length hc) := blk_cell hb5 0
    have hrt := Aside0.mk (Right_true HA hc s.heap wf hhv hRr hhl)
    clear y2 y3 hBf hBe hBc hRh hE hgt hbh
    have t3 := Aside0.mk (trap_eq hrp.out)
    have hal := Aside0.mk hrp.out.halt
    have q1 : (s.heap.length : Int) ≤ (s.steps : Int) := by omega
    have q2 : (s.evs.length : Int) ≤ (s.steps : Int) := by omega
    obtain ⟨bf, hbf⟩ : ∃ b, (s.fin == 2) = b := ⟨_, rfl⟩
    obtain ⟨bc, hbc⟩ : ∃ b, (s.code != 0) = b := ⟨_, rfl⟩
    have t4 : (bf == bc) = true := by rw [← hbf, ← hbc]; exact t3.out
    clear hob htl
    by_cases hf1 : s.fin = 1
    · have e1 : (s.fin == 1) = true := by simp [hf1]
      replace hf1 := Aside0.mk hf1
      go_wp2_with (go_at_call 17; ((with_reducible refine hrt.out.mono ?_); rintro e w6 ⟨rfl, hB6⟩; have hb6 := hB6.blk hb5; have ht6 := hB6.blk hbt; have z0 := blk_cell hb6 0; have z1 := blk_cell ht6 0; have z2 := blk_cell ht6 1; have z3 := blk_cell ht6 2; have z4 := blk_cell ht6 3))
      go_ret
      exact ⟨rfl, hBz.trans hB6⟩
    · have e1 : (s.fin == 1) = false := by simp [hf1]
      have hv0 : s.val = 0 := by rcases hal.out with q | q; exact absurd q hf1; exact q
      have e2 : (s.val == 0) = true := by simp [hv0]
      replace hv0 := Aside0.mk hv0
      clear hf1
      go_wp2_with (go_at_call 17; ((with_reducible refine hrt.out.mono ?_); rintro e w6 ⟨rfl, hB6⟩; have hb6 := hB6.blk hb5; have ht6 := hB6.blk hbt; have z0 := blk_cell hb6 0; have z1 := blk_cell ht6 0; have z2 := blk_cell ht6 1; have z3 := blk_cell ht6 2; have z4 := blk_cell ht6 3))
      go_ret
      exact ⟨rfl, hBz.trans hB6⟩
theorem RunHeap_row (A0 : Option Addr) (c0 : Nat) (l0 : List SFunc) (n : Int) (w : World) (H0 : Rd kFunc w A0 l0) (_ : l0.length ≤ c0) (o0 : AProg l0) (n0 : 0 ≤ n) (n1 : n ≤ 65535) :
    Calls Try.prog 6 #[.agg #[.slice A0 l0.length c0], .int .u16 n] w fun e w' => e = .returned (.bool true) ∧ Bel w w' := RunHeap_walk ⟨l0⟩ A0 c0 n w H0 ⟨o0⟩ n0 n1
end Go.Proofs.Ytodjpbidjldblaa.H
