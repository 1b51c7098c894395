/- Texts joined. Conditions: each stands with its theorem. -/
import Derived.Test.YtodjpbidjldblaaX00
import Derived.Test.YtodjpbidjldblaaZ00
import Derived.Test.YtodjpbidjldblaaX14
import Derived.Test.YtodjpbidjldblaaX13
import Derived.Test.YtodjpbidjldblaaZ06
namespace Go.Proofs.Ytodjpbidjldblaa.H
open Go.RowKit Go.Proofs.YtodjpbidjldblaaW.PrintWords Go.Proofs.YtodjpbidjldblaaW.PrintLast
set_option linter.unusedVariables false
set_option linter.unusedSimpArgs false
set_option maxRecDepth 100000
theorem objR_at {W : World} {A : Option Addr} {l : List SObj} (h : Rd kObj W A l) (k : Nat) (hk : k < l.length) : ∃ ad A1 c1 A2 c2, A = some ad ∧ W.cell? (ad.add (k * 2)) = some (.slice A1 (l[k]).f0.length c1) ∧ W.cell? ⟨(ad.add (k * 2)).block, (ad.add (k * 2)).off + 1, none⟩ = some (.slice A2 (l[k]).f1.length c2) ∧ RdI W A1 (l[k]).f0 ∧ RdI W A2 (l[k]).f1 := by
 obtain ⟨ad, A1, c1, A2, c2, e, h0, h1, l0, g0, l1, g1⟩ := at_TObj h.out (k : Int) (by omega) (by omega)
 have e1 : rd_TObj l (k : Int) = l[k] := by simp [rd_TObj, List.getD_eq_getElem?_getD, List.getElem?_eq_getElem hk]
 rw [e1] at h0 h1 g0 g1
 simp only [Int.toNat_natCast] at h0 h1
 exact ⟨ad, A1, c1, A2, c2, e, h0, h1, ⟨g0⟩, ⟨g1⟩⟩
set_option maxHeartbeats 4000000 in
theorem SameH_any (A0 A1 : Option Addr) (c0 c1 : Nat) (l : List SObj) (w : World) (H0 : Rd kObj w A0 l) (H1 : Rd kObj w A1 l) (hl : l.length ≤ 1000000) (h8 : Aside0 (∀ o ∈ l, o.f0.length ≤ 100000 ∧ o.f1.length ≤ 100000)) :
  Calls Try.prog 14 #[.agg #[.slice A0 l.length c0], .agg #[.slice A1 l.length c1]] w fun e w' => e = .returned (.bool true) ∧ Bel w w' := by
 obtain ⟨g, hg⟩ : ∃ g, w.heap.size = g := ⟨_, rfl⟩
 obtain ⟨N, hN⟩ : ∃ N, l.length = N := ⟨_, rfl⟩
 rw [hN]
 have hB := ((Bel.refl w).alloc (.cells #[.slice A0 N c0] 30)).alloc (.cells #[.slice A1 N c1] 30)
 have hb0 : ((w.alloc (.cells #[.slice A0 N c0] 30)).alloc (.cells #[.slice A1 N c1] 30)).heap[g]? = some (.cells #[.slice A0 N c0] 30 (0, 0)) := heap_old (heap_new' hg.symm)
 have hb1 : ((w.alloc (.cells #[.slice A0 N c0] 30)).alloc (.cells #[.slice A1 N c1] 30)).heap[g + 1]? = some (.cells #[.slice A1 N c1] 30 (0, 0)) := heap_new' (by simp [hg])
 have hN6 : N ≤ 1000000 := by omega
 replace hN := Aside0.mk hN
 go_enter Try.func14, Try.ntmps14
 go_upto_region 1 with (fail)
 generalize (w.alloc (.cells #[.slice A0 N c0] 30)).alloc (.cells #[.slice A1 N c1] 30) = wa at hB hb0 hb1 ⊢
 replace hg := Aside0.mk hg
 have x0 : wa.cell? ⟨g, 0, none⟩ = some (.slice A0 N c0) := blk_cell hb0 0
 have y0 : wa.cell? ⟨g + 1, 0, none⟩ = some (.slice A1 N c1) := blk_cell hb1 0
 go_wp2
 go_loopw [5] (fun i W => ∃ k : Nat, k ≤ N ∧ i = .int .i64 k ∧ Bel wa W) (fun i _ => N - (intOf i).toNat)
 case atStart => exact ⟨0, by omega, rfl, Bel.refl _⟩
 case round =>
  clear x0 y0
  obtain ⟨k, hk, rfl, hBr⟩ := hrel
  have x0 : wr.cell? ⟨g, 0, none⟩ = some (.slice A0 N c0) := blk_cell (hBr.blk hb0) 0
  have y0 : wr.cell? ⟨g + 1, 0, none⟩ = some (.slice A1 N c1) := blk_cell (hBr.blk hb1) 0
  by_cases hlt : k < N
  ·have q1 : (k : Int) < (N : Int) := by omega
   have hkl : k < l.length := by rw [hN.out]; exact hlt
   obtain ⟨a0, P0, d0, P1, d1, rfl, u0, u1, r0, r1⟩ := objR_at (H0.step (hB.trans hBr)) k hkl
   obtain ⟨a1, P2, d2, P3, d3, rfl, v0, v1, s0, s1⟩ := objR_at (H1.step (hB.trans hBr)) k hkl
   have h88 := h8.out l[k] (List.getElem_mem hkl)
   obtain ⟨l0, hl0⟩ : ∃ x, (l[k]).f0 = x := ⟨_, rfl⟩
   obtain ⟨l1, hl1⟩ : ∃ x, (l[k]).f1 = x := ⟨_, rfl⟩
   rw [hl0] at u0 r0 v0 s0 h88
   rw [hl1] at u1 r1 v1 s1 h88
   clear hl0 hl1
   have hi0 := Aside0.mk (fun (Y : World) (q : Bel wr Y) => Ints_any P0 P2 d0 d2 l0 l0 Y (r0.step q) (s0.step q) (by omega))
   have hi1 := Aside0.mk (fun (Y : World) (q : Bel wr Y) => Ints_any P1 P3 d1 d3 l1 l1 Y (r1.step q) (s1.step q) (by omega))
   simp only [decide_true] at hi0 hi1
   go_upto_region 6 with (fail)
   have hBd : Bel wr wr.drew := (Bel.refl wr).drewN 1
   have hS := Aside0.mk (fun (Y : World) (q : Bel wr Y) => And.intro (Bel.cell q x0) (And.intro (Bel.cell q y0) (And.intro (Bel.cell q u0) (And.intro (Bel.cell q u1) (And.intro (Bel.cell q v0) (Bel.cell q v1))))))
   clear x0 y0 u0 u1 v0 v1
   refine wp_region_held_drew (S := fun w' => w'.cell? ⟨g, 0, none⟩ = some (.slice (some a0) N c0) ∧ w'.cell? ⟨g + 1, 0, none⟩ = some (.slice (some a1) N c1) ∧ w'.cell? (a0.add (k * 2)) = some (.slice P0 l0.length d0) ∧ w'.cell? ⟨(a0.add (k * 2)).block, (a0.add (k * 2)).off + 1, none⟩ = some (.slice P1 l1.length d1) ∧ w'.cell? (a1.add (k * 2)) = some (.slice P2 l0.length d2) ∧ w'.cell? ⟨(a1.add (k * 2)).block, (a1.add (k * 2)).off + 1, none⟩ = some (.slice P3 l1.length d3)) (by kernel_rfl) (hS.out _ hBd) (fun hHeld => ?_)
   refine takeH [0, 1, 2, 3, 4, 5, 6, 7, 8, 9, 10, 11] (by kernel_rfl) (by kernel_rfl) hHeld ?_
   iterate 12 (refine takeI (v := ?_) rfl rfl (fun _ _ _ h => h) (Or.inl ⟨by kernel_rfl, ?_⟩) ?_; rotate_left 1; focus (intro w hSw; (try dsimp only at hSw); go_simp; (try with_reducible rfl); done); try simp only [Act.put, z1, z2, z3, z4, z5, z6])
   refine takeE ?_
   try dsimp only
   refine wpAnyH_ready (rs := [12]) (by kernel_rfl) (by simp) ?_
   refine AllReadyH.cons rfl (fun K hK => ?_) AllReadyH.nil
   go_simp
   (go_at_call 19; refine (hi0.out _ hBd).mono ?_; rintro ex w2 ⟨rfl, hq2⟩)
   have hB2 := hBd.trans (Bel.drawn hq2)
   refine hK.out _ _ ?_ (fun hHeld => ?_)
   rotate_left 1
   clear hK K
   try simp only [Act.put, z1, z2, z3, z4, z5, z6]
   rotate_left 1
   ·exact hS.out _ hB2
   refine takeH [13, 14, 15, 16, 17, 18, 19, 20, 21, 22, 23, 24, 25, 26] (by kernel_rfl) (by kernel_rfl) hHeld ?_
   iterate 14 (refine takeI (v := ?_) rfl rfl (fun _ _ _ h => h) (Or.inl ⟨by kernel_rfl, ?_⟩) ?_; rotate_left 1; focus (intro w hSw; (try dsimp only at hSw); go_simp; (try with_reducible rfl); done); try simp only [Act.put, z1, z2, z3, z4, z5, z6])
   refine takeE ?_
   try dsimp only
   refine wpAnyH_ready (rs := [27]) (by kernel_rfl) (by simp) ?_
   refine AllReadyH.cons rfl (fun K hK => ?_) AllReadyH.nil
   go_simp
   (go_at_call 19; refine (hi1.out _ hB2).mono ?_; rintro ex w3 ⟨rfl, hq3⟩)
   have hB3 := hB2.trans (Bel.drawn hq3)
   refine hK.out _ _ ?_ (fun hHeld => ?_)
   rotate_left 1
   clear hK K
   try simp only [Act.put, z1, z2, z3, z4, z5, z6]
   rotate_left 1
   ·exact hS.out _ hB3
   refine takeH [28, 29] (by kernel_rfl) (by kernel_rfl) hHeld ?_
   iterate 2 (refine takeI (v := ?_) rfl rfl (fun _ _ _ h => h) (Or.inl ⟨by kernel_rfl, ?_⟩) ?_; rotate_left 1; focus (intro w hSw; (try dsimp only at hSw); go_simp; (try with_reducible rfl); done); try simp only [Act.put, z1, z2, z3, z4, z5, z6])
   refine takeE ?_
   try dsimp only
   refine wpAnyH_done (by kernel_rfl) ?_ _
   go_wp2
   go_roundw
   case rel => exact ⟨k + 1, by omega, by go_num, hBr.trans hB3⟩
   case measure => simp [intOf]; omega
  ·obtain rfl : k = N := by omega
   have q1 : ¬ (k : Int) < (k : Int) := by omega
   go_wp2
   go_ret
   exact ⟨rfl, hB.trans hBr⟩
end Go.Proofs.Ytodjpbidjldblaa.H
namespace Go.Proofs.Ytodjpbidjldblaa.H
open Go.RowKit Go.Proofs.YtodjpbidjldblaaW.PrintWords Go.Proofs.YtodjpbidjldblaaW.PrintLast Go.Proofs.Ytodjpbidjldblaa.PRunEdges
set_option linter.unusedVariables false
set_option linter.unusedSimpArgs false
set_option maxRecDepth 100000
set_option maxHeartbeats 8000000 in
theorem RunRuns_walk (p : SProg) (PA : Option Addr) (pc : Nat) (n : Int) (w : World) (hP : Rd kFunc w PA p.f0) (hA : Aside0 (AProg p.f0)) (n0 : 0 ≤ n) (n1 : n ≤ 65535) :
  Calls Try.prog 4 #[.agg #[.slice PA p.f0.length pc], .int .u16 n] w fun e w' => e = .returned (.bool true) ∧ Bel w w' := by
 have ew : IntKind.i64.wrap n = n := by rw [IntKind.wrap_i64]; omega
 obtain ⟨g, hg⟩ : ∃ g, w.heap.size = g := ⟨_, rfl⟩
 have hB := (Bel.refl w).alloc (.cells #[.slice PA p.f0.length pc] 24)
 have hbp := heap_new' (o := .cells #[.slice PA p.f0.length pc] 24) hg.symm
 go_enter Try.func4, Try.ntmps4
 go_upto_region 1 with (fail)
 generalize w.alloc (.cells #[.slice PA p.f0.length pc] 24) = wa at hB hbp ⊢
 replace hg := Aside0.mk hg
 have hal := Aside0.mk (alive_any wa)
 have hot := Aside0.mk (fun (X : World) (q : Bel wa X) => out_any p PA pc X (hP.step (hB.trans q)) hA)
 obtain ⟨N, hN⟩ : ∃ N, p.f0.length = N := ⟨_, rfl⟩
 rw [hN] at hbp ⊢
 replace hN := Aside0.mk hN
 simp only [hN.out] at hot
 have y0 : wa.cell? ⟨g, 0, none⟩ = some (.slice PA N pc) := blk_cell hbp 0
 go_wp2_with (first | (go_at_call 8; ((with_reducible refine hal.out.mono ?_); rintro e w1 ⟨rfl, hB1⟩; have hb1 := hB1.blk hbp; have y1 := blk_cell hb1 0)) | (go_at_call 9; ((with_reducible refine (hot.out _ hB1).mono ?_); rintro e w2 ⟨ob, rfl, hpr, hB2⟩; have hb2 := hB2.blk hb1; have y2 := blk_cell hb2 0; cases ob)))
 rotate_left 1
 ·go_ret
  exact ⟨rfl, hB.trans (hB1.trans hB2)⟩
 obtain ⟨m, hm⟩ : ∃ m, n % 3000 = m := ⟨_, rfl⟩
 have hpp : Aside0 (ProgP p) := ⟨hpr (by first | trivial | rfl)⟩
 have hBx := hB.trans (hB1.trans hB2)
 obtain ⟨s, hs⟩ : ∃ s, endL p m = s := ⟨_, rfl⟩
 obtain ⟨hrp, hr0, hr1⟩ := run_start hpp.out (fuelN m)
 rw [show runL p (fuelN m) (startL p) = s from hs] at hrp hr0 hr1
 have hf4 : fuelN m ≤ 4000 := by unfold fuelN mn; split <;> omega
 have hgo : Aside0 (∀ X, Bel w2 X → Calls Try.prog 10 #[.agg #[.slice PA N pc], .int .i64 m] X fun e W' => ∃ SA sl sc EA ec HA hc, e = .returned (.agg #[.slice SA sl sc, .slice HA s.heap.length hc, .slice EA s.evs.length ec, .int .i64 s.fin, .int .i64 s.val, .int .i64 s.code, .int .i64 s.steps]) ∧ RdI W' EA s.evs ∧ Rd kObj W' HA s.heap ∧ Bel X W') := ⟨fun X hX => by
  have h1 := Go_any p X PA pc ((hP.step hBx).step hX) hpp m
  unfold GoIs at h1
  rw [hN.out, show endL p m = endL p m from rfl, hs] at h1
  exact h1⟩
 have hst : Aside0 (∀ X, Bel w2 X → Calls Try.prog 13 #[.agg #[.slice PA N pc], .int .i64 m] X fun e W' => e = .returned (.int .i64 s.steps) ∧ Bel X W') := ⟨fun X hX => by
  have h1 := Steps_any p X PA pc ((hP.step hBx).step hX) hpp m
  rw [hN.out, hs] at h1
  exact h1⟩
 have hhp : Aside0 (∀ X, Bel w2 X → Calls Try.prog 15 #[.agg #[.slice PA N pc], .int .i64 m] X (HeapIs s.heap X)) := ⟨fun X hX => by
  have h1 := Heap_any p X PA pc ((hP.step hBx).step hX) hpp m
  rw [hN.out, hs] at h1
  exact h1⟩
 have hrn : Aside0 (∀ X, Bel w2 X → Calls Try.prog 12 #[.agg #[.slice PA N pc], .int .i64 m] X (TraceIs s X)) := ⟨fun X hX => by
  have h1 := Run_any p X PA pc ((hP.step hBx).step hX) hpp m
  rw [hN.out, hs] at h1
  exact h1⟩
 clear hpr hal hot y0 y1 hbp hb1
 have htl : s.evs.length ≤ 1000000 := by have := hrp.told; omega
 have hhl : s.heap.length ≤ 1000000 := by have := hrp.objs; omega
 have hh8 := Aside0.mk (fun o (ho : o ∈ s.heap) => (show o.f0.length ≤ 100000 ∧ o.f1.length ≤ 100000 from ⟨by have := (hrp.heap o ho).1; omega, by have := (hrp.heap o ho).2.1; omega⟩))
 replace hs := Aside0.mk hs
 clear hr0 hr1 hrp hf4
 rw [hm]
 replace hm := Aside0.mk hm
 go_upto_region 7 with (go_at_call 10; ((with_reducible refine (hgo.out _ (Bel.refl _)).mono ?_); rintro e w3 ⟨SA, sl, sc, EA, ec, HA, hc, rfl, hE, hH, hB3⟩))
 obtain ⟨b, hb⟩ : ∃ b, w3.heap.size = b := ⟨_, rfl⟩
 have hBc := hB3.trans ((Bel.refl w3).alloc (.cells #[.slice SA sl sc, .slice HA s.heap.length hc, .slice EA s.evs.length ec, .int .i64 s.fin, .int .i64 s.val, .int .i64 s.code, .int .i64 s.steps] 36))
 have hbS := heap_new' (o := .cells #[.slice SA sl sc, .slice HA s.heap.length hc, .slice EA s.evs.length ec, .int .i64 s.fin, .int .i64 s.val, .int .i64 s.code, .int .i64 s.steps] 36) hb.symm
 replace hE := hE.step ((Bel.refl w3).alloc (.cells #[.slice SA sl sc, .slice HA s.heap.length hc, .slice EA s.evs.length ec, .int .i64 s.fin, .int .i64 s.val, .int .i64 s.code, .int .i64 s.steps] 36))
 replace hH := hH.step ((Bel.refl w3).alloc (.cells #[.slice SA sl sc, .slice HA s.heap.length hc, .slice EA s.evs.length ec, .int .i64 s.fin, .int .i64 s.val, .int .i64 s.code, .int .i64 s.steps] 36))
 rw [hb]
 generalize w3.alloc (.cells #[.slice SA sl sc, .slice HA s.heap.length hc, .slice EA s.evs.length ec, .int .i64 s.fin, .int .i64 s.val, .int .i64 s.code, .int .i64 s.steps] 36) = wc at hBc hbS hE hH ⊢
 replace hb := Aside0.mk hb
 have hbg := hBc.blk hb2
 clear hgo y2 hB3
 have hS := Aside0.mk (fun (Y : World) (q : Bel wc Y) => And.intro (Bel.cell q (show wc.cell? ⟨g, 0, none⟩ = some (.slice PA N pc) from blk_cell hbg 0)) (And.intro (Bel.cell q (show wc.cell? ⟨b, 1, none⟩ = some (.slice HA s.heap.length hc) from blk_cell hbS 1)) (And.intro (Bel.cell q (show wc.cell? ⟨b, 2, none⟩ = some (.slice EA s.evs.length ec) from blk_cell hbS 2)) (And.intro (Bel.cell q (show wc.cell? ⟨b, 3, none⟩ = some (.int .i64 s.fin) from blk_cell hbS 3)) (And.intro (Bel.cell q (show wc.cell? ⟨b, 4, none⟩ = some (.int .i64 s.val) from blk_cell hbS 4)) (And.intro (Bel.cell q (show wc.cell? ⟨b, 5, none⟩ = some (.int .i64 s.code) from blk_cell hbS 5)) (Bel.cell q (show wc.cell? ⟨b, 6, none⟩ = some (.int .i64 s.steps) from blk_cell hbS 6))))))))
 have hBd : Bel wc wc.drew := (Bel.refl wc).drewN 1
 refine wp_region_held_drew (S := fun w' => w'.cell? ⟨g, 0, none⟩ = some (.slice PA N pc) ∧ w'.cell? ⟨b, 1, none⟩ = some (.slice HA s.heap.length hc) ∧ w'.cell? ⟨b, 2, none⟩ = some (.slice EA s.evs.length ec) ∧ w'.cell? ⟨b, 3, none⟩ = some (.int .i64 s.fin) ∧ w'.cell? ⟨b, 4, none⟩ = some (.int .i64 s.val) ∧ w'.cell? ⟨b, 5, none⟩ = some (.int .i64 s.code) ∧ w'.cell? ⟨b, 6, none⟩ = some (.int .i64 s.steps)) (by kernel_rfl) (hS.out _ hBd) (fun hHeld => ?_)
 refine takeH [0, 1, 3, 4] (by kernel_rfl) (by kernel_rfl) hHeld ?_
 iterate 4 (refine takeI (v := ?_) rfl rfl (fun _ _ _ h => h) (Or.inl ⟨by kernel_rfl, ?_⟩) ?_; rotate_left 1; focus (intro w hSw; (try dsimp only at hSw); go_simp; (try with_reducible rfl); done); try simp only [Act.put, z1, z2, z3, z4, z5, z6])
 refine takeE ?_
 try dsimp only
 refine wpAnyH_ready (rs := [2]) (by kernel_rfl) (by simp) ?_
 refine AllReadyH.cons rfl (fun K hK => ?_) AllReadyH.nil
 go_simp
 (go_at_call 12; refine (hrn.out _ (hBc.trans hBd)).mono ?_; rintro ex w4 ⟨EB, eb, rfl, hEB, -, hB4⟩)
 replace hB4 := hBd.trans hB4
 refine hK.out _ _ ?_ (fun hHeld => ?_)
 rotate_left 1
 clear hK K
 try simp only [Act.put, z1, z2, z3, z4, z5, z6]
 rotate_left 1
 ·exact hS.out _ hB4
 have hsm := Aside0.mk (SameT_any EB EA eb ec s.evs s.fin s.val s.code w4 hEB (hE.step hB4) htl)
 refine wpAnyH_ready (rs := [5]) (by kernel_rfl) (by simp) ?_
 refine AllReadyH.cons rfl (fun K hK => ?_) AllReadyH.nil
 go_simp
 (go_at_call 11; refine hsm.out.mono ?_; rintro ex w5 ⟨rfl, hB5⟩)
 replace hB5 := hB4.trans hB5
 refine hK.out _ _ ?_ (fun hHeld => ?_)
 rotate_left 1
 clear hK K
 try simp only [Act.put, z1, z2, z3, z4, z5, z6]
 rotate_left 1
 ·exact hS.out _ hB5
 refine takeH [6, 7, 8, 10, 11] (by kernel_rfl) (by kernel_rfl) hHeld ?_
 iterate 5 (refine takeI (v := ?_) rfl rfl (fun _ _ _ h => h) (Or.inl ⟨by kernel_rfl, ?_⟩) ?_; rotate_left 1; focus (intro w hSw; (try dsimp only at hSw); go_simp; (try with_reducible rfl); done); try simp only [Act.put, z1, z2, z3, z4, z5, z6])
 refine takeE ?_
 try dsimp only
 refine wpAnyH_ready (rs := [9]) (by kernel_rfl) (by simp) ?_
 refine AllReadyH.cons rfl (fun K hK => ?_) AllReadyH.nil
 go_simp
 (go_at_call 13; refine (hst.out _ (hBc.trans hB5)).mono ?_; rintro ex w6 ⟨rfl, hB6⟩)
 replace hB6 := hB5.trans hB6
 refine hK.out _ _ ?_ (fun hHeld => ?_)
 rotate_left 1
 clear hK K
 try simp only [Act.put, z1, z2, z3, z4, z5, z6]
 rotate_left 1
 ·exact hS.out _ hB6
 have hHp := hhp.out w6 (hBc.trans hB6)
 replace hHp := Aside0.mk hHp
 refine takeH [12, 13, 14, 15, 16, 18, 19] (by kernel_rfl) (by kernel_rfl) hHeld ?_
 iterate 7 (refine takeI (v := ?_) rfl rfl (fun _ _ _ h => h) (Or.inl ⟨by kernel_rfl, ?_⟩) ?_; rotate_left 1; focus (intro w hSw; (try dsimp only at hSw); go_simp; (try with_reducible rfl); done); try simp only [Act.put, z1, z2, z3, z4, z5, z6])
 refine takeE ?_
 try dsimp only
 refine wpAnyH_ready (rs := [17]) (by kernel_rfl) (by simp) ?_
 refine AllReadyH.cons rfl (fun K hK => ?_) AllReadyH.nil
 go_simp
 (go_at_call 15; refine hHp.out.mono ?_; rintro ex w7 ⟨HB, hcb, rfl, hHB, -, hB7⟩)
 replace hB7 := hB6.trans hB7
 refine hK.out _ _ ?_ (fun hHeld => ?_)
 rotate_left 1
 clear hK K
 try simp only [Act.put, z1, z2, z3, z4, z5, z6]
 rotate_left 1
 ·exact hS.out _ hB7
 have hsh := Aside0.mk (SameH_any HB HA hcb hc s.heap w7 hHB (hH.step hB7) hhl hh8)
 refine wpAnyH_ready (rs := [20]) (by kernel_rfl) (by simp) ?_
 refine AllReadyH.cons rfl (fun K hK => ?_) AllReadyH.nil
 go_simp
 (go_at_call 14; refine hsh.out.mono ?_; rintro ex w8 ⟨rfl, hB8⟩)
 replace hB8 := hB7.trans hB8
 refine hK.out _ _ ?_ (fun hHeld => ?_)
 rotate_left 1
 clear hK K
 try simp only [Act.put, z1, z2, z3, z4, z5, z6]
 rotate_left 1
 ·exact hS.out _ hB8
 refine takeH [21, 22] (by kernel_rfl) (by kernel_rfl) hHeld ?_
 iterate 2 (refine takeI (v := ?_) rfl rfl (fun _ _ _ h => h) (Or.inl ⟨by kernel_rfl, ?_⟩) ?_; rotate_left 1; focus (intro w hSw; (try dsimp only at hSw); go_simp; (try with_reducible rfl); done); try simp only [Act.put, z1, z2, z3, z4, z5, z6])
 refine takeE ?_
 try dsimp only
 refine wpAnyH_done (by kernel_rfl) ?_ _
 go_wp2
 go_ret
 exact ⟨rfl, hBx.trans (hBc.trans hB8)⟩
theorem RunRuns_row (A0 : Option Addr) (c0 : Nat) (l0 : List SFunc) (n : Int) (w : World) (H0 : Rd kFunc w A0 l0) (_ : l0.length ≤ c0) (o0 : AProg l0) (n0 : 0 ≤ n) (n1 : n ≤ 65535) :
  Calls Try.prog 4 #[.agg #[.slice A0 l0.length c0], .int .u16 n] w fun e w' => e = .returned (.bool true) ∧ Bel w w' := RunRuns_walk ⟨l0⟩ A0 c0 n w H0 ⟨o0⟩ n0 n1
end Go.Proofs.Ytodjpbidjldblaa.H
