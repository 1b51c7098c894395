/- Texts of this work, joined: Pr2, Pb. Conditions: each stands with its theorem. -/
import Derived.Test.YtceibabhmomfiaaDoorX04
import Derived.Test.YtceibabhmomfiaaDoorX03
import Derived.Laws.Bits64b
/- Layer 3, walks: the reader of charts takes what rises, and places. -/
namespace Go.Proofs.YtceibabhmomfiaaDoor.H
open Go.RowKit Go.Proofs.YtceibabhmomfiaaDoorW.PrintWords Go.Proofs.YtceibabhmomfiaaDoorW.PrintLast
set_option linter.unusedVariables false
set_option linter.unusedSimpArgs false

/-- what a reading leaves -/
structure Left {α : Type} (p : List Int → PR α) (T : Nat) (base : Nat) (w : World) (g : Nat) (l : List Int) (e : Int) (x : α) (w' : World) : Prop where
  ran : ∃ l' e', Aside0 (Ran p l e x l' e') ∧ IsRA T base w' g l' e'
  kt : Aside0 (KT ST base w w')
theorem chk_zero {b : Bool} {er e : Int} (her : er ≠ 0) (h : (if b = true ∧ e = 0 then er else e) = 0) : b = false ∧ e = 0 := by
  by_cases h1 : b = true ∧ e = 0
  · rw [if_pos h1] at h; exact absurd h her
  · rw [if_neg h1] at h
    refine ⟨?_, h⟩
    cases b with
    | true => exact absurd ⟨rfl, h⟩ h1
    | false => rfl
set_option maxRecDepth 100000
set_option maxHeartbeats 1000000 in
theorem above_any (last top : Int) (h0 : -1 ≤ last) (h1 : last ≤ top) (h2 : top ≤ 2199023255552) (base g : Nat) (l : List Int) (e : Int) (w : World) (hR : IsRA 61 base w g l e) :
    Calls Tryd.prog 33 #[.pointer (some ⟨g, 0, none⟩), .int .i64 last, .int .i64 top] w fun ex w' => ∃ n, ex = .returned (.int .i64 n) ∧ Left (pAbove last top) 61 base w g l e n w' ∧ last ≤ n ∧ n ≤ top := by
  have hcall := Aside0.mk (upto_any mx 5 (by decide) (by decide) (by decide) base g l e w hR)
  go_enter Tryd.func33, Tryd.ntmps33
  go_upto_region 2 with (go_at_call 32; ((with_reducible refine hcall.out.mono ?_); rintro ex w1 ⟨n, rfl, hT, hn1⟩))
  obtain ⟨l1, e1, hran1, hR1, _⟩ := hT.ran
  have hn0 := hT.ge
  have hk1 := hT.kt
  obtain ⟨A, c, hr1⟩ := hR1.out
  have hf1 := Aside0.mk (fail_any base g l1 e1 10 (n == 0) A c w1 hr1)
  clear hT hcall hR1 hr1
  go_upto_region 3 with (go_at_call 36; ((with_reducible refine hf1.out.mono ?_); rintro ex w2 ⟨rfl, hx2⟩))
  have hc1 := Aside0.mk (Ran.chk (n == 0) (er := 10) (by decide) l1 e1)
  obtain ⟨e2, he2⟩ : ∃ e2, (if (n == 0) = true ∧ e1 = 0 then 10 else e1) = e2 := ⟨_, rfl⟩
  rw [he2] at hx2 hc1
  have hf2 := Aside0.mk (fail_any base g l1 e2 5 (decide (top - last < n)) A c w2 hx2.out.1)
  clear hf1 he2
  go_upto_region 4 with (go_at_call 36; ((with_reducible refine hf2.out.mono ?_); rintro ex w3 ⟨rfl, hx3⟩))
  have hc2 := Aside0.mk (Ran.chk (decide (top - last < n)) (er := 5) (by decide) l1 e2)
  have hz := Aside0.mk (@chk_zero (decide (top - last < n)) 5 e2 (by decide))
  obtain ⟨e3, he3⟩ : ∃ e3, (if (decide (top - last < n)) = true ∧ e2 = 0 then 5 else e2) = e3 := ⟨_, rfl⟩
  rw [he3] at hx3 hc2 hz
  clear hf2 he3
  have y1 : w3.cell? ⟨g, 1, none⟩ = some (.int .i64 e3) := blk_cell hx3.out.1.blk 1
  have hkt := Aside0.mk ((hk1.out.trans hx2.out.2).trans hx3.out.2)
  by_cases h3 : e3 = 0
  · have hle := (hz.out h3).1
    have hle2 : n ≤ top - last := by simpa using hle
    have b1 : (e3 != 0) = false := by simp [h3]
    replace h3 := Aside0.mk h3
    clear hle
    go_wp2
    go_ret
    exact ⟨_, rfl, ⟨⟨_, _, ⟨hran1.out.bind (hc1.out.bind (hc2.out.bind (Ran.ret _ _ _)))⟩, ⟨_, _, hx3.out.1⟩⟩, hkt⟩, by omega, by omega⟩
  · have b1 : (e3 != 0) = true := by simpa using h3
    replace h3 := Aside0.mk h3
    go_wp2
    go_ret
    exact ⟨_, rfl, ⟨⟨_, _, ⟨hran1.out.bind (hc1.out.bind (hc2.out.bind (Ran.bad_ _ _ h3.out _ _)))⟩, ⟨_, _, hx3.out.1⟩⟩, hkt⟩, by omega, h1⟩
theorem loc_odd {n : Int} (h0 : 0 ≤ n) (h : n % 2 = 1) : n.tmod 2 = 1 ∧ (n - 1).tdiv 2 = n / 2 ∧ locN n = ⟨1, n / 2⟩ ∧ n ≠ 0 := by
  have h1 : (n - 1).tdiv 2 = n / 2 := by rw [Int.tdiv_eq_ediv_of_nonneg (by omega)]; omega
  refine ⟨by rw [Int.tmod_eq_emod_of_nonneg h0]; exact h, h1, ?_, by omega⟩
  unfold locN
  rw [h]
  show (⟨1, (n - 1).tdiv 2⟩ : SLoc) = _
  rw [h1]
theorem loc_even {n : Int} (h0 : 0 < n) (h : n % 2 = 0) : n.tmod 2 = 0 ∧ (n - 2).tdiv 2 = n / 2 - 1 ∧ locN n = ⟨2, n / 2 - 1⟩ := by
  have h1 : (n - 2).tdiv 2 = n / 2 - 1 := by rw [Int.tdiv_eq_ediv_of_nonneg (by omega)]; omega
  refine ⟨by rw [Int.tmod_eq_emod_of_nonneg (by omega)]; exact h, h1, ?_⟩
  unfold locN
  rw [h]
  show (⟨2, (n - 2).tdiv 2⟩ : SLoc) = _
  rw [h1]
theorem put2 {W : World} {r : Nat} {v0 v1 a0 a1 : Value} (h : W.heap[r]? = some (.cells #[a0, a1] 50 (0, 0))) :
    ((W.setCell ⟨r, 0, none⟩ v0).setCell ⟨r, 1, none⟩ v1).heap[r]? = some (.cells #[v0, v1] 50 (0, 0)) ∧
    ∀ b, b ≤ r → KT [50] b W ((W.setCell ⟨r, 0, none⟩ v0).setCell ⟨r, 1, none⟩ v1) := by
  have h0 := blk_put (cs' := #[v0, a1]) h 0 v0 rfl
  have h1 := blk_put (cs' := #[v0, v1]) h0 1 v1 rfl
  exact ⟨h1, fun b hb => (KT.set h (by decide) hb 0 _).trans (KT.set h0 (by decide) hb 1 _)⟩
set_option maxHeartbeats 2000000 in
theorem loc_any (base g : Nat) (l : List Int) (e : Int) (w : World) (hR : IsRA 61 base w g l e) :
    Calls Tryd.prog 61 #[.pointer (some ⟨g, 0, none⟩)] w fun ex w' => ∃ x : SLoc, ex = .returned (.agg #[.int .i64 x.f0, .int .i64 x.f1]) ∧ Left pLoc 61 base w g l e x w' := by
  obtain ⟨A, c, hr⟩ := hR.out
  have hbw := hr.lt
  have hB0 : Bel w (w.alloc (.cells #[.int .i64 0, .int .i64 0] 50)) := (Bel.refl w).alloc _
  have hcall := Aside0.mk (upto_any mx 5 (by decide) (by decide) (by decide) base g l e _ ⟨⟨A, c, hr.step hB0⟩⟩)
  have box := Aside0.mk (heap_alloc_new w (.cells #[.int .i64 0, .int .i64 0] 50))
  replace hr := Aside0.mk hr
  go_enter Tryd.func61, Tryd.ntmps61
  go_upto_region 2 with (go_at_call 32; ((with_reducible refine hcall.out.mono ?_); rintro ex w1 ⟨n, rfl, hT, hn1⟩))
  obtain ⟨l1, e1, hran1, hR1, _⟩ := hT.ran
  have hn0 := hT.ge
  replace hn1 : n ≤ 9223372036854775807 := hn1
  have hk1 := Aside0.mk ((KT.of_bel hB0 hbw ST).trans hT.kt.out)
  have hb1 := Aside0.mk (hT.kt.out.blk box.out (by decide))
  obtain ⟨A1, c1, hr1⟩ := hR1.out
  obtain ⟨r, hr0⟩ : ∃ r, w.heap.size = r := ⟨_, rfl⟩
  rw [hr0] at hb1 ⊢
  have hbr : base ≤ r := by rw [← hr0]; exact hbw
  replace hr0 := Aside0.mk hr0
  replace hr1 := Aside0.mk hr1
  clear hT hcall hR1 box hB0 hr hR
  by_cases hodd : n % 2 = 1
  · obtain ⟨a1, a2, a3, a4⟩ := loc_odd hn0 hodd
    have b0 : (n == 0) = false := by simpa using a4
    have hq0 : 0 ≤ n / 2 := by omega
    have hq1 : n / 2 ≤ 9223372036854775807 := by omega
    obtain ⟨q, hq⟩ : ∃ q, n / 2 = q := ⟨_, rfl⟩
    rw [hq] at a2 a3 hq0 hq1
    replace a3 := Aside0.mk a3
    clear hodd a4 hq
    by_cases h32 : q < 32
    · have hmay : mayL (⟨1, q⟩ : SLoc) = true := by unfold mayL; rw [if_pos rfl]; simp [h32, hq0]
      have hd : decide (32 ≤ q) = false := by simpa using h32
      replace hmay := Aside0.mk hmay
      have hBa : Bel w1 (w1.alloc (.cells #[.int .i64 1, .int .i64 (q)] 50)) := (Bel.refl w1).alloc _
      have hf1 := fail_any base g l1 e1 5 false A1 c1 _ (hr1.out.step hBa)
      have hc := Ran.chk false (er := 5) (by decide) l1 e1
      obtain ⟨e2, he2⟩ : ∃ e2, (if false = true ∧ e1 = 0 then 5 else e1) = e2 := ⟨_, rfl⟩
      rw [he2] at hf1 hc
      replace hf1 := Aside0.mk hf1
      replace hc := Aside0.mk hc
      clear he2
      have boxa := Aside0.mk (heap_alloc_new w1 (.cells #[.int .i64 1, .int .i64 (q)] 50))
      have ya : (w1.alloc (.cells #[.int .i64 1, .int .i64 (q)] 50)).cell? ⟨w1.heap.size, 1, none⟩ = some (.int .i64 (q)) := blk_cell boxa.out 1

      go_upto_region 5 with (go_at_call 36; ((with_reducible refine hf1.out.mono ?_); rintro ex w2 ⟨rfl, hx2⟩))
      have hb2 := hx2.out.2.blk (bel_blk hb1.out hBa) (by decide)
      have hb3 := hx2.out.2.blk boxa.out (by decide)
      have z0 := blk_frozen hb2 0
      have z1 := blk_frozen hb2 1
      have q0 := blk_cell hb2 0
      have q1 := blk_cell hb2 1
      have y0 := blk_cell hb3 0
      have y1 := blk_cell hb3 1
      have hp := put2 (v0 := .int .i64 1) (v1 := .int .i64 (q)) hb2
      replace hb2 := Aside0.mk hb2
      replace hb3 := Aside0.mk hb3
      replace hp := Aside0.mk hp
      clear ya
      go_wp2
      refine bodyPost_ret (results_cell_row rfl _ _ r 50 #[.int .i64 1, .int .i64 (q)] (0, 0) _ rfl hp.out.1 Tryd.underlying50 rfl (by kernel_rfl)) rfl ?_
      have hbw1 : base ≤ w1.heap.size := Nat.le_trans hbw hk1.out.size
      refine ⟨⟨1, q⟩, rfl, ⟨_, _, ⟨?_⟩, ⟨_, _, hx2.out.1.keep (hp.out.2 base hbr) (by decide) (by decide)⟩⟩, ⟨((hk1.out.trans (KT.of_bel hBa hbw1 ST)).trans hx2.out.2).after (by rw [hr0.out]; exact (hp.out.2 r (Nat.le_refl _)).below) hbw⟩⟩
      refine hran1.out.bind ?_
      rw [a3.out, hmay.out]
      exact hc.out.bind (Ran.ret _ _ _)
    · have hmay : mayL (⟨1, q⟩ : SLoc) = false := by unfold mayL; rw [if_pos rfl]; simp [h32]
      replace hmay := Aside0.mk hmay
      have hBa : Bel w1 (w1.alloc (.cells #[.int .i64 1, .int .i64 (q)] 50)) := (Bel.refl w1).alloc _
      have hf1 := fail_any base g l1 e1 5 true A1 c1 _ (hr1.out.step hBa)
      have hc := Ran.chk true (er := 5) (by decide) l1 e1
      obtain ⟨e2, he2⟩ : ∃ e2, (if true = true ∧ e1 = 0 then 5 else e1) = e2 := ⟨_, rfl⟩
      rw [he2] at hf1 hc
      replace hf1 := Aside0.mk hf1
      replace hc := Aside0.mk hc
      clear he2
      have boxa := Aside0.mk (heap_alloc_new w1 (.cells #[.int .i64 1, .int .i64 (q)] 50))
      have ya : (w1.alloc (.cells #[.int .i64 1, .int .i64 (q)] 50)).cell? ⟨w1.heap.size, 1, none⟩ = some (.int .i64 (q)) := blk_cell boxa.out 1

      go_upto_region 5 with (go_at_call 36; ((with_reducible refine hf1.out.mono ?_); rintro ex w2 ⟨rfl, hx2⟩))
      have hb2 := hx2.out.2.blk (bel_blk hb1.out hBa) (by decide)
      have hb3 := hx2.out.2.blk boxa.out (by decide)
      have z0 := blk_frozen hb2 0
      have z1 := blk_frozen hb2 1
      have q0 := blk_cell hb2 0
      have q1 := blk_cell hb2 1
      have y0 := blk_cell hb3 0
      have y1 := blk_cell hb3 1
      have hp := put2 (v0 := .int .i64 1) (v1 := .int .i64 (q)) hb2
      replace hb2 := Aside0.mk hb2
      replace hb3 := Aside0.mk hb3
      replace hp := Aside0.mk hp
      clear ya
      go_wp2
      refine bodyPost_ret (results_cell_row rfl _ _ r 50 #[.int .i64 1, .int .i64 (q)] (0, 0) _ rfl hp.out.1 Tryd.underlying50 rfl (by kernel_rfl)) rfl ?_
      have hbw1 : base ≤ w1.heap.size := Nat.le_trans hbw hk1.out.size
      refine ⟨⟨1, q⟩, rfl, ⟨_, _, ⟨?_⟩, ⟨_, _, hx2.out.1.keep (hp.out.2 base hbr) (by decide) (by decide)⟩⟩, ⟨((hk1.out.trans (KT.of_bel hBa hbw1 ST)).trans hx2.out.2).after (by rw [hr0.out]; exact (hp.out.2 r (Nat.le_refl _)).below) hbw⟩⟩
      refine hran1.out.bind ?_
      rw [a3.out, hmay.out]
      exact hc.out.bind (Ran.ret _ _ _)
  · by_cases hz : n = 0
    · have b0 : (n == 0) = true := by simpa using hz
      have a1 : n.tmod 2 = 0 := by rw [hz]; rfl
      have a2 : (n - 2).tdiv 2 = -1 := by rw [hz]; rfl
      have a3 : Aside0 (locN n = ⟨2, -1⟩) := ⟨by rw [hz]; rfl⟩
      have hmay : mayL (⟨2, -1⟩ : SLoc) = false := by decide
      replace hz := Aside0.mk hz
      clear hodd
      replace hmay := Aside0.mk hmay
      have hBa : Bel w1 (w1.alloc (.cells #[.int .i64 2, .int .i64 (-1)] 50)) := (Bel.refl w1).alloc _
      have hf1 := fail_any base g l1 e1 5 true A1 c1 _ (hr1.out.step hBa)
      have hc := Ran.chk true (er := 5) (by decide) l1 e1
      obtain ⟨e2, he2⟩ : ∃ e2, (if true = true ∧ e1 = 0 then 5 else e1) = e2 := ⟨_, rfl⟩
      rw [he2] at hf1 hc
      replace hf1 := Aside0.mk hf1
      replace hc := Aside0.mk hc
      clear he2
      have boxa := Aside0.mk (heap_alloc_new w1 (.cells #[.int .i64 2, .int .i64 (-1)] 50))
      have ya : (w1.alloc (.cells #[.int .i64 2, .int .i64 (-1)] 50)).cell? ⟨w1.heap.size, 1, none⟩ = some (.int .i64 (-1)) := blk_cell boxa.out 1

      go_upto_region 5 with (go_at_call 36; ((with_reducible refine hf1.out.mono ?_); rintro ex w2 ⟨rfl, hx2⟩))
      have hb2 := hx2.out.2.blk (bel_blk hb1.out hBa) (by decide)
      have hb3 := hx2.out.2.blk boxa.out (by decide)
      have z0 := blk_frozen hb2 0
      have z1 := blk_frozen hb2 1
      have q0 := blk_cell hb2 0
      have q1 := blk_cell hb2 1
      have y0 := blk_cell hb3 0
      have y1 := blk_cell hb3 1
      have hp := put2 (v0 := .int .i64 2) (v1 := .int .i64 (-1)) hb2
      replace hb2 := Aside0.mk hb2
      replace hb3 := Aside0.mk hb3
      replace hp := Aside0.mk hp
      clear ya
      go_wp2
      refine bodyPost_ret (results_cell_row rfl _ _ r 50 #[.int .i64 2, .int .i64 (-1)] (0, 0) _ rfl hp.out.1 Tryd.underlying50 rfl (by kernel_rfl)) rfl ?_
      have hbw1 : base ≤ w1.heap.size := Nat.le_trans hbw hk1.out.size
      refine ⟨⟨2, -1⟩, rfl, ⟨_, _, ⟨?_⟩, ⟨_, _, hx2.out.1.keep (hp.out.2 base hbr) (by decide) (by decide)⟩⟩, ⟨((hk1.out.trans (KT.of_bel hBa hbw1 ST)).trans hx2.out.2).after (by rw [hr0.out]; exact (hp.out.2 r (Nat.le_refl _)).below) hbw⟩⟩
      refine hran1.out.bind ?_
      rw [a3.out, hmay.out]
      exact hc.out.bind (Ran.ret _ _ _)
    · obtain ⟨a1, a2, a3⟩ := loc_even (show 0 < n by omega) (by omega)
      have b0 : (n == 0) = false := by simpa using hz
      have hq0 : 0 ≤ n / 2 - 1 := by omega
      have hq1 : n / 2 - 1 ≤ 9223372036854775807 := by omega
      obtain ⟨q, hq⟩ : ∃ q, n / 2 - 1 = q := ⟨_, rfl⟩
      rw [hq] at a2 a3 hq0 hq1
      replace a3 := Aside0.mk a3
      clear hodd hz hq
      by_cases h160 : q < 160
      · have hmay : mayL (⟨2, q⟩ : SLoc) = true := by unfold mayL; rw [if_neg (show ¬ ((2 : Int) = 1) by decide), if_pos rfl]; simp [h160, hq0]
        have hd : decide (160 ≤ q) = false := by simpa using h160
        replace hmay := Aside0.mk hmay
        have hBa : Bel w1 (w1.alloc (.cells #[.int .i64 2, .int .i64 (q)] 50)) := (Bel.refl w1).alloc _
        have hf1 := fail_any base g l1 e1 5 false A1 c1 _ (hr1.out.step hBa)
        have hc := Ran.chk false (er := 5) (by decide) l1 e1
        obtain ⟨e2, he2⟩ : ∃ e2, (if false = true ∧ e1 = 0 then 5 else e1) = e2 := ⟨_, rfl⟩
        rw [he2] at hf1 hc
        replace hf1 := Aside0.mk hf1
        replace hc := Aside0.mk hc
        clear he2
        have boxa := Aside0.mk (heap_alloc_new w1 (.cells #[.int .i64 2, .int .i64 (q)] 50))
        have ya : (w1.alloc (.cells #[.int .i64 2, .int .i64 (q)] 50)).cell? ⟨w1.heap.size, 1, none⟩ = some (.int .i64 (q)) := blk_cell boxa.out 1

        go_upto_region 5 with (go_at_call 36; ((with_reducible refine hf1.out.mono ?_); rintro ex w2 ⟨rfl, hx2⟩))
        have hb2 := hx2.out.2.blk (bel_blk hb1.out hBa) (by decide)
        have hb3 := hx2.out.2.blk boxa.out (by decide)
        have z0 := blk_frozen hb2 0
        have z1 := blk_frozen hb2 1
        have q0 := blk_cell hb2 0
        have q1 := blk_cell hb2 1
        have y0 := blk_cell hb3 0
        have y1 := blk_cell hb3 1
        have hp := put2 (v0 := .int .i64 2) (v1 := .int .i64 (q)) hb2
        replace hb2 := Aside0.mk hb2
        replace hb3 := Aside0.mk hb3
        replace hp := Aside0.mk hp
        clear ya
        go_wp2
        refine bodyPost_ret (results_cell_row rfl _ _ r 50 #[.int .i64 2, .int .i64 (q)] (0, 0) _ rfl hp.out.1 Tryd.underlying50 rfl (by kernel_rfl)) rfl ?_
        have hbw1 : base ≤ w1.heap.size := Nat.le_trans hbw hk1.out.size
        refine ⟨⟨2, q⟩, rfl, ⟨_, _, ⟨?_⟩, ⟨_, _, hx2.out.1.keep (hp.out.2 base hbr) (by decide) (by decide)⟩⟩, ⟨((hk1.out.trans (KT.of_bel hBa hbw1 ST)).trans hx2.out.2).after (by rw [hr0.out]; exact (hp.out.2 r (Nat.le_refl _)).below) hbw⟩⟩
        refine hran1.out.bind ?_
        rw [a3.out, hmay.out]
        exact hc.out.bind (Ran.ret _ _ _)
      · have hmay : mayL (⟨2, q⟩ : SLoc) = false := by unfold mayL; rw [if_neg (show ¬ ((2 : Int) = 1) by decide), if_pos rfl]; simp [h160]
        replace hmay := Aside0.mk hmay
        have hBa : Bel w1 (w1.alloc (.cells #[.int .i64 2, .int .i64 (q)] 50)) := (Bel.refl w1).alloc _
        have hf1 := fail_any base g l1 e1 5 true A1 c1 _ (hr1.out.step hBa)
        have hc := Ran.chk true (er := 5) (by decide) l1 e1
        obtain ⟨e2, he2⟩ : ∃ e2, (if true = true ∧ e1 = 0 then 5 else e1) = e2 := ⟨_, rfl⟩
        rw [he2] at hf1 hc
        replace hf1 := Aside0.mk hf1
        replace hc := Aside0.mk hc
        clear he2
        have boxa := Aside0.mk (heap_alloc_new w1 (.cells #[.int .i64 2, .int .i64 (q)] 50))
        have ya : (w1.alloc (.cells #[.int .i64 2, .int .i64 (q)] 50)).cell? ⟨w1.heap.size, 1, none⟩ = some (.int .i64 (q)) := blk_cell boxa.out 1

        go_upto_region 5 with (go_at_call 36; ((with_reducible refine hf1.out.mono ?_); rintro ex w2 ⟨rfl, hx2⟩))
        have hb2 := hx2.out.2.blk (bel_blk hb1.out hBa) (by decide)
        have hb3 := hx2.out.2.blk boxa.out (by decide)
        have z0 := blk_frozen hb2 0
        have z1 := blk_frozen hb2 1
        have q0 := blk_cell hb2 0
        have q1 := blk_cell hb2 1
        have y0 := blk_cell hb3 0
        have y1 := blk_cell hb3 1
        have hp := put2 (v0 := .int .i64 2) (v1 := .int .i64 (q)) hb2
        replace hb2 := Aside0.mk hb2
        replace hb3 := Aside0.mk hb3
        replace hp := Aside0.mk hp
        clear ya
        go_wp2
        refine bodyPost_ret (results_cell_row rfl _ _ r 50 #[.int .i64 2, .int .i64 (q)] (0, 0) _ rfl hp.out.1 Tryd.underlying50 rfl (by kernel_rfl)) rfl ?_
        have hbw1 : base ≤ w1.heap.size := Nat.le_trans hbw hk1.out.size
        refine ⟨⟨2, q⟩, rfl, ⟨_, _, ⟨?_⟩, ⟨_, _, hx2.out.1.keep (hp.out.2 base hbr) (by decide) (by decide)⟩⟩, ⟨((hk1.out.trans (KT.of_bel hBa hbw1 ST)).trans hx2.out.2).after (by rw [hr0.out]; exact (hp.out.2 r (Nat.le_refl _)).below) hbw⟩⟩
        refine hran1.out.bind ?_
        rw [a3.out, hmay.out]
        exact hc.out.bind (Ran.ret _ _ _)
end Go.Proofs.YtceibabhmomfiaaDoor.H

/- Plain: the lowest bit of a number, and a number without it. -/
namespace Go.Proofs.YtceibabhmomfiaaDoor.H
open Go.RowKit
set_option linter.unusedVariables false
set_option linter.unusedSimpArgs false

theorem and_u32 (a b : Nat) (ha : a < 4294967296) (hb : b < 4294967296) : bits .and .u32 a b = ((a &&& b : Nat) : Int) := by
  show IntKind.u32.wrap ((BitVec.ofInt 32 a &&& BitVec.ofInt 32 b).toNat : Int) = _
  have h : a &&& b < 2 ^ 32 := Nat.and_lt_two_pow a hb
  rw [BitVec.toNat_and, BitVec.toNat_ofInt, BitVec.toNat_ofInt, IntKind.wrap_u32]
  have e1 : ((a : Int) % ((2 ^ 32 : Nat) : Int)).toNat = a := by omega
  have e2 : ((b : Int) % ((2 ^ 32 : Nat) : Int)).toNat = b := by omega
  rw [e1, e2]
  omega
theorem tb0 (q k : Nat) : (2 * q + 1).testBit k = (if k = 0 then true else q.testBit (k - 1)) := by
  cases k with
  | zero => simp
  | succ k => simp [Nat.testBit_succ]; congr 1; omega
theorem tb1 (q k : Nat) : (2 * q).testBit k = (if k = 0 then false else q.testBit (k - 1)) := by
  cases k with
  | zero => simp
  | succ k => simp [Nat.testBit_succ]
theorem and_pred (q t : Nat) : (2 ^ t * (2 * q + 1)) &&& (2 ^ t * (2 * q + 1) - 1) = 2 ^ t * (2 * q) := by
  have hp := Nat.two_pow_pos t
  have e : 2 ^ t * (2 * q + 1) - 1 = 2 ^ t * (2 * q) + (2 ^ t - 1) := by rw [Nat.mul_add]; omega
  rw [e]
  refine Nat.eq_of_testBit_eq fun j => ?_
  rw [Nat.testBit_and, Nat.testBit_two_pow_mul_add _ (by omega : 2 ^ t - 1 < 2 ^ t), Nat.testBit_two_pow_mul, Nat.testBit_two_pow_mul, tb0, tb1]
  by_cases h : j < t
  · simp [h, Nat.not_le.2 h]
  · rw [if_neg h]
    simp only [Nat.not_lt.1 h, decide_true, Bool.true_and]
    split <;> simp
theorem and_neg (q t : Nat) (ht : t < 32) (h : 2 ^ t * (2 * q + 1) < 4294967296) : (2 ^ t * (2 * q + 1)) &&& (4294967296 - 2 ^ t * (2 * q + 1)) = 2 ^ t := by
  have hp := Nat.two_pow_pos t
  have e32 : 4294967296 = 2 ^ t * (2 * 2 ^ (31 - t)) := by
    have : (4294967296 : Nat) = 2 ^ t * 2 ^ (32 - t) := by rw [← Nat.pow_add, show t + (32 - t) = 32 by omega]
    rw [this, show 32 - t = (31 - t) + 1 by omega, Nat.pow_succ, Nat.mul_comm (2 ^ (31 - t)) 2]
  have hq : q < 2 ^ (31 - t) := by
    rw [e32] at h
    have := Nat.lt_of_mul_lt_mul_left h
    omega
  have e : 4294967296 - 2 ^ t * (2 * q + 1) = 2 ^ t * (2 * (2 ^ (31 - t) - (q + 1)) + 1) := by
    rw [e32, ← Nat.mul_sub]
    congr 1
    omega
  rw [e]
  refine Nat.eq_of_testBit_eq fun j => ?_
  rw [Nat.testBit_and, Nat.testBit_two_pow_mul, Nat.testBit_two_pow_mul, tb0, tb0, Nat.testBit_two_pow_sub_succ hq, Nat.testBit_two_pow]
  by_cases h : t ≤ j
  · simp only [h, decide_true, Bool.true_and]
    by_cases h1 : j - t = 0
    · have : t = j := by omega
      simp [h1, this]
    · have : ¬ t = j := by omega
      rw [if_neg h1, if_neg h1]
      cases q.testBit (j - t - 1) <;> simp [this]
  · have : ¬ t = j := by omega
    simp [h, this]
/-- the places of the bits below t -/
def lowB (m t : Nat) : List Nat := (List.range t).filter fun i => m.testBit i
theorem lowB_same (m t s : Nat) (hts : t ≤ s) (h : ∀ i, t ≤ i → i < s → m.testBit i = false) : lowB m s = lowB m t := by
  induction s with
  | zero => have : t = 0 := by omega
            rw [this]
  | succ s ih =>
    by_cases e : t = s + 1
    · rw [e]
    · unfold lowB
      rw [List.range_succ, List.filter_append]
      have h1 : m.testBit s = false := h s (by omega) (by omega)
      have h2 := ih (by omega) (fun i a b => h i a (by omega))
      unfold lowB at h2
      rw [h2]
      simp [h1]
theorem lowB_snoc (m t s : Nat) (hts : t ≤ s) (h : ∀ i, t ≤ i → i < s → m.testBit i = false) (hs : m.testBit s = true) : lowB m (s + 1) = lowB m t ++ [s] := by
  have h2 := lowB_same m t s hts h
  unfold lowB at h2 ⊢
  rw [List.range_succ, List.filter_append, h2]
  simp [hs]
theorem odd_part (c : Nat) (h : 0 < c) : ∃ s q, c = 2 ^ s * (2 * q + 1) := by
  induction c using Nat.strongRecOn with
  | _ c ih =>
    by_cases ho : c % 2 = 1
    · exact ⟨0, c / 2, by omega⟩
    · obtain ⟨s, q, hq⟩ := ih (c / 2) (by omega) (by omega)
      refine ⟨s + 1, q, ?_⟩
      rw [Nat.pow_succ, Nat.mul_comm (2 ^ s) 2, Nat.mul_assoc, ← hq]
      omega
/-- c is m without the bits below t -/
def Rest (m t c : Nat) : Prop := ∀ i, c.testBit i = (decide (t ≤ i) && m.testBit i)
theorem Rest.start (m : Nat) : Rest m 0 m := fun i => by simp
theorem Rest.stop {m t : Nat} (h : Rest m t 0) (hm : m < 4294967296) (ht : t ≤ 32) : lowB m 32 = lowB m t := by
  refine lowB_same m t 32 ht fun i hi _ => ?_
  have := h i
  simp [hi] at this
  exact this
theorem Rest.go {m t s q : Nat} (h : Rest m t (2 ^ s * (2 * q + 1))) (hm : m < 4294967296) :
    t ≤ s ∧ s < 32 ∧ lowB m (s + 1) = lowB m t ++ [s] ∧ Rest m (s + 1) (2 ^ s * (2 * q)) := by
  have hb : ∀ i, (2 ^ s * (2 * q + 1)).testBit i = (decide (s ≤ i) && (if i - s = 0 then true else q.testBit (i - s - 1))) := fun i => by rw [Nat.testBit_two_pow_mul, tb0]
  have hc : ∀ i, (2 ^ s * (2 * q)).testBit i = (decide (s ≤ i) && (if i - s = 0 then false else q.testBit (i - s - 1))) := fun i => by rw [Nat.testBit_two_pow_mul, tb1]
  have h1 := h s
  rw [hb s] at h1
  simp at h1
  have hs32 : s < 32 := by
    refine Classical.byContradiction fun hn => ?_
    have : m.testBit s = false := Nat.testBit_lt_two_pow (Nat.lt_of_lt_of_le hm (by
      have : 2 ^ 32 ≤ 2 ^ s := Nat.pow_le_pow_right (by decide) (by omega)
      exact this))
    rw [this] at h1
    exact absurd h1.2 (by decide)
  refine ⟨h1.1, hs32, lowB_snoc m t s h1.1 (fun i a b => ?_) h1.2, fun i => ?_⟩
  · have := h i
    rw [hb i] at this
    simp [a, Nat.not_le.2 b] at this
    exact this
  · rw [hc i]
    have h2 := h i
    rw [hb i] at h2
    by_cases hi : s + 1 ≤ i
    · have e1 : ¬ i - s = 0 := by omega
      have e2 : s ≤ i := by omega
      have e3 : t ≤ i := by omega
      simp only [e1, e2, e3, hi, decide_true, Bool.true_and, if_false] at h2 ⊢
      exact h2
    · by_cases e2 : s ≤ i
      · have e1 : i - s = 0 := by omega
        simp [e1, hi]
      · simp [e2, hi]
theorem bitsOf_low (m : Nat) : bitsOf (m : Int) = (lowB m 32).map fun (i : Nat) => (⟨1, (i : Int)⟩ : SLoc) := by
  unfold bitsOf lowB
  congr 1
  refine List.filter_congr fun i _ => ?_
  rw [Nat.testBit_eq_decide_div_mod_eq]
  refine decide_eq_decide.2 ?_
  have e : (2 : Int) ^ i = ((2 ^ i : Nat) : Int) := by push_cast; rfl
  rw [e]
  omega
theorem rest_lt {m t c : Nat} (h : Rest m t c) (hm : m < 4294967296) : c < 4294967296 := by
  have : c ≤ m := by
    refine Nat.le_of_testBit ?_
    intro i hi
    have := h i
    rw [hi] at this
    simp at this
    exact this.2.symm ▸ rfl
  omega
end Go.Proofs.YtceibabhmomfiaaDoor.H
