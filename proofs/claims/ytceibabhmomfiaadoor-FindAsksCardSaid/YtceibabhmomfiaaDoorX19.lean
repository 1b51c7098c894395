/- Texts of this work, joined: Px2, Px3. Conditions: each stands with its theorem. -/
import Derived.Test.YtceibabhmomfiaaDoorX11
import Derived.Test.YtceibabhmomfiaaDoorX06
import Derived.Test.YtceibabhmomfiaaDoorX12
/- Layer 3, the reference: places, and whether a list has one. -/
namespace Go.Proofs.YtceibabhmomfiaaDoor.H
open Go.RowKit Go.Proofs.YtceibabhmomfiaaDoorW.PrintWords Go.Proofs.YtceibabhmomfiaaDoorW.PrintLast
set_option linter.unusedVariables false
set_option linter.unusedSimpArgs false
set_option maxRecDepth 100000

set_option maxHeartbeats 4000000 in
theorem rloc_any (base g : Nat) (l : List Int) (e : Int) (w : World) (hR : IsRA 68 base w g l e) :
    Calls Tryd.prog 66 #[.pointer (some ⟨g, 0, none⟩)] w fun ex w' => ∃ x : SLoc, ex = .returned (.agg #[.int .i64 x.f0, .int .i64 x.f1]) ∧ Left pLoc 68 base w g l e x w' := by
  obtain ⟨A, c, hr⟩ := hR.out
  have hbw := hr.lt
  have hB0 : Bel w (w.alloc (.cells #[.int .i64 0, .int .i64 0] 50)) := (Bel.refl w).alloc _
  have hcall := Aside0.mk (rnum_any mx 5 (by decide) (by decide) (by decide) base g l e _ ⟨⟨A, c, hr.step hB0⟩⟩)
  have box := Aside0.mk (heap_alloc_new w (.cells #[.int .i64 0, .int .i64 0] 50))
  replace hr := Aside0.mk hr
  go_enter Tryd.func66, Tryd.ntmps66
  go_upto_region 2 with (go_at_call 37; ((with_reducible refine hcall.out.mono ?_); rintro ex w1 ⟨n, rfl, hT, hn1⟩))
  obtain ⟨l1, e1, hran1, hR1, _⟩ := hT.ran
  have hn0 := hT.ge
  replace hn1 : n ≤ 9223372036854775807 := hn1
  have hk1 := Aside0.mk ((KT.of_bel hB0 hbw ST).trans hT.kt.out)
  have hb1 := Aside0.mk (hT.kt.out.blk box.out (by decide))
  obtain ⟨A1, c1, hr1⟩ := hR1.out
  obtain ⟨r, hr0⟩ : ∃ r, w.heap.size = r := ⟨_, rfl⟩
  rw [hr0] at hb1 ⊢
  have hbr : base ≤ r := by rw [← hr0]; exact hbw
  replace hr0 := Aside0.mk hr0
  have y1 : w1.cell? ⟨g, 1, none⟩ = some (.int .i64 e1) := blk_cell hr1.blk 1
  clear hT hcall hR1 box hB0 hr hR
  by_cases he : e1 = 0
  · subst he
    have hun := Aside0.mk (Uncode_any n hn0 hn1 w1)
    have hch := Aside0.mk (Ran.chk (!mayL (locN n)) (er := 5) (by decide) l1 0)
    replace hr1 := Aside0.mk hr1
    by_cases hz : n = 0
    · have hu : uncL n = (⟨0, 0⟩, false) := by rw [hz]; rfl
      have hm : mayL (locN n) = false := by rw [hz]; rfl
      replace hz := Aside0.mk hz
      rw [hu] at hun
      rw [hm] at hch
      replace hu := Aside0.mk hu
      replace hm := Aside0.mk hm
      go_upto_region 5 with (go_at_call 88; ((with_reducible refine hun.out.mono ?_); rintro ex w2 ⟨rfl, hB2⟩))
      have hB3 := hB2.alloc (.cells #[.int .i64 0, .int .i64 (0)] 50)
      have hb3 := heap_alloc_new w2 (.cells #[.int .i64 0, .int .i64 (0)] 50)
      generalize w2.alloc (.cells #[.int .i64 0, .int .i64 (0)] 50) = w3 at hB3 hb3 ⊢
      obtain ⟨b, hbb⟩ : ∃ b, w2.heap.size = b := ⟨_, rfl⟩
      rw [hbb] at hb3 ⊢
      have hrb : r ≠ b := by have := blk_lt hb1.out; have := hB2.size; omega
      have hr3 := hr1.out.step hB3
      have hb13 := bel_blk hb1.out hB3
      have f3 := blk_frozen hr3.blk 1
      have y3 : w3.cell? ⟨g, 1, none⟩ = some (.int .i64 0) := blk_cell hr3.blk 1
      have v0 : w3.cell? ⟨b, 0, none⟩ = some (.int .i64 0) := blk_cell hb3 0
      have v1 : w3.cell? ⟨b, 1, none⟩ = some (.int .i64 (0)) := blk_cell hb3 1
      have hk3 := Aside0.mk (hk1.out.trans (KT.of_bel hB3 hr1.out.lt ST))
      replace hbb := Aside0.mk hbb
      have hs := hr3.setE (by decide) 5
      have hbs := hs.2.blk hb13 (by decide)
      have hvs := hs.2.blk hb3 (by decide)
      have u0 : (w3.setCell ⟨g, 1, none⟩ (.int .i64 5)).cell? ⟨b, 0, none⟩ = some (.int .i64 0) := blk_cell hvs 0
      have u1 : (w3.setCell ⟨g, 1, none⟩ (.int .i64 5)).cell? ⟨b, 1, none⟩ = some (.int .i64 (0)) := blk_cell hvs 1
      have z0 := blk_frozen hbs 0
      have z1 := blk_frozen hbs 1
      have q0 : (w3.setCell ⟨g, 1, none⟩ (.int .i64 5)).cell? ⟨r, 0, none⟩ = _ := blk_cell hbs 0
      have q1 : (w3.setCell ⟨g, 1, none⟩ (.int .i64 5)).cell? ⟨r, 1, none⟩ = _ := blk_cell hbs 1
      have hp := put2 (v0 := .int .i64 0) (v1 := .int .i64 (0)) hbs
      replace hp := Aside0.mk hp
      replace hs := Aside0.mk hs
      replace hbs := Aside0.mk hbs
      replace hvs := Aside0.mk hvs
      replace hb13 := Aside0.mk hb13
      replace hb3 := Aside0.mk hb3
      replace hr3 := Aside0.mk hr3
      go_wp2
      refine bodyPost_ret (results_cell_row rfl _ _ r 50 #[.int .i64 0, .int .i64 (0)] (0, 0) _ rfl hp.out.1 Tryd.underlying50 rfl (by kernel_rfl)) rfl ?_
      refine ⟨⟨0, 0⟩, rfl, ⟨_, _, ⟨hran1.out.bind ?_⟩, ⟨_, _, hs.out.1.keep (hp.out.2 base hbr) (by decide) (by decide)⟩⟩, ⟨(hk3.out.trans hs.out.2).after (by rw [hr0.out]; exact (hp.out.2 r (Nat.le_refl _)).below) hbw⟩⟩
      rw [hm.out]
      exact hch.out.bind (Ran.bad_ _ _ (by decide) _ _)
    · by_cases ho : n % 2 = 1
      · obtain ⟨_, _, a3, _⟩ := loc_odd hn0 ho
        by_cases hg : 31 < n / 2
        · have hu : uncL n = (⟨0, 0⟩, false) := by unfold uncL; rw [if_neg (by omega), if_pos ho, if_pos hg]
          have hm : mayL (locN n) = false := by rw [a3]; unfold mayL; rw [if_pos rfl]; simp; omega
          clear a3
          replace ho := Aside0.mk ho
          rw [hu] at hun
          rw [hm] at hch
          replace hu := Aside0.mk hu
          replace hm := Aside0.mk hm
          go_upto_region 5 with (go_at_call 88; ((with_reducible refine hun.out.mono ?_); rintro ex w2 ⟨rfl, hB2⟩))
          have hB3 := hB2.alloc (.cells #[.int .i64 0, .int .i64 (0)] 50)
          have hb3 := heap_alloc_new w2 (.cells #[.int .i64 0, .int .i64 (0)] 50)
          generalize w2.alloc (.cells #[.int .i64 0, .int .i64 (0)] 50) = w3 at hB3 hb3 ⊢
          obtain ⟨b, hbb⟩ : ∃ b, w2.heap.size = b := ⟨_, rfl⟩
          rw [hbb] at hb3 ⊢
          have hrb : r ≠ b := by have := blk_lt hb1.out; have := hB2.size; omega
          have hr3 := hr1.out.step hB3
          have hb13 := bel_blk hb1.out hB3
          have f3 := blk_frozen hr3.blk 1
          have y3 : w3.cell? ⟨g, 1, none⟩ = some (.int .i64 0) := blk_cell hr3.blk 1
          have v0 : w3.cell? ⟨b, 0, none⟩ = some (.int .i64 0) := blk_cell hb3 0
          have v1 : w3.cell? ⟨b, 1, none⟩ = some (.int .i64 (0)) := blk_cell hb3 1
          have hk3 := Aside0.mk (hk1.out.trans (KT.of_bel hB3 hr1.out.lt ST))
          replace hbb := Aside0.mk hbb
          have hs := hr3.setE (by decide) 5
          have hbs := hs.2.blk hb13 (by decide)
          have hvs := hs.2.blk hb3 (by decide)
          have u0 : (w3.setCell ⟨g, 1, none⟩ (.int .i64 5)).cell? ⟨b, 0, none⟩ = some (.int .i64 0) := blk_cell hvs 0
          have u1 : (w3.setCell ⟨g, 1, none⟩ (.int .i64 5)).cell? ⟨b, 1, none⟩ = some (.int .i64 (0)) := blk_cell hvs 1
          have z0 := blk_frozen hbs 0
          have z1 := blk_frozen hbs 1
          have q0 : (w3.setCell ⟨g, 1, none⟩ (.int .i64 5)).cell? ⟨r, 0, none⟩ = _ := blk_cell hbs 0
          have q1 : (w3.setCell ⟨g, 1, none⟩ (.int .i64 5)).cell? ⟨r, 1, none⟩ = _ := blk_cell hbs 1
          have hp := put2 (v0 := .int .i64 0) (v1 := .int .i64 (0)) hbs
          replace hp := Aside0.mk hp
          replace hs := Aside0.mk hs
          replace hbs := Aside0.mk hbs
          replace hvs := Aside0.mk hvs
          replace hb13 := Aside0.mk hb13
          replace hb3 := Aside0.mk hb3
          replace hr3 := Aside0.mk hr3
          go_wp2
          refine bodyPost_ret (results_cell_row rfl _ _ r 50 #[.int .i64 0, .int .i64 (0)] (0, 0) _ rfl hp.out.1 Tryd.underlying50 rfl (by kernel_rfl)) rfl ?_
          refine ⟨⟨0, 0⟩, rfl, ⟨_, _, ⟨hran1.out.bind ?_⟩, ⟨_, _, hs.out.1.keep (hp.out.2 base hbr) (by decide) (by decide)⟩⟩, ⟨(hk3.out.trans hs.out.2).after (by rw [hr0.out]; exact (hp.out.2 r (Nat.le_refl _)).below) hbw⟩⟩
          rw [hm.out]
          exact hch.out.bind (Ran.bad_ _ _ (by decide) _ _)
        · have hu : uncL n = (⟨1, n / 2⟩, true) := by unfold uncL; rw [if_neg (by omega), if_pos ho, if_neg hg]
          have hm : mayL (locN n) = true := by rw [a3]; unfold mayL; rw [if_pos rfl]; simp; omega
          obtain ⟨q, hq⟩ : ∃ q, n / 2 = q := ⟨_, rfl⟩
          rw [hq] at a3 hu
          replace a3 := Aside0.mk a3
          replace ho := Aside0.mk ho
          clear hq
          rw [hu] at hun
          rw [hm] at hch
          replace hu := Aside0.mk hu
          replace hm := Aside0.mk hm
          go_upto_region 5 with (go_at_call 88; ((with_reducible refine hun.out.mono ?_); rintro ex w2 ⟨rfl, hB2⟩))
          have hB3 := hB2.alloc (.cells #[.int .i64 1, .int .i64 (q)] 50)
          have hb3 := heap_alloc_new w2 (.cells #[.int .i64 1, .int .i64 (q)] 50)
          generalize w2.alloc (.cells #[.int .i64 1, .int .i64 (q)] 50) = w3 at hB3 hb3 ⊢
          obtain ⟨b, hbb⟩ : ∃ b, w2.heap.size = b := ⟨_, rfl⟩
          rw [hbb] at hb3 ⊢
          have hrb : r ≠ b := by have := blk_lt hb1.out; have := hB2.size; omega
          have hr3 := hr1.out.step hB3
          have hb13 := bel_blk hb1.out hB3
          have f3 := blk_frozen hr3.blk 1
          have y3 : w3.cell? ⟨g, 1, none⟩ = some (.int .i64 0) := blk_cell hr3.blk 1
          have v0 : w3.cell? ⟨b, 0, none⟩ = some (.int .i64 1) := blk_cell hb3 0
          have v1 : w3.cell? ⟨b, 1, none⟩ = some (.int .i64 (q)) := blk_cell hb3 1
          have hk3 := Aside0.mk (hk1.out.trans (KT.of_bel hB3 hr1.out.lt ST))
          replace hbb := Aside0.mk hbb
          have z0 := blk_frozen hb13 0
          have z1 := blk_frozen hb13 1
          have q0 := blk_cell hb13 0
          have q1 := blk_cell hb13 1
          have hp := put2 (v0 := .int .i64 1) (v1 := .int .i64 (q)) hb13
          replace hp := Aside0.mk hp
          replace hb13 := Aside0.mk hb13
          replace hb3 := Aside0.mk hb3
          replace hr3 := Aside0.mk hr3
          go_wp2
          refine bodyPost_ret (results_cell_row rfl _ _ r 50 #[.int .i64 1, .int .i64 (q)] (0, 0) _ rfl hp.out.1 Tryd.underlying50 rfl (by kernel_rfl)) rfl ?_
          refine ⟨⟨1, q⟩, rfl, ⟨_, _, ⟨hran1.out.bind ?_⟩, ⟨_, _, hr3.out.keep (hp.out.2 base hbr) (by decide) (by decide)⟩⟩, ⟨hk3.out.after (by rw [hr0.out]; exact (hp.out.2 r (Nat.le_refl _)).below) hbw⟩⟩
          rw [hm.out]
          refine hch.out.bind ?_
          exact (by rw [a3.out]; exact Ran.ret _ _ _)
      · obtain ⟨_, _, a3⟩ := loc_even (show 0 < n by omega) (by omega)
        have hu : uncL n = (⟨2, n / 2 - 1⟩, true) := by unfold uncL; rw [if_neg (by omega), if_neg ho]
        have hq0 : 0 ≤ n / 2 - 1 := by omega
        obtain ⟨q, hq⟩ : ∃ q, n / 2 - 1 = q := ⟨_, rfl⟩
        rw [hq] at a3 hu hq0
        clear hq
        by_cases hg : 159 < q
        · have hm : mayL (locN n) = false := by rw [a3]; unfold mayL; rw [if_neg (show ¬ ((2 : Int) = 1) by decide), if_pos rfl]; simp; omega
          replace a3 := Aside0.mk a3
          replace ho := Aside0.mk ho
          replace hz := Aside0.mk hz
          rw [hu] at hun
          rw [hm] at hch
          replace hu := Aside0.mk hu
          replace hm := Aside0.mk hm
          go_upto_region 5 with (go_at_call 88; ((with_reducible refine hun.out.mono ?_); rintro ex w2 ⟨rfl, hB2⟩))
          have hB3 := hB2.alloc (.cells #[.int .i64 2, .int .i64 (q)] 50)
          have hb3 := heap_alloc_new w2 (.cells #[.int .i64 2, .int .i64 (q)] 50)
          generalize w2.alloc (.cells #[.int .i64 2, .int .i64 (q)] 50) = w3 at hB3 hb3 ⊢
          obtain ⟨b, hbb⟩ : ∃ b, w2.heap.size = b := ⟨_, rfl⟩
          rw [hbb] at hb3 ⊢
          have hrb : r ≠ b := by have := blk_lt hb1.out; have := hB2.size; omega
          have hr3 := hr1.out.step hB3
          have hb13 := bel_blk hb1.out hB3
          have f3 := blk_frozen hr3.blk 1
          have y3 : w3.cell? ⟨g, 1, none⟩ = some (.int .i64 0) := blk_cell hr3.blk 1
          have v0 : w3.cell? ⟨b, 0, none⟩ = some (.int .i64 2) := blk_cell hb3 0
          have v1 : w3.cell? ⟨b, 1, none⟩ = some (.int .i64 (q)) := blk_cell hb3 1
          have hk3 := Aside0.mk (hk1.out.trans (KT.of_bel hB3 hr1.out.lt ST))
          replace hbb := Aside0.mk hbb
          have hs := hr3.setE (by decide) 5
          have hbs := hs.2.blk hb13 (by decide)
          have hvs := hs.2.blk hb3 (by decide)
          have u0 : (w3.setCell ⟨g, 1, none⟩ (.int .i64 5)).cell? ⟨b, 0, none⟩ = some (.int .i64 2) := blk_cell hvs 0
          have u1 : (w3.setCell ⟨g, 1, none⟩ (.int .i64 5)).cell? ⟨b, 1, none⟩ = some (.int .i64 (q)) := blk_cell hvs 1
          have z0 := blk_frozen hbs 0
          have z1 := blk_frozen hbs 1
          have q0 : (w3.setCell ⟨g, 1, none⟩ (.int .i64 5)).cell? ⟨r, 0, none⟩ = _ := blk_cell hbs 0
          have q1 : (w3.setCell ⟨g, 1, none⟩ (.int .i64 5)).cell? ⟨r, 1, none⟩ = _ := blk_cell hbs 1
          have hp := put2 (v0 := .int .i64 2) (v1 := .int .i64 (q)) hbs
          replace hp := Aside0.mk hp
          replace hs := Aside0.mk hs
          replace hbs := Aside0.mk hbs
          replace hvs := Aside0.mk hvs
          replace hb13 := Aside0.mk hb13
          replace hb3 := Aside0.mk hb3
          replace hr3 := Aside0.mk hr3
          go_wp2
          refine bodyPost_ret (results_cell_row rfl _ _ r 50 #[.int .i64 2, .int .i64 (q)] (0, 0) _ rfl hp.out.1 Tryd.underlying50 rfl (by kernel_rfl)) rfl ?_
          refine ⟨⟨2, q⟩, rfl, ⟨_, _, ⟨hran1.out.bind ?_⟩, ⟨_, _, hs.out.1.keep (hp.out.2 base hbr) (by decide) (by decide)⟩⟩, ⟨(hk3.out.trans hs.out.2).after (by rw [hr0.out]; exact (hp.out.2 r (Nat.le_refl _)).below) hbw⟩⟩
          rw [hm.out]
          exact hch.out.bind (Ran.bad_ _ _ (by decide) _ _)
        · have hm : mayL (locN n) = true := by rw [a3]; unfold mayL; rw [if_neg (show ¬ ((2 : Int) = 1) by decide), if_pos rfl]; simp; omega
          replace a3 := Aside0.mk a3
          replace ho := Aside0.mk ho
          replace hz := Aside0.mk hz
          rw [hu] at hun
          rw [hm] at hch
          replace hu := Aside0.mk hu
          replace hm := Aside0.mk hm
          go_upto_region 5 with (go_at_call 88; ((with_reducible refine hun.out.mono ?_); rintro ex w2 ⟨rfl, hB2⟩))
          have hB3 := hB2.alloc (.cells #[.int .i64 2, .int .i64 (q)] 50)
          have hb3 := heap_alloc_new w2 (.cells #[.int .i64 2, .int .i64 (q)] 50)
          generalize w2.alloc (.cells #[.int .i64 2, .int .i64 (q)] 50) = w3 at hB3 hb3 ⊢
          obtain ⟨b, hbb⟩ : ∃ b, w2.heap.size = b := ⟨_, rfl⟩
          rw [hbb] at hb3 ⊢
          have hrb : r ≠ b := by have := blk_lt hb1.out; have := hB2.size; omega
          have hr3 := hr1.out.step hB3
          have hb13 := bel_blk hb1.out hB3
          have f3 := blk_frozen hr3.blk 1
          have y3 : w3.cell? ⟨g, 1, none⟩ = some (.int .i64 0) := blk_cell hr3.blk 1
          have v0 : w3.cell? ⟨b, 0, none⟩ = some (.int .i64 2) := blk_cell hb3 0
          have v1 : w3.cell? ⟨b, 1, none⟩ = some (.int .i64 (q)) := blk_cell hb3 1
          have hk3 := Aside0.mk (hk1.out.trans (KT.of_bel hB3 hr1.out.lt ST))
          replace hbb := Aside0.mk hbb
          have z0 := blk_frozen hb13 0
          have z1 := blk_frozen hb13 1
          have q0 := blk_cell hb13 0
          have q1 := blk_cell hb13 1
          have hp := put2 (v0 := .int .i64 2) (v1 := .int .i64 (q)) hb13
          replace hp := Aside0.mk hp
          replace hb13 := Aside0.mk hb13
          replace hb3 := Aside0.mk hb3
          replace hr3 := Aside0.mk hr3
          go_wp2
          refine bodyPost_ret (results_cell_row rfl _ _ r 50 #[.int .i64 2, .int .i64 (q)] (0, 0) _ rfl hp.out.1 Tryd.underlying50 rfl (by kernel_rfl)) rfl ?_
          refine ⟨⟨2, q⟩, rfl, ⟨_, _, ⟨hran1.out.bind ?_⟩, ⟨_, _, hr3.out.keep (hp.out.2 base hbr) (by decide) (by decide)⟩⟩, ⟨hk3.out.after (by rw [hr0.out]; exact (hp.out.2 r (Nat.le_refl _)).below) hbw⟩⟩
          rw [hm.out]
          refine hch.out.bind ?_
          exact (by rw [a3.out]; exact Ran.ret _ _ _)
  · have b2 : (e1 != 0) = true := by simpa using he
    have z0 := blk_frozen hb1.out 0
    have z1 := blk_frozen hb1.out 1
    have q0 := blk_cell hb1.out 0
    have q1 := blk_cell hb1.out 1
    have hp := put2 (v0 := .int .i64 0) (v1 := .int .i64 0) hb1.out
    replace hp := Aside0.mk hp
    replace he := Aside0.mk he
    replace hr1 := Aside0.mk hr1
    go_wp2
    refine bodyPost_ret (results_cell_row rfl _ _ r 50 #[.int .i64 0, .int .i64 0] (0, 0) _ rfl hp.out.1 Tryd.underlying50 rfl (by kernel_rfl)) rfl ?_
    exact ⟨⟨0, 0⟩, rfl, ⟨_, _, ⟨hran1.out.err he.out _⟩, ⟨_, _, hr1.out.keep (hp.out.2 base hbr) (by decide) (by decide)⟩⟩, ⟨hk1.out.after (by rw [hr0.out]; exact (hp.out.2 r (Nat.le_refl _)).below) hbw⟩⟩
attribute [local go_sem high] eqLoc
set_option maxHeartbeats 1000000 in
theorem rhas_any (A : Option Addr) (c : Nat) (l : List SLoc) (x : SLoc) (w : World) (HR : Rd kLoc w A l) (hl : l.length ≤ 1000000000) :
    Calls Tryd.prog 67 #[.slice A l.length c, .agg #[.int .i64 x.f0, .int .i64 x.f1]] w fun e w' => e = .returned (.bool (decide (x ∈ l))) ∧ Bel w w' := by
  have hu := Tryd.underlying50
  have hB0 := (Bel.refl w).alloc (.cells #[.int .i64 x.f0, .int .i64 x.f1] 50)
  have hb0 := heap_alloc_new w (.cells #[.int .i64 x.f0, .int .i64 x.f1] 50)
  go_enter Tryd.func67, Tryd.ntmps67
  go_upto_region 1 with (fail)
  generalize w.alloc (.cells #[.int .i64 x.f0, .int .i64 x.f1] 50) = wa at hB0 hb0 ⊢
  obtain ⟨b, hb⟩ : ∃ b, w.heap.size = b := ⟨_, rfl⟩
  rw [hb] at hb0 ⊢
  replace hb := Aside0.mk hb
  have hRa := HR.step hB0
  replace hb0 := Aside0.mk hb0
  go_wp2
  go_loopw [5] (fun i W => ∃ k : Nat, k ≤ l.length ∧ i = .int .i64 k ∧ Bel wa W ∧ Aside0 (∀ j (hj : j < l.length), j < k → l[j] ≠ x)) (fun i _ => l.length - (intOf i).toNat)
  case atStart => exact ⟨0, by omega, rfl, Bel.refl _, ⟨fun j _ h => absurd h (by omega)⟩⟩
  case round =>
    obtain ⟨k, hk, rfl, hBr, hno⟩ := hrel
    by_cases hlt : k < l.length
    · obtain ⟨ad, rfl, c0, c1⟩ := loc_at (hRa.step hBr) k hlt
      have hbk := bel_blk hb0.out hBr
      have x0 := blk_cell hbk 0
      have x1 := blk_cell hbk 1
      obtain ⟨y, hy⟩ : ∃ y, l[k] = y := ⟨_, rfl⟩
      rw [hy] at c0 c1
      replace hbk := Aside0.mk hbk
      by_cases hxy : x = y
      · have hq : (y.f0 == x.f0 && (y.f1 == x.f1)) = true := by rw [eq_loc]; exact decide_eq_true hxy.symm
        have hin : Aside0 (decide (x ∈ l) = true) := ⟨decide_eq_true (by rw [hxy, ← hy]; exact List.getElem_mem hlt)⟩
        replace hxy := Aside0.mk hxy
        replace hy := Aside0.mk hy
        go_upto_region 4 with (fail)
        go_region_law (fail)
        all_goals
          go_wp2
          go_ret
          exact ⟨by rw [hin.out]; rfl, hB0.trans (hBr.drewN 1)⟩
      · have hq : (y.f0 == x.f0 && (y.f1 == x.f1)) = false := by rw [eq_loc]; exact decide_eq_false (fun q => hxy q.symm)
        replace hxy := Aside0.mk hxy
        replace hy := Aside0.mk hy
        go_upto_region 4 with (fail)
        go_region_law (fail)
        all_goals
          go_wp2
          go_roundw
          case rel =>
            refine ⟨k + 1, by omega, by go_num, hBr.drewN 1, ⟨fun j hj hjk => ?_⟩⟩
            by_cases e : j = k
            · subst e
              rw [hy.out]
              exact fun q => hxy.out q.symm
            · exact hno.out j hj (by omega)
          case measure => simp [intOf]; omega
    · have hni : Aside0 (decide (x ∈ l) = false) := ⟨decide_eq_false fun hm => by
        obtain ⟨j, hj, e⟩ := List.getElem_of_mem hm
        exact hno.out j hj (by omega) e⟩
      go_wp2
      go_ret
      exact ⟨by rw [hni.out]; rfl, hB0.trans hBr⟩
end Go.Proofs.YtceibabhmomfiaaDoor.H

/- Layer 3, the reference: one place before another, places that may be, and lists that have one. -/
namespace Go.Proofs.YtceibabhmomfiaaDoor.H
open Go.RowKit Go.Proofs.YtceibabhmomfiaaDoorW.PrintWords Go.Proofs.YtceibabhmomfiaaDoorW.PrintLast
set_option linter.unusedVariables false
set_option linter.unusedSimpArgs false
set_option maxRecDepth 100000

set_option maxHeartbeats 1000000 in
theorem rBefore_any (x y : SLoc) (w : World) : Calls Tryd.prog 50 #[.agg #[.int .i64 x.f0, .int .i64 x.f1], .agg #[.int .i64 y.f0, .int .i64 y.f1]] w fun e w' => e = .returned (.bool (befL x y)) ∧ Bel w w' := by
  have hB0 := ((Bel.refl w).alloc (.cells #[.int .i64 x.f0, .int .i64 x.f1] 50)).alloc (.cells #[.int .i64 y.f0, .int .i64 y.f1] 50)
  by_cases h1 : x.f0 < y.f0
  · have hb : Aside0 (befL x y = true) := ⟨(bef_iff x y).2 (.inl h1)⟩
    go_enter Tryd.func50, Tryd.ntmps50
    go_wp2
    go_ret
    exact ⟨by rw [hb.out]; rfl, hB0⟩
  · have b1 : decide (x.f0 < y.f0) = false := decide_eq_false h1
    by_cases h2 : x.f0 = y.f0
    · have b2 : (x.f0 == y.f0) = true := by simpa using h2
      by_cases h3 : x.f1 < y.f1
      · have hb : Aside0 (befL x y = true) := ⟨(bef_iff x y).2 (.inr ⟨h2, h3⟩)⟩
        clear h1
        replace h2 := Aside0.mk h2
        go_enter Tryd.func50, Tryd.ntmps50
        go_wp2
        go_ret
        exact ⟨by rw [hb.out]; rfl, hB0⟩
      · have hb : Aside0 (befL x y = false) := ⟨by rw [← Bool.not_eq_true, bef_iff]; rintro (q | q); exact h1 q; exact h3 q.2⟩
        clear h1
        replace h2 := Aside0.mk h2
        go_enter Tryd.func50, Tryd.ntmps50
        go_wp2
        go_ret
        exact ⟨by rw [hb.out]; rfl, hB0⟩
    · have b2 : (x.f0 == y.f0) = false := by simpa using h2
      have hb : Aside0 (befL x y = false) := ⟨by rw [← Bool.not_eq_true, bef_iff]; rintro (q | q); exact h1 q; exact h2 q.1⟩
      clear h1
      replace h2 := Aside0.mk h2
      go_enter Tryd.func50, Tryd.ntmps50
      go_wp2
      go_ret
      exact ⟨by rw [hb.out]; rfl, hB0⟩
end Go.Proofs.YtceibabhmomfiaaDoor.H
