/- Layer 3, the reference: the reader takes numbers, what rises, places. -/
import Derived.Test.YtceibabhmomfiaaDoorPr9
import Derived.Test.YtceibabhmomfiaaDoorRv
import Derived.Laws.ResultCell
namespace Go.Proofs.YtceibabhmomfiaaDoor.H
open Go.RowKit Go.Proofs.YtceibabhmomfiaaDoorW.PrintWords Go.Proofs.YtceibabhmomfiaaDoorW.PrintLast
set_option linter.unusedVariables false
set_option linter.unusedSimpArgs false
set_option maxRecDepth 100000

theorem results_cell_row2 {P : Program} {fn : Func} {p u : Tmp} {ty : TypeId} (h : fn.results = #[.cell p ty, .tmp u]) (tmps : Array Value) (w : World) (g : Nat) (t : TypeId) (cs : Array Value) (fr : Nat × Nat) (d : TypeDesc)
    (hp : tmps.getD p undef = .pointer (some ⟨g, 0, none⟩)) (hg : w.heap[g]? = some (.cells cs t fr))
    (hu : P.underlying ty = some d) (hd : (match d with | .struct _ | .array _ _ => true | _ => false) = true) (hi : (P.info? ty).map (·.size) = some cs.size) :
    (results fn tmps).run P w = .ok (.tuple #[.agg cs, tmps.getD u undef]) w := by
  rw [results_cell_tmp h, hp]
  simp [asAddr, run_loadVar_row w g t ty cs fr d hg hu hd hi, Result.andThen]
set_option maxHeartbeats 2000000 in
theorem rnum_any (most er : Int) (h0 : 0 ≤ most) (h1 : most ≤ mx) (her : er ≠ 0) (base g : Nat) (l : List Int) (e : Int) (w : World) (hR : IsRA 68 base w g l e) :
    Calls Tryd.prog 37 #[.pointer (some ⟨g, 0, none⟩), .int .i64 most, .int .i64 er] w fun ex w' => ∃ n, ex = .returned (.int .i64 n) ∧ Took (pUp most er) 68 base w g l e n w' ∧ n ≤ most := by
  obtain ⟨A, c, hr⟩ := hR.out
  have x0 : w.cell? ⟨g, 0, none⟩ = some (.slice A l.length c) := blk_cell hr.blk 0
  have x1 : w.cell? ⟨g, 1, none⟩ = some (.int .i64 e) := blk_cell hr.blk 1
  have f0 := blk_frozen hr.blk 0
  have f1 := blk_frozen hr.blk 1
  have hlen := hr.len
  have hcap := hr.cap
  have her1 : (er != 0) = true := by simpa using her
  replace her := Aside0.mk her
  by_cases he : e = 0
  · subst he
    have hg := getL_got 9 (by decide) l hr.by_.out
    have hcall := Aside0.mk (refGet_any A c l w hr.cap hr.rd.now hr.by_ (by omega))
    have hru := @Ran.num_ok l
    have hre := @Ran.num_er l
    have hb0 := hg.ge
    have hb1 := hg.le9 (by decide)
    have hg1 := hg.sz.1
    have hg2 := hg.sz.2.2
    have hg3 := Aside0.mk hg.er
    obtain ⟨p, hp⟩ : ∃ p, getL 9 l = p := ⟨_, rfl⟩
    rw [hp] at hcall hru hre hg1 hg2 hg3 hb0 hb1
    clear hp hg
    obtain ⟨n, sz, ec⟩ := p
    simp only at hcall hru hre hg1 hg2 hg3 hb0 hb1
    by_cases h0e : ec = 0
    · subst h0e
      have hru1 := Aside0.mk (hru rfl)
      have hup := Aside0.mk (hru1.out.up (most := most) her.out (fun q => absurd rfl q) h0)
      clear hre hru hg3
      by_cases hm : most < n
      · rw [if_pos hm, if_pos hm] at hup
        have hs := Aside0.mk (hr.setE (by decide) er)
        replace hr := Aside0.mk hr
        go_enter Tryd.func37, Tryd.ntmps37
        go_wp2_with (go_at_call 64; ((with_reducible refine hcall.out.mono ?_); rintro ex w' ⟨rfl, rfl⟩))
        go_ret
        exact ⟨_, rfl, ⟨⟨_, _, ⟨hup.out.bad_left her.out⟩, ⟨_, _, hs.out.1⟩, ⟨fun _ => rfl⟩⟩, ⟨hs.out.2⟩, by decide, by decide⟩, h0⟩
      · rw [if_neg hm, if_neg hm] at hup
        obtain ⟨m, rfl⟩ := Int.eq_ofNat_of_zero_le hg1
        have hml : m ≤ l.length := by omega
        obtain ⟨A', hcut, hA', hc'⟩ := cut_u8 A c l m hml hcap
        have hs := hr.setB (by decide) hc' hA' (fun x hx => List.mem_of_mem_drop hx) (by rw [List.length_drop]; omega)
        rw [List.length_drop] at hs
        replace hs := Aside0.mk hs
        replace hA' := Aside0.mk hA'
        replace hr := Aside0.mk hr
        go_enter Tryd.func37, Tryd.ntmps37
        go_wp2_with (go_at_call 64; ((with_reducible refine hcall.out.mono ?_); rintro ex w' ⟨rfl, rfl⟩))
        go_ret
        exact ⟨_, rfl, ⟨⟨_, _, ⟨by simpa using hup.out⟩, ⟨_, _, hs.out.1⟩, ⟨fun h => absurd rfl h⟩⟩, ⟨hs.out.2⟩, hb0, by omega⟩, by omega⟩
    · have b0 : (ec != 0) = true := by simpa using h0e
      have b1 : (ec == 0) = false := by simpa using h0e
      have hs := Aside0.mk (hr.setE (by decide) ec)
      have hre2 := Aside0.mk ((hre h0e 0).up (most := most) her.out (fun _ => rfl) h0)
      rw [if_neg (by omega), if_neg (by omega)] at hre2
      replace h0e := Aside0.mk h0e
      replace hr := Aside0.mk hr
      clear hru hre
      go_enter Tryd.func37, Tryd.ntmps37
      go_wp2_with (go_at_call 64; ((with_reducible refine hcall.out.mono ?_); rintro ex w' ⟨rfl, rfl⟩))
      go_ret
      exact ⟨_, rfl, ⟨⟨_, _, hre2, ⟨_, _, hs.out.1⟩, ⟨fun _ => rfl⟩⟩, ⟨hs.out.2⟩, by decide, by decide⟩, h0⟩
  · have b1 : (e != 0) = true := by simpa using he
    replace he := Aside0.mk he
    replace hr := Aside0.mk hr
    go_enter Tryd.func37, Tryd.ntmps37
    go_wp2
    go_ret
    exact ⟨_, rfl, ⟨⟨l, e, ⟨Ran.bad_ _ _ he.out _ _⟩, ⟨_, _, hr.out⟩, ⟨fun _ => rfl⟩⟩, ⟨KT.refl _ _ _⟩, by decide, by decide⟩, h0⟩
set_option maxHeartbeats 2000000 in
theorem rabove_any (last top : Int) (h0 : -1 ≤ last) (h1 : last ≤ top) (h2 : top ≤ 2199023255552) (base g : Nat) (l : List Int) (e : Int) (w : World) (hR : IsRA 68 base w g l e) :
    Calls Tryd.prog 65 #[.pointer (some ⟨g, 0, none⟩), .int .i64 last, .int .i64 top] w fun ex w' => ∃ n, ex = .returned (.int .i64 n) ∧ Left (pAbove last top) 68 base w g l e n w' ∧ last ≤ n ∧ n ≤ top := by
  have hcall := Aside0.mk (rnum_any mx 5 (by decide) (by decide) (by decide) base g l e w hR)
  go_enter Tryd.func65, Tryd.ntmps65
  go_upto_region 2 with (go_at_call 37; ((with_reducible refine hcall.out.mono ?_); rintro ex w1 ⟨n, rfl, hT, hn1⟩))
  obtain ⟨l1, e1, hran1, hR1, _⟩ := hT.ran
  have hn0 := hT.ge
  have hk1 := hT.kt
  obtain ⟨A, c, hr1⟩ := hR1.out
  have y1 : w1.cell? ⟨g, 1, none⟩ = some (.int .i64 e1) := blk_cell hr1.blk 1
  have f1 := blk_frozen hr1.blk 1
  clear hT hcall hR1
  have hc1 := Aside0.mk (Ran.chk (n == 0) (er := 10) (by decide) l1 e1)
  replace hn1 : n ≤ 9223372036854775807 := hn1
  by_cases he : e1 = 0
  · subst he
    by_cases hz : n = 0
    · subst hz
      have hs := Aside0.mk (hr1.setE (by decide) 10)
      replace hr1 := Aside0.mk hr1
      go_wp2
      go_ret
      exact ⟨_, rfl, ⟨⟨_, _, ⟨hran1.out.bind (hc1.out.bind (Ran.bad_ _ _ (by decide) _ _))⟩, ⟨_, _, hs.out.1⟩⟩, ⟨hk1.out.trans hs.out.2⟩⟩, by omega, h1⟩
    · have b0 : (n == 0) = false := by simpa using hz
      have hc2 := Aside0.mk (Ran.chk (decide (top - last < n)) (er := 5) (by decide) l1 0)
      rw [b0] at hc1
      replace hc1 : Aside0 (Ran (pChk (n == 0) 10) l1 0 () l1 0) := ⟨by rw [b0]; simpa using hc1.out⟩
      by_cases hm : top - last < n
      · have hs := Aside0.mk (hr1.setE (by decide) 5)
        rw [if_pos ⟨decide_eq_true hm, rfl⟩] at hc2
        replace hr1 := Aside0.mk hr1
        replace hz := Aside0.mk hz
        go_wp2
        go_ret
        exact ⟨_, rfl, ⟨⟨_, _, ⟨hran1.out.bind (hc1.out.bind (hc2.out.bind (Ran.bad_ _ _ (by decide) _ _)))⟩, ⟨_, _, hs.out.1⟩⟩, ⟨hk1.out.trans hs.out.2⟩⟩, by omega, h1⟩
      · rw [if_neg (fun q => hm (of_decide_eq_true q.1))] at hc2
        replace hr1 := Aside0.mk hr1
        replace hz := Aside0.mk hz
        go_wp2
        go_ret
        exact ⟨_, rfl, ⟨⟨_, _, ⟨hran1.out.bind (hc1.out.bind (hc2.out.bind (Ran.ret _ _ _)))⟩, ⟨_, _, hr1.out⟩⟩, hk1⟩, by omega, by omega⟩
  · have b1 : (e1 == 0) = false := by simpa using he
    have b2 : (e1 != 0) = true := by simpa using he
    replace he := Aside0.mk he
    replace hr1 := Aside0.mk hr1
    go_wp2
    go_ret
    exact ⟨_, rfl, ⟨⟨_, _, ⟨(hran1.out.err he.out _)⟩, ⟨_, _, hr1.out⟩⟩, hk1⟩, by omega, h1⟩
def uncL (n : Int) : SLoc × Bool := if n ≤ 0 then (⟨0, 0⟩, false) else if n % 2 = 1 then (if 31 < n / 2 then (⟨0, 0⟩, false) else (⟨1, n / 2⟩, true)) else (⟨2, n / 2 - 1⟩, true)
set_option maxHeartbeats 2000000 in
theorem Uncode_any (n : Int) (h0 : 0 ≤ n) (h1 : n ≤ 9223372036854775807) (w : World) :
    Calls Tryd.prog 88 #[.int .i64 n] w fun ex w' => ex = .returned (.tuple #[.agg #[.int .i64 (uncL n).1.f0, .int .i64 (uncL n).1.f1], .bool (uncL n).2]) ∧ Bel w w' := by
  have hB0 := (Bel.refl w).alloc (.cells #[.int .i64 0, .int .i64 0] 50)
  have hb0 := heap_alloc_new w (.cells #[.int .i64 0, .int .i64 0] 50)
  by_cases hz : n = 0
  · subst hz
    have hu : Aside0 (uncL 0 = (⟨0, 0⟩, false)) := ⟨rfl⟩
    go_enter Tryd.func88, Tryd.ntmps88
    go_upto_region 1 with (fail)
    generalize w.alloc (.cells #[.int .i64 0, .int .i64 0] 50) = wa at hB0 hb0 ⊢
    obtain ⟨b, hb⟩ : ∃ b, w.heap.size = b := ⟨_, rfl⟩
    rw [hb] at hb0 ⊢
    have z0 := blk_frozen hb0 0
    have z1 := blk_frozen hb0 1
    have q0 := blk_cell hb0 0
    have q1 := blk_cell hb0 1
    have hp := put2 (v0 := .int .i64 0) (v1 := .int .i64 (0)) hb0
    replace hp := Aside0.mk hp
    replace hb0 := Aside0.mk hb0
    have hBw : Aside0 (Below w.heap.size w wa) := hB0
    replace hb := Aside0.mk hb
    go_wp2
    refine bodyPost_ret (results_cell_row2 rfl _ _ b 50 #[.int .i64 0, .int .i64 (0)] (0, 0) _ rfl hp.out.1 Tryd.underlying50 rfl (by kernel_rfl)) rfl ?_
    refine ⟨by rw [hu.out]; rfl, ⟨(hBw.out.trans ((hp.out.2 b (Nat.le_refl _)).below.mono (Nat.le_of_eq hb.out)))⟩⟩
  · by_cases ho : n % 2 = 1
    · obtain ⟨a1, a2, a3, a4⟩ := loc_odd h0 ho
      have a5 : n.tdiv 2 = n / 2 := Int.tdiv_eq_ediv_of_nonneg h0
      have a6 : (1 : Int) ≤ n := by omega
      by_cases hg : 31 < n / 2
      · have hu : Aside0 (uncL n = (⟨0, 0⟩, false)) := ⟨by unfold uncL; rw [if_neg (by omega), if_pos ho, if_pos hg]⟩
        clear a2 a3 a4 ho hz
        go_enter Tryd.func88, Tryd.ntmps88
        go_upto_region 1 with (fail)
        generalize w.alloc (.cells #[.int .i64 0, .int .i64 0] 50) = wa at hB0 hb0 ⊢
        obtain ⟨b, hb⟩ : ∃ b, w.heap.size = b := ⟨_, rfl⟩
        rw [hb] at hb0 ⊢
        have z0 := blk_frozen hb0 0
        have z1 := blk_frozen hb0 1
        have q0 := blk_cell hb0 0
        have q1 := blk_cell hb0 1
        have hp := put2 (v0 := .int .i64 0) (v1 := .int .i64 (0)) hb0
        replace hp := Aside0.mk hp
        replace hb0 := Aside0.mk hb0
        have hBw : Aside0 (Below w.heap.size w wa) := hB0
        replace hb := Aside0.mk hb
        go_wp2
        refine bodyPost_ret (results_cell_row2 rfl _ _ b 50 #[.int .i64 0, .int .i64 (0)] (0, 0) _ rfl hp.out.1 Tryd.underlying50 rfl (by kernel_rfl)) rfl ?_
        refine ⟨by rw [hu.out]; rfl, ⟨(hBw.out.trans ((hp.out.2 b (Nat.le_refl _)).below.mono (Nat.le_of_eq hb.out)))⟩⟩
      · have hu : Aside0 (uncL n = (⟨1, n / 2⟩, true)) := ⟨by unfold uncL; rw [if_neg (by omega), if_pos ho, if_neg hg]⟩
        clear a2 a3 a4 ho hz
        go_enter Tryd.func88, Tryd.ntmps88
        go_upto_region 1 with (fail)
        generalize w.alloc (.cells #[.int .i64 0, .int .i64 0] 50) = wa at hB0 hb0 ⊢
        obtain ⟨b, hb⟩ : ∃ b, w.heap.size = b := ⟨_, rfl⟩
        rw [hb] at hb0 ⊢
        have z0 := blk_frozen hb0 0
        have z1 := blk_frozen hb0 1
        have q0 := blk_cell hb0 0
        have q1 := blk_cell hb0 1
        have hp := put2 (v0 := .int .i64 1) (v1 := .int .i64 ((n / 2))) hb0
        replace hp := Aside0.mk hp
        replace hb0 := Aside0.mk hb0
        have hBw : Aside0 (Below w.heap.size w wa) := hB0
        replace hb := Aside0.mk hb
        go_wp2
        refine bodyPost_ret (results_cell_row2 rfl _ _ b 50 #[.int .i64 1, .int .i64 ((n / 2))] (0, 0) _ rfl hp.out.1 Tryd.underlying50 rfl (by kernel_rfl)) rfl ?_
        refine ⟨by rw [hu.out]; rfl, ⟨(hBw.out.trans ((hp.out.2 b (Nat.le_refl _)).below.mono (Nat.le_of_eq hb.out)))⟩⟩
    · have hu : Aside0 (uncL n = (⟨2, n / 2 - 1⟩, true)) := ⟨by unfold uncL; rw [if_neg (by omega), if_neg ho]⟩
      have a1 : n.tmod 2 = 0 := by rw [Int.tmod_eq_emod_of_nonneg h0]; omega
      have a5 : n.tdiv 2 = n / 2 := Int.tdiv_eq_ediv_of_nonneg h0
      have a6 : (1 : Int) ≤ n := by omega
      have a7 : (1 : Int) ≤ n / 2 := by omega
      clear ho hz
      go_enter Tryd.func88, Tryd.ntmps88
      go_upto_region 1 with (fail)
      generalize w.alloc (.cells #[.int .i64 0, .int .i64 0] 50) = wa at hB0 hb0 ⊢
      obtain ⟨b, hb⟩ : ∃ b, w.heap.size = b := ⟨_, rfl⟩
      rw [hb] at hb0 ⊢
      have z0 := blk_frozen hb0 0
      have z1 := blk_frozen hb0 1
      have q0 := blk_cell hb0 0
      have q1 := blk_cell hb0 1
      have hp := put2 (v0 := .int .i64 2) (v1 := .int .i64 ((n / 2 - 1))) hb0
      replace hp := Aside0.mk hp
      replace hb0 := Aside0.mk hb0
      have hBw : Aside0 (Below w.heap.size w wa) := hB0
      replace hb := Aside0.mk hb
      go_wp2
      refine bodyPost_ret (results_cell_row2 rfl _ _ b 50 #[.int .i64 2, .int .i64 ((n / 2 - 1))] (0, 0) _ rfl hp.out.1 Tryd.underlying50 rfl (by kernel_rfl)) rfl ?_
      refine ⟨by rw [hu.out]; rfl, ⟨(hBw.out.trans ((hp.out.2 b (Nat.le_refl _)).below.mono (Nat.le_of_eq hb.out)))⟩⟩
end Go.Proofs.YtceibabhmomfiaaDoor.H
