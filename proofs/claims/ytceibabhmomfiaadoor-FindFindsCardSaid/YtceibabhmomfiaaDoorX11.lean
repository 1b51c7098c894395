/- Texts of this work, joined: Px1, Fe. Conditions: each stands with its theorem. -/
import Derived.Test.YtceibabhmomfiaaDoorX10
import Derived.Laws.ResultCell
import Derived.Test.YtceibabhmomfiaaDoorX09
/- Layer 3, the reference: the reader takes numbers, what rises, places. -/
namespace Go.Proofs.YtceibabhmomfiaaDoor.H
open Go.RowKit Go.Proofs.YtceibabhmomfiaaDoorW.PrintWords Go.Proofs.YtceibabhmomfiaaDoorW.PrintLast
set_option linter.unusedVariables false
set_option linter.unusedSimpArgs false
set_option maxRecDepth 100000

theorem results_cell_row2 {P : Program} {fn : Func} {p u : Tmp} {ty : TypeId} (h : fn.results = #[.cell p ty, .tmp u]) (tmps : Array Value) (w : World) (g : Nat) (t : TypeId) (cs : Array Value) (fr : Nat × Nat) (d : TypeDesc)
    (hp : tmps.getD p undef = .pointer (some ⟨g, 0, none⟩)) (hg : w.heap[g]? = some (.cells cs t fr))
    (hu : P.underlying ty = some d) (hd : (match d with | .struct _ | .array _ _ => true | _ => false) = true) (hi : (P.info? ty).map (·.size) = some cs.size) :
    (results fn tmps).run P w = .ok (.tuple #[.agg cs, tmps.getD u undef]) w := by
  rw [results_cell_tmp h, hp]
  simp [asAddr, run_loadVar_row w g t ty cs fr d hg hu hd hi, Result.andThen]
set_option maxHeartbeats 2000000 in
theorem rnum_any (most er : Int) (h0 : 0 ≤ most) (h1 : most ≤ mx) (her : er ≠ 0) (base g : Nat) (l : List Int) (e : Int) (w : World) (hR : IsRA 68 base w g l e) :
    Calls Tryd.prog 37 #[.pointer (some ⟨g, 0, none⟩), .int .i64 most, .int .i64 er] w fun ex w' => ∃ n, ex = .returned (.int .i64 n) ∧ Took (pUp most er) 68 base w g l e n w' ∧ n ≤ most := by
  obtain ⟨A, c, hr⟩ := hR.out
  have x0 : w.cell? ⟨g, 0, none⟩ = some (.slice A l.length c) := blk_cell hr.blk 0
  have x1 : w.cell? ⟨g, 1, none⟩ = some (.int .i64 e) := blk_cell hr.blk 1
  have f0 := blk_frozen hr.blk 0
  have f1 := blk_frozen hr.blk 1
  have hlen := hr.len
  have hcap := hr.cap
  have her1 : (er != 0) = true := by simpa using her
  replace her := Aside0.mk her
  by_cases he : e = 0
  · subst he
    have hg := getL_got 9 (by decide) l hr.by_.out
    have hcall := Aside0.mk (refGet_any A c l w hr.cap hr.rd.now hr.by_ (by omega))
    have hru := @Ran.num_ok l
    have hre := @Ran.num_er l
    have hb0 := hg.ge
    have hb1 := hg.le9 (by decide)
    have hg1 := hg.sz.1
    have hg2 := hg.sz.2.2
    have hg3 := Aside0.mk hg.er
    obtain ⟨p, hp⟩ : ∃ p, getL 9 l = p := ⟨_, rfl⟩
    rw [hp] at hcall hru hre hg1 hg2 hg3 hb0 hb1
    clear hp hg
    obtain ⟨n, sz, ec⟩ := p
    simp only at hcall hru hre hg1 hg2 hg3 hb0 hb1
    by_cases h0e : ec = 0
    · subst h0e
      have hru1 := Aside0.mk (hru rfl)
      have hup := Aside0.mk (hru1.out.up (most := most) her.out (fun q => absurd rfl q) h0)
      clear hre hru hg3
      by_cases hm : most < n
      · rw [if_pos hm, if_pos hm] at hup
        have hs := Aside0.mk (hr.setE (by decide) er)
        replace hr := Aside0.mk hr
        go_enter Tryd.func37, Tryd.ntmps37
        go_wp2_with (go_at_call 64; ((with_reducible refine hcall.out.mono ?_); rintro ex w' ⟨rfl, rfl⟩))
        go_ret
        exact ⟨_, rfl, ⟨⟨_, _, ⟨hup.out.bad_left her.out⟩, ⟨_, _, hs.out.1⟩, ⟨fun _ => rfl⟩⟩, ⟨hs.out.2⟩, by decide, by decide⟩, h0⟩
      · rw [if_neg hm, if_neg hm] at hup
        obtain ⟨m, rfl⟩ := Int.eq_ofNat_of_zero_le hg1
        have hml : m ≤ l.length := by omega
        obtain ⟨A', hcut, hA', hc'⟩ := cut_u8 A c l m hml hcap
        have hs := hr.setB (by decide) hc' hA' (fun x hx => List.mem_of_mem_drop hx) (by rw [List.length_drop]; omega)
        rw [List.length_drop] at hs
        replace hs := Aside0.mk hs
        replace hA' := Aside0.mk hA'
        replace hr := Aside0.mk hr
        go_enter Tryd.func37, Tryd.ntmps37
        go_wp2_with (go_at_call 64; ((with_reducible refine hcall.out.mono ?_); rintro ex w' ⟨rfl, rfl⟩))
        go_ret
        exact ⟨_, rfl, ⟨⟨_, _, ⟨by simpa using hup.out⟩, ⟨_, _, hs.out.1⟩, ⟨fun h => absurd rfl h⟩⟩, ⟨hs.out.2⟩, hb0, by omega⟩, by omega⟩
    · have b0 : (ec != 0) = true := by simpa using h0e
      have b1 : (ec == 0) = false := by simpa using h0e
      have hs := Aside0.mk (hr.setE (by decide) ec)
      have hre2 := Aside0.mk ((hre h0e 0).up (most := most) her.out (fun _ => rfl) h0)
      rw [if_neg (by omega), if_neg (by omega)] at hre2
      replace h0e := Aside0.mk h0e
      replace hr := Aside0.mk hr
      clear hru hre
      go_enter Tryd.func37, Tryd.ntmps37
      go_wp2_with (go_at_call 64; ((with_reducible refine hcall.out.mono ?_); rintro ex w' ⟨rfl, rfl⟩))
      go_ret
      exact ⟨_, rfl, ⟨⟨_, _, hre2, ⟨_, _, hs.out.1⟩, ⟨fun _ => rfl⟩⟩, ⟨hs.out.2⟩, by decide, by decide⟩, h0⟩
  · have b1 : (e != 0) = true := by simpa using he
    replace he := Aside0.mk he
    replace hr := Aside0.mk hr
    go_enter Tryd.func37, Tryd.ntmps37
    go_wp2
    go_ret
    exact ⟨_, rfl, ⟨⟨l, e, ⟨Ran.bad_ _ _ he.out _ _⟩, ⟨_, _, hr.out⟩, ⟨fun _ => rfl⟩⟩, ⟨KT.refl _ _ _⟩, by decide, by decide⟩, h0⟩
set_option maxHeartbeats 2000000 in
theorem rabove_any (last top : Int) (h0 : -1 ≤ last) (h1 : last ≤ top) (h2 : top ≤ 2199023255552) (base g : Nat) (l : List Int) (e : Int) (w : World) (hR : IsRA 68 base w g l e) :
    Calls Tryd.prog 65 #[.pointer (some ⟨g, 0, none⟩), .int .i64 last, .int .i64 top] w fun ex w' => ∃ n, ex = .returned (.int .i64 n) ∧ Left (pAbove last top) 68 base w g l e n w' ∧ last ≤ n ∧ n ≤ top := by
  have hcall := Aside0.mk (rnum_any mx 5 (by decide) (by decide) (by decide) base g l e w hR)
  go_enter Tryd.func65, Tryd.ntmps65
  go_upto_region 2 with (go_at_call 37; ((with_reducible refine hcall.out.mono ?_); rintro ex w1 ⟨n, rfl, hT, hn1⟩))
  obtain ⟨l1, e1, hran1, hR1, _⟩ := hT.ran
  have hn0 := hT.ge
  have hk1 := hT.kt
  obtain ⟨A, c, hr1⟩ := hR1.out
  have y1 : w1.cell? ⟨g, 1, none⟩ = some (.int .i64 e1) := blk_cell hr1.blk 1
  have f1 := blk_frozen hr1.blk 1
  clear hT hcall hR1
  have hc1 := Aside0.mk (Ran.chk (n == 0) (er := 10) (by decide) l1 e1)
  replace hn1 : n ≤ 9223372036854775807 := hn1
  by_cases he : e1 = 0
  · subst he
    by_cases hz : n = 0
    · subst hz
      have hs := Aside0.mk (hr1.setE (by decide) 10)
      replace hr1 := Aside0.mk hr1
      go_wp2
      go_ret
      exact ⟨_, rfl, ⟨⟨_, _, ⟨hran1.out.bind (hc1.out.bind (Ran.bad_ _ _ (by decide) _ _))⟩, ⟨_, _, hs.out.1⟩⟩, ⟨hk1.out.trans hs.out.2⟩⟩, by omega, h1⟩
    · have b0 : (n == 0) = false := by simpa using hz
      have hc2 := Aside0.mk (Ran.chk (decide (top - last < n)) (er := 5) (by decide) l1 0)
      rw [b0] at hc1
      replace hc1 : Aside0 (Ran (pChk (n == 0) 10) l1 0 () l1 0) := ⟨by rw [b0]; simpa using hc1.out⟩
      by_cases hm : top - last < n
      · have hs := Aside0.mk (hr1.setE (by decide) 5)
        rw [if_pos ⟨decide_eq_true hm, rfl⟩] at hc2
        replace hr1 := Aside0.mk hr1
        replace hz := Aside0.mk hz
        go_wp2
        go_ret
        exact ⟨_, rfl, ⟨⟨_, _, ⟨hran1.out.bind (hc1.out.bind (hc2.out.bind (Ran.bad_ _ _ (by decide) _ _)))⟩, ⟨_, _, hs.out.1⟩⟩, ⟨hk1.out.trans hs.out.2⟩⟩, by omega, h1⟩
      · rw [if_neg (fun q => hm (of_decide_eq_true q.1))] at hc2
        replace hr1 := Aside0.mk hr1
        replace hz := Aside0.mk hz
        go_wp2
        go_ret
        exact ⟨_, rfl, ⟨⟨_, _, ⟨hran1.out.bind (hc1.out.bind (hc2.out.bind (Ran.ret _ _ _)))⟩, ⟨_, _, hr1.out⟩⟩, hk1⟩, by omega, by omega⟩
  · have b1 : (e1 == 0) = false := by simpa using he
    have b2 : (e1 != 0) = true := by simpa using he
    replace he := Aside0.mk he
    replace hr1 := Aside0.mk hr1
    go_wp2
    go_ret
    exact ⟨_, rfl, ⟨⟨_, _, ⟨(hran1.out.err he.out _)⟩, ⟨_, _, hr1.out⟩⟩, hk1⟩, by omega, h1⟩
def uncL (n : Int) : SLoc × Bool := if n ≤ 0 then (⟨0, 0⟩, false) else if n % 2 = 1 then (if 31 < n / 2 then (⟨0, 0⟩, false) else (⟨1, n / 2⟩, true)) else (⟨2, n / 2 - 1⟩, true)
set_option maxHeartbeats 2000000 in
theorem Uncode_any (n : Int) (h0 : 0 ≤ n) (h1 : n ≤ 9223372036854775807) (w : World) :
    Calls Tryd.prog 88 #[.int .i64 n] w fun ex w' => ex = .returned (.tuple #[.agg #[.int .i64 (uncL n).1.f0, .int .i64 (uncL n).1.f1], .bool (uncL n).2]) ∧ Bel w w' := by
  have hB0 := (Bel.refl w).alloc (.cells #[.int .i64 0, .int .i64 0] 50)
  have hb0 := heap_alloc_new w (.cells #[.int .i64 0, .int .i64 0] 50)
  by_cases hz : n = 0
  · subst hz
    have hu : Aside0 (uncL 0 = (⟨0, 0⟩, false)) := ⟨rfl⟩
    go_enter Tryd.func88, Tryd.ntmps88
    go_upto_region 1 with (fail)
    generalize w.alloc (.cells #[.int .i64 0, .int .i64 0] 50) = wa at hB0 hb0 ⊢
    obtain ⟨b, hb⟩ : ∃ b, w.heap.size = b := ⟨_, rfl⟩
    rw [hb] at hb0 ⊢
    have z0 := blk_frozen hb0 0
    have z1 := blk_frozen hb0 1
    have q0 := blk_cell hb0 0
    have q1 := blk_cell hb0 1
    have hp := put2 (v0 := .int .i64 0) (v1 := .int .i64 (0)) hb0
    replace hp := Aside0.mk hp
    replace hb0 := Aside0.mk hb0
    have hBw : Aside0 (Below w.heap.size w wa) := hB0
    replace hb := Aside0.mk hb
    go_wp2
    refine bodyPost_ret (results_cell_row2 rfl _ _ b 50 #[.int .i64 0, .int .i64 (0)] (0, 0) _ rfl hp.out.1 Tryd.underlying50 rfl (by kernel_rfl)) rfl ?_
    refine ⟨by rw [hu.out]; rfl, ⟨(hBw.out.trans ((hp.out.2 b (Nat.le_refl _)).below.mono (Nat.le_of_eq hb.out)))⟩⟩
  · by_cases ho : n % 2 = 1
    · obtain ⟨a1, a2, a3, a4⟩ := loc_odd h0 ho
      have a5 : n.tdiv 2 = n / 2 := Int.tdiv_eq_ediv_of_nonneg h0
      have a6 : (1 : Int) ≤ n := by omega
      by_cases hg : 31 < n / 2
      · have hu : Aside0 (uncL n = (⟨0, 0⟩, false)) := ⟨by unfold uncL; rw [if_neg (by omega), if_pos ho, if_pos hg]⟩
        clear a2 a3 a4 ho hz
        go_enter Tryd.func88, Tryd.ntmps88
        go_upto_region 1 with (fail)
        generalize w.alloc (.cells #[.int .i64 0, .int .i64 0] 50) = wa at hB0 hb0 ⊢
        obtain ⟨b, hb⟩ : ∃ b, w.heap.size = b := ⟨_, rfl⟩
        rw [hb] at hb0 ⊢
        have z0 := blk_frozen hb0 0
        have z1 := blk_frozen hb0 1
        have q0 := blk_cell hb0 0
        have q1 := blk_cell hb0 1
        have hp := put2 (v0 := .int .i64 0) (v1 := .int .i64 (0)) hb0
        replace hp := Aside0.mk hp
        replace hb0 := Aside0.mk hb0
        have hBw : Aside0 (Below w.heap.size w wa) := hB0
        replace hb := Aside0.mk hb
        go_wp2
        refine bodyPost_ret (results_cell_row2 rfl _ _ b 50 #[.int .i64 0, .int .i64 (0)] (0, 0) _ rfl hp.out.1 Tryd.underlying50 rfl (by kernel_rfl)) rfl ?_
        refine ⟨by rw [hu.out]; rfl, ⟨(hBw.out.trans ((hp.out.2 b (Nat.le_refl _)).below.mono (Nat.le_of_eq hb.out)))⟩⟩
      · have hu : Aside0 (uncL n = (⟨1, n / 2⟩, true)) := ⟨by unfold uncL; rw [if_neg (by omega), if_pos ho, if_neg hg]⟩
        clear a2 a3 a4 ho hz
        go_enter Tryd.func88, Tryd.ntmps88
        go_upto_region 1 with (fail)
        generalize w.alloc (.cells #[.int .i64 0, .int .i64 0] 50) = wa at hB0 hb0 ⊢
        obtain ⟨b, hb⟩ : ∃ b, w.heap.size = b := ⟨_, rfl⟩
        rw [hb] at hb0 ⊢
        have z0 := blk_frozen hb0 0
        have z1 := blk_frozen hb0 1
        have q0 := blk_cell hb0 0
        have q1 := blk_cell hb0 1
        have hp := put2 (v0 := .int .i64 1) (v1 := .int .i64 ((n / 2))) hb0
        replace hp := Aside0.mk hp
        replace hb0 := Aside0.mk hb0
        have hBw : Aside0 (Below w.heap.size w wa) := hB0
        replace hb := Aside0.mk hb
        go_wp2
        refine bodyPost_ret (results_cell_row2 rfl _ _ b 50 #[.int .i64 1, .int .i64 ((n / 2))] (0, 0) _ rfl hp.out.1 Tryd.underlying50 rfl (by kernel_rfl)) rfl ?_
        refine ⟨by rw [hu.out]; rfl, ⟨(hBw.out.trans ((hp.out.2 b (Nat.le_refl _)).below.mono (Nat.le_of_eq hb.out)))⟩⟩
    · have hu : Aside0 (uncL n = (⟨2, n / 2 - 1⟩, true)) := ⟨by unfold uncL; rw [if_neg (by omega), if_neg ho]⟩
      have a1 : n.tmod 2 = 0 := by rw [Int.tmod_eq_emod_of_nonneg h0]; omega
      have a5 : n.tdiv 2 = n / 2 := Int.tdiv_eq_ediv_of_nonneg h0
      have a6 : (1 : Int) ≤ n := by omega
      have a7 : (1 : Int) ≤ n / 2 := by omega
      clear ho hz
      go_enter Tryd.func88, Tryd.ntmps88
      go_upto_region 1 with (fail)
      generalize w.alloc (.cells #[.int .i64 0, .int .i64 0] 50) = wa at hB0 hb0 ⊢
      obtain ⟨b, hb⟩ : ∃ b, w.heap.size = b := ⟨_, rfl⟩
      rw [hb] at hb0 ⊢
      have z0 := blk_frozen hb0 0
      have z1 := blk_frozen hb0 1
      have q0 := blk_cell hb0 0
      have q1 := blk_cell hb0 1
      have hp := put2 (v0 := .int .i64 2) (v1 := .int .i64 ((n / 2 - 1))) hb0
      replace hp := Aside0.mk hp
      replace hb0 := Aside0.mk hb0
      have hBw : Aside0 (Below w.heap.size w wa) := hB0
      replace hb := Aside0.mk hb
      go_wp2
      refine bodyPost_ret (results_cell_row2 rfl _ _ b 50 #[.int .i64 2, .int .i64 ((n / 2 - 1))] (0, 0) _ rfl hp.out.1 Tryd.underlying50 rfl (by kernel_rfl)) rfl ?_
      refine ⟨by rw [hu.out]; rfl, ⟨(hBw.out.trans ((hp.out.2 b (Nat.le_refl _)).below.mono (Nat.le_of_eq hb.out)))⟩⟩
end Go.Proofs.YtceibabhmomfiaaDoor.H

/- Layer 1, law23: a table is asked for an address. -/
namespace Go.Proofs.YtceibabhmomfiaaDoor.H
open Go.RowKit Go.Proofs.YtceibabhmomfiaaDoorW.PrintWords Go.Proofs.YtceibabhmomfiaaDoorW.PrintLast
open Go.Maps (Keyed int_keyed keyOf_int_mk)
set_option linter.unusedVariables false
set_option linter.unusedSimpArgs false
set_option maxRecDepth 100000

/-- a table that may be asked; k: how often it was -/
inductive IsT (W : World) (tb : Nat) (A : Option Addr) (l : List SChart) (c : Nat) (k : Int) : Prop where
  | new (M : Value) (h : TabB W tb A l.length c 0 0 M k)
  | laid (m : Nat) (D : DataW Unit) (h : Laid W tb A l c k m D)
theorem IsT.lt {W : World} {tb : Nat} {A : Option Addr} {l : List SChart} {c : Nat} {k : Int} (h : IsT W tb A l c k) : tb < W.heap.size := by
  cases h with
  | new M h => exact blk_lt h
  | laid m D h => exact blk_lt h.blk
theorem IsT.cells {W : World} {tb : Nat} {A : Option Addr} {l : List SChart} {c : Nat} {k : Int} (h : IsT W tb A l c k) : ∃ d M, TabB W tb A l.length c d 0 M k := by
  cases h with
  | new M h => exact ⟨0, M, h⟩
  | laid m D h => exact ⟨1, _, h.blk⟩
theorem Laid.keep {W W1 : World} {tb : Nat} {A : Option Addr} {l : List SChart} {c m : Nat} {D : DataW Unit} {k : Int} (h : Laid W tb A l c k m D) (q : Bel W W1) : Laid W1 tb A l c k m D := by
  obtain ⟨h1, h2, h3, h4⟩ := h
  have hlt := h2.lt
  obtain ⟨es, clock, g1, g2, g3, g4⟩ := h2
  exact ⟨(q.out.block tb (blk_lt h1)).trans h1, ⟨es, clock, (q.out.block m hlt).trans g1, g2, g3, g4⟩, h3, h4⟩
theorem IsT.keep {W W1 : World} {tb : Nat} {A : Option Addr} {l : List SChart} {c : Nat} {k : Int} (h : IsT W tb A l c k) (q : Bel W W1) : IsT W1 tb A l c k := by
  cases h with
  | new M h => exact .new M ((q.out.block tb (blk_lt h)).trans h)
  | laid m D h => exact .laid m D (h.keep q)
theorem IsT.add {W : World} {tb : Nat} {A : Option Addr} {l : List SChart} {c : Nat} {k : Int} (h : IsT W tb A l c k) (k' : Int) : IsT (W.setCell ⟨tb, 5, none⟩ (.int .i64 k')) tb A l c k' := by
  cases h with
  | new M h => exact .new M ((blk_set h 5 _).trans rfl)
  | laid m D h =>
    obtain ⟨h1, h2, h3, h4⟩ := h
    obtain ⟨es, clock, g1, g2, g3, g4⟩ := h2
    exact .laid m D ⟨(blk_set h1 5 _).trans rfl, ⟨es, clock, (Below.heap_setCell W ⟨tb, 5, none⟩ _ m (fun e => h4 e)).trans g1, g2, g3, g4⟩, h3, h4⟩
theorem do_any (tb : Nat) (A : Option Addr) (c : Nat) (l : List SChart) (w : World) (k : Int) (h : IsT w tb A l c k) (hl : ChartsAt w tb A l) :
    Calls Tryd.prog 53 #[.pointer (some ⟨tb, 1, none⟩), .func (.func 54) #[.pointer (some ⟨tb, 0, none⟩)] #[]] w fun e w' => e = .returned (.tuple #[]) ∧ ∃ m D, Laid w' tb A l c k m D ∧ KO tb w w' := by
  cases h with
  | new M h => exact do_first tb A c l w M k h hl
  | laid m D h => exact (do_done tb A l.length c w 0 _ _ k h.blk).mono fun e w' ⟨h1, h2⟩ => ⟨h1, m, D, h2 ▸ h, h2 ▸ KO.refl tb w⟩

/-- no chart -/
def noC : SChart := ⟨0, [], []⟩
/-- what a table of these charts tells at an address -/
def atL (l : List SChart) (a : Int) : SChart := (l.find? (fun x => decide (x.f0 = a))).getD noC
def atE (l : List SChart) (a : Int) : Int := if (l.find? (fun x => decide (x.f0 = a))).isSome then 0 else 12
theorem at_hit {l : List SChart} (hd : ∀ (i j : Nat) (hi : i < l.length) (hj : j < l.length), i < j → l[i].f0 ≠ l[j].f0) (i : Nat) (hi : i < l.length) : atL l l[i].f0 = l[i] ∧ atE l l[i].f0 = 0 := by
  have h : l.find? (fun x => decide (x.f0 = l[i].f0)) = some l[i] := by
    rw [List.find?_eq_some_iff_getElem]
    refine ⟨by simp, i, hi, rfl, fun j hj => ?_⟩
    simp
    exact hd j i (by omega) hi hj
  unfold atL atE
  rw [h]
  exact ⟨rfl, rfl⟩
theorem at_miss {l : List SChart} {a : Int} (h : ∀ (i : Nat) (hi : i < l.length), l[i].f0 ≠ a) : atL l a = noC ∧ atE l a = 12 := by
  have h : l.find? (fun x => decide (x.f0 = a)) = none := by
    rw [List.find?_eq_none]
    intro x hx
    obtain ⟨i, hi, rfl⟩ := List.getElem_of_mem hx
    simpa using h i hi
  unfold atL atE
  rw [h]
  exact ⟨rfl, rfl⟩

theorem Laid.other {W W1 : World} {tb : Nat} {A : Option Addr} {l : List SChart} {c m : Nat} {D : DataW Unit} {k : Int} (h : Laid W tb A l c k m D) {b : Nat} {cs : Array Value} {t : Nat} (hb : W.heap[b]? = some (.cells cs t (0, 0))) (hbt : b ≠ tb) (q : ∀ j, j ≠ b → W1.heap[j]? = W.heap[j]?) : Laid W1 tb A l c k m D := by
  obtain ⟨h1, h2, h3, h4⟩ := h
  obtain ⟨es, clock, g1, g2, g3, g4⟩ := h2
  have hm : m ≠ b := fun e => by
    subst e
    rw [hb] at g1
    simp at g1
  exact ⟨(q tb (fun e => hbt e.symm)).trans h1, ⟨es, clock, (q m hm).trans g1, g2, g3, g4⟩, h3, h4⟩
theorem put3 {W : World} {b t : Nat} {c0 c1 c2 : Value} (hb : W.heap[b]? = some (.cells #[c0, c1, c2] t (0, 0))) (u0 u1 u2 : Value) :
    (((W.setCell ⟨b, 0, none⟩ u0).setCell ⟨b, 1, none⟩ u1).setCell ⟨b, 2, none⟩ u2).heap[b]? = some (.cells #[u0, u1, u2] t (0, 0)) ∧ (∀ j, j ≠ b → (((W.setCell ⟨b, 0, none⟩ u0).setCell ⟨b, 1, none⟩ u1).setCell ⟨b, 2, none⟩ u2).heap[j]? = W.heap[j]?) ∧ ∀ base, base ≤ b → Below base W (((W.setCell ⟨b, 0, none⟩ u0).setCell ⟨b, 1, none⟩ u1).setCell ⟨b, 2, none⟩ u2) :=
  ⟨(blk_set ((blk_set ((blk_set hb 0 u0).trans rfl) 1 u1).trans rfl) 2 u2).trans rfl,
   fun j hj => (Below.heap_setCell _ ⟨b, 2, none⟩ u2 j (fun e => hj e)).trans ((Below.heap_setCell _ ⟨b, 1, none⟩ u1 j (fun e => hj e)).trans (Below.heap_setCell W ⟨b, 0, none⟩ u0 j (fun e => hj e))),
   fun base hba => (((Below.refl _ _).setCell (p := ⟨b, 0, none⟩) hba u0).setCell (p := ⟨b, 1, none⟩) hba u1).setCell (p := ⟨b, 2, none⟩) hba u2⟩
theorem KO.put {tb b : Nat} {w W W1 : World} (h : KO tb w W) (hb : Below tb W W1) (ho : ∀ j, j ≠ b → W1.heap[j]? = W.heap[j]?) (hwb : w.heap.size ≤ b) : KO tb w W1 :=
  ⟨h.below.trans hb, fun i hi hn => (ho i (by omega)).trans (h.keep i hi hn)⟩

set_option maxHeartbeats 2000000 in
theorem At_nil (a : Int) (w : World) : Calls Tryd.prog 25 #[.pointer none, .int .i64 a] w fun e w' => e = .returned (.tuple #[.agg #[.int .i64 0, .slice none 0 0, .slice none 0 0], .int .i64 12]) ∧ Bel w w' := by
  have hg0 := heap_alloc_new w (.cells #[.int .i64 0, .slice none 0 0, .slice none 0 0] 36)
  go_enter Tryd.func25, Tryd.ntmps25
  go_wp2
  refine bodyPost_ret (results_cell_row2 rfl _ _ w.heap.size 36 #[.int .i64 0, .slice none 0 0, .slice none 0 0] (0, 0) _ rfl hg0 Tryd.underlying36 rfl (by kernel_rfl)) rfl ?_
  exact ⟨rfl, (Bel.refl w).alloc _⟩
set_option maxHeartbeats 3000000 in
theorem At_any (tb : Nat) (A : Option Addr) (c : Nat) (l : List SChart) (w : World) (k a : Int) (h : IsT w tb A l c k) (hl : ChartsAt w tb A l) (hfew2 : Aside0 (∀ x ∈ l, x.f1.length ≤ 1000000 ∧ x.f2.length ≤ 1000000)) (hk0 : 0 ≤ k) (hk1 : k ≤ 1099511627776) (ha : (Lit.int .i64 a).wf = true) :
    Calls Tryd.prog 25 #[.pointer (some ⟨tb, 0, none⟩), .int .i64 a] w fun e w' => (∃ v1 v2, e = .returned (.tuple #[.agg #[.int .i64 (atL l a).f0, v1, v2], .int .i64 (atE l a)]) ∧ Own kLoc 50 w w' v1 (atL l a).f1 ∧ Own kPair 73 w w' v2 (atL l a).f2) ∧ (∃ m D, Laid w' tb A l c (k + 1) m D) ∧ KO tb w w' := by
  have htb := h.lt
  have hg0 := heap_alloc_new w (.cells #[.int .i64 0, .slice none 0 0, .slice none 0 0] 36)
  have hB0 := (Bel.refl w).alloc (.cells #[.int .i64 0, .slice none 0 0, .slice none 0 0] 36)
  go_enter Tryd.func25, Tryd.ntmps25
  go_upto_region 3 with (fail)
  generalize w.alloc (.cells #[.int .i64 0, .slice none 0 0, .slice none 0 0] 36) = wa at hg0 hB0 ⊢
  have hT := h.keep hB0
  have hla := hl.keep (hB0.out.mono (Nat.le_of_lt htb))
  obtain ⟨b, hbe⟩ : ∃ b, w.heap.size = b := ⟨_, rfl⟩
  have hbt : b ≠ tb := by omega
  have hwb : Aside0 (w.heap.size ≤ b) := ⟨by omega⟩
  rw [hbe] at hg0 ⊢
  have hs5 : Aside0 (Calls Tryd.prog 52 #[.pointer (some ⟨tb, 5, none⟩), .int .i64 1] wa fun e w' => e = .returned (.int .i64 (k + 1)) ∧ w' = wa.setCell ⟨tb, 5, none⟩ (.int .i64 (k + 1))) := ⟨by
    obtain ⟨d, M, hb⟩ := hT.cells
    exact s_iadd ⟨tb, 5, none⟩ k wa (blk_cell hb 5) (blk_frozen hb 5) hk0 hk1⟩
  obtain ⟨wc, hwc⟩ : ∃ W, wa.setCell ⟨tb, 5, none⟩ (.int .i64 (k + 1)) = W := ⟨_, rfl⟩
  have hTc : IsT wc tb A l c (k + 1) := by rw [← hwc]; exact hT.add (k + 1)
  have hKc : KO tb wa wc := by rw [← hwc]; exact KO.set 5 _
  rw [hwc] at hs5
  have hdo := Aside0.mk (do_any tb A c l wc (k + 1) hTc (hla.keep hKc.below))
  have hba := blk_lt hg0
  have hKw : KO tb w wa := KO.of_bel hB0 (Nat.le_of_lt htb)
  replace hwc := Aside0.mk hwc
  replace hTc := Aside0.mk hTc
  replace hKc := Aside0.mk hKc
  replace hKw := Aside0.mk hKw
  replace hla := Aside0.mk hla
  replace hbe := Aside0.mk hbe
  replace hg0 := Aside0.mk hg0
  clear h hl hT
  go_upto_region 5 with (first | (go_at_call 52; ((with_reducible refine hs5.out.mono ?_); rintro e w1 ⟨rfl, rfl⟩)) | (go_at_call 53; ((with_reducible refine hdo.out.mono ?_); rintro e w2 ⟨rfl, m, D, hL, hK⟩)))
  have hk2 := Aside0.mk (hKw.out.trans (hKc.out.trans hK))
  have hb2 : w2.heap[b]? = some (.cells #[.int .i64 0, .slice none 0 0, .slice none 0 0] 36 (0, 0)) := ((hKc.out.trans hK).keep b hba hbt).trans hg0.out
  have hl2 := (hla.out.keep (hKc.out.trans hK).below)
  have y4 : w2.cell? ⟨tb, 4, none⟩ = some (.map (some m)) := blk_cell hL.blk 4
  have y0 : w2.cell? ⟨tb, 0, none⟩ = some (.slice A l.length c) := blk_cell hL.blk 0
  have hM := hL.map
  have hwb2 : w.heap.size ≤ w2.heap.size := hk2.out.size
  replace hL := Aside0.mk hL
  clear hs5 hdo hwc hTc hKc hKw hla hK hba hg0 hB0
  have hz3 : ∀ W, (zeroValue 3).run Tryd.prog W = .ok (.int .i64 0) W := fun W => by simp [go_sem]
  by_cases hex : ∃ (i : Nat) (hi : i < l.length), l[i].f0 = a
  · obtain ⟨i, hi, hai⟩ := hex
    have hat := at_hit hl2.diff.out i hi
    have hhit := hL.out.inm.hit i hi hi
    rw [hai] at hat hhit
    obtain ⟨ad, C1, n1, C2, n2, rfl, c0, c1, c2, c3, c4⟩ := chart_at (hl2.rd.out w2 (Below.refl _ _)) i hi
    obtain ⟨x, hx⟩ : ∃ x, l[i] = x := ⟨_, rfl⟩
    rw [hx] at hat hai c0 c1 c2 c3 c4
    obtain ⟨x0, xr, xd⟩ := x
    simp only at hai c0 c1 c2 c3 c4
    subst hai
    have hfew := hl2.few
    have hhas := hhit.1
    have hidx : ∀ cc : Int, D.atKey (.int .i64 x0) (.lit (.int .i64 0)) = .lit (.int .i64 cc) → cc = i := fun cc h => by
      have h := h.symm.trans (hhit.2 _)
      injection h with h
      injection h
    replace hidx := Aside0.mk hidx
    replace hhit := Aside0.mk hhit
    replace hl2 := Aside0.mk hl2
    replace hat := Aside0.mk hat
    go_upto_region 9 with (first | (at_lookup; refine wpList_lookup_own_ok_int _ rfl _ _ 94 rfl 3 3 .i64 (int_keyed Tryd.underlying3) Tryd.underlying94 Tryd.underlying3 (hz3 _) m l.length D rfl hM _ _ rfl (keyOf_int_mk Tryd.underlying3 ha) ?_; intro cc hcat hcw; rw [hhas]; obtain rfl := hidx.out cc hcat))
    have hg3 := heap_alloc_new w2 (.cells #[.int .i64 x0, .slice C1 xr.length n1, .slice C2 xd.length n2] 36)
    have hB3 := (Bel.refl w2).alloc (.cells #[.int .i64 x0, .slice C1 xr.length n1, .slice C2 xd.length n2] 36)
    generalize w2.alloc (.cells #[.int .i64 x0, .slice C1 xr.length n1, .slice C2 xd.length n2] 36) = w3 at hg3 hB3 ⊢
    obtain ⟨h, hh⟩ : ∃ h, w2.heap.size = h := ⟨_, rfl⟩
    have hn1 := hl2.out.few
    have hxr : xr.length ≤ 1000000 := (hfew2.out _ (List.getElem_mem hi) |>.1 |> fun q => by rw [hx] at q; exact q)
    have hxd : xd.length ≤ 1000000 := (hfew2.out _ (List.getElem_mem hi) |>.2 |> fun q => by rw [hx] at q; exact q)
    rw [hh] at hg3 ⊢
    have hcl := Aside0.mk (fun W (q : Bel w3 W) => (cloneLoc_any C1 n1 xr W (c3.step (hB3.trans q)) hxr).mono (fun e w' ⟨v, h1, h2, h3⟩ => (⟨v, h1, ⟨Kd.R_lower h2.out (Nat.le_trans hwb2 (hB3.trans q).size)⟩, q.trans h3⟩ : ∃ v : Value, e = Ending.returned v ∧ OwnAt kLoc 50 w.heap.size w' v xr ∧ Bel w3 w')))
    have hcp := Aside0.mk (fun W (q : Bel w3 W) => (clonePair_any C2 n2 xd W (c4.step (hB3.trans q)) hxd).mono (fun e w' ⟨v, h1, h2, h3⟩ => (⟨v, h1, ⟨Kd.R_lower h2.out (Nat.le_trans hwb2 (hB3.trans q).size)⟩, q.trans h3, h3⟩ : ∃ v : Value, e = Ending.returned v ∧ OwnAt kPair 73 w.heap.size w' v xd ∧ Bel w3 w' ∧ Bel W w')))
    have hz := Aside0.mk (fun W (q : Bel w3 W) => (⟨blk_cell ((q.out.block h (blk_lt hg3)).trans hg3) 0, blk_cell ((q.out.block h (blk_lt hg3)).trans hg3) 1, blk_cell ((q.out.block h (blk_lt hg3)).trans hg3) 2⟩ : W.cell? ⟨h, 0, none⟩ = some (.int .i64 x0) ∧ W.cell? ⟨h, 1, none⟩ = some (.slice C1 xr.length n1) ∧ W.cell? ⟨h, 2, none⟩ = some (.slice C2 xd.length n2)))
    have hbk := Aside0.mk (fun W (q : Bel w3 W) => (((hB3.trans q).out.block b (blk_lt hb2)).trans hb2 : W.heap[b]? = some (.cells #[.int .i64 0, .slice none 0 0, .slice none 0 0] 36 (0, 0))))
    have hLW := Aside0.mk (fun W (q : Bel w3 W) => hL.out.keep (hB3.trans q))
    have hKW := Aside0.mk (fun W (q : Bel w3 W) => hk2.out.trans (KO.of_bel (hB3.trans q) (Nat.le_trans (Nat.le_of_lt htb) hwb2)))
    obtain ⟨z0, z1, z2⟩ := hz.out w3 (Bel.refl _)
    clear hg3 hb2 c0 c1 c2 c3 c4 y0 y4 hM hz3
    replace hB3 := Aside0.mk hB3
    go_region_law (first | (refine goes_ (f := 55) Tryd.func55 (by kernel_rfl) rfl #[.slice C1 xr.length n1] rfl rfl rfl (by simp only [List.map_toArray, List.map_cons, List.map_nil]; rfl) ?_; refine (hcl.out _ ?_).mono ?_; (repeat (first | exact Bel.refl _ | exact hB6 | refine Bel.drewN ?_ _ | refine Bel.drewN (n := 1) ?_)); rintro ex w6 ⟨v1, rfl, ho1, hB6⟩; obtain ⟨A5, c5, rfl, _, _⟩ := ho1.reads; obtain ⟨t0, t1, t2⟩ := hz.out w6 hB6; refine ⟨_, rfl, ?_⟩) | (refine goes_ (f := 56) Tryd.func56 (by kernel_rfl) rfl #[.slice C2 xd.length n2] rfl rfl rfl (by simp only [List.map_toArray, List.map_cons, List.map_nil]; rfl) ?_; refine (hcp.out _ ?_).mono ?_; (repeat (first | exact Bel.refl _ | exact hB6 | refine Bel.drewN ?_ _ | refine Bel.drewN (n := 1) ?_)); rintro ex w7 ⟨v2, rfl, ho2, hB7, hW7⟩; obtain ⟨A7, c7, rfl, _, _⟩ := ho2.reads; obtain ⟨s0, s1, s2⟩ := hz.out w7 hB7; have hb7 := hbk.out w7 hB7; have q0 := blk_frozen hb7 0; have q1 := blk_frozen hb7 1; have q2 := blk_frozen hb7 2; have q3 : w7.cell? ⟨b, 0, none⟩ = some (.int .i64 0) := blk_cell hb7 0; have q4 : w7.cell? ⟨b, 1, none⟩ = some (.slice none 0 0) := blk_cell hb7 1; have q5 : w7.cell? ⟨b, 2, none⟩ = some (.slice none 0 0) := blk_cell hb7 2; refine ⟨_, rfl, ?_⟩))
    all_goals
      have hp := put3 hb7 (.int .i64 x0) (.slice A5 xr.length c5) (.slice A7 xd.length c7)
      have hkt : KT [36] b w7 (((w7.setCell ⟨b, 0, none⟩ (.int .i64 x0)).setCell ⟨b, 1, none⟩ (.slice A5 xr.length c5)).setCell ⟨b, 2, none⟩ (.slice A7 xd.length c7)) := ⟨hp.2.2 b (Nat.le_refl b), fun i cs t fr hi hn => hp.2.1 i (fun e => by
        subst e
        rw [hb7] at hi
        injection hi with hi
        injection hi with _ hi _
        exact hn (by simp [← hi]))⟩
      have o1 := Aside0.mk ((ho1.step hW7).keep hkt (by decide))
      have o2 := Aside0.mk (ho2.keep hkt (by decide))
      have hL7 := Aside0.mk ((hLW.out w7 hB7).other hb7 hbt hp.2.1)
      have hK7 := Aside0.mk ((hKW.out w7 hB7).put (hp.2.2 tb (by have := hwb.out; omega)) hp.2.1 hwb.out)
      replace hp := Aside0.mk hp.1
      clear hkt q0 q1 q2 q3 q4 q5 hb7 t0 t1 t2 s0 s1 s2 z0 z1 z2
      go_wp2
      refine bodyPost_ret (results_cell_row2 rfl _ _ b 36 #[.int .i64 x0, .slice A5 xr.length c5, .slice A7 xd.length c7] (0, 0) _ rfl hp.out Tryd.underlying36 rfl (by kernel_rfl)) rfl ?_
      rw [hat.out.1, hat.out.2]
      exact ⟨⟨_, _, rfl, o1.out, o2.out⟩, ⟨m, D, hL7.out⟩, hK7.out⟩
  · have hmiss := at_miss (l := l) (a := a) (fun i hi e => hex ⟨i, hi, e⟩)
    have q0 := blk_frozen hb2 0
    have q1 := blk_frozen hb2 1
    have q2 := blk_frozen hb2 2
    have q3 : w2.cell? ⟨b, 0, none⟩ = some (.int .i64 0) := blk_cell hb2 0
    have q4 : w2.cell? ⟨b, 1, none⟩ = some (.slice none 0 0) := blk_cell hb2 1
    have q5 : w2.cell? ⟨b, 2, none⟩ = some (.slice none 0 0) := blk_cell hb2 2
    have hno := hL.out.inm.miss a (fun i hi _ e => hex ⟨i, hi, e⟩)
    go_wp2_with (first | (at_lookup; refine wpList_lookup_own_ok_int _ rfl _ _ 94 rfl 3 3 .i64 (int_keyed Tryd.underlying3) Tryd.underlying94 Tryd.underlying3 (hz3 _) m l.length D rfl hM _ _ rfl (keyOf_int_mk Tryd.underlying3 ha) ?_; intro cc hcat hcw; rw [hno]))
    have hp := put3 hb2 (.int .i64 0) (.slice none 0 0) (.slice none 0 0)
    refine bodyPost_ret (results_cell_row2 rfl _ _ b 36 #[.int .i64 0, .slice none 0 0, .slice none 0 0] (0, 0) _ rfl hp.1 Tryd.underlying36 rfl (by kernel_rfl)) rfl ?_
    rw [hmiss.1, hmiss.2]
    exact ⟨⟨_, _, rfl, Own.nil _ _ _ _, Own.nil _ _ _ _⟩, ⟨m, D, hL.out.other hb2 hbt hp.2.1⟩, hk2.out.put (hp.2.2 tb (by have := hwb.out; omega)) hp.2.1 hwb.out⟩
end Go.Proofs.YtceibabhmomfiaaDoor.H
