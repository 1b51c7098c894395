/- Texts of this work, joined: Pr9, Rv. Conditions: each stands with its theorem. -/
import Derived.Test.YtceibabhmomfiaaDoorX07
import Derived.Test.YtceibabhmomfiaaDoorX04
/- Layer 3, walks: bytes' charts. -/
namespace Go.Proofs.YtceibabhmomfiaaDoor.H
open Go.RowKit Go.Proofs.YtceibabhmomfiaaDoorW.PrintWords Go.Proofs.YtceibabhmomfiaaDoorW.PrintLast
set_option linter.unusedVariables false
set_option linter.unusedSimpArgs false
set_option maxRecDepth 100000

theorem fin_if (l : List Int) (e : Int) : (if decide (0 < l.length) = true ∧ e = 0 then (11 : Int) else e) = if e = 0 ∧ 0 < l.length then 11 else e := by
  by_cases h1 : e = 0 <;> by_cases h2 : 0 < l.length <;> simp [h1, h2]
theorem putC {W : World} {r i : Nat} {v a0 a1 a2 : Value} {cs : Array Value} (h : W.heap[r]? = some (.cells #[a0, a1, a2] 36 (0, 0))) (hc : (#[a0, a1, a2] : Array Value).setIfInBounds i v = cs) :
    (W.setCell ⟨r, i, none⟩ v).heap[r]? = some (.cells cs 36 (0, 0)) ∧
    ∀ b, b ≤ r → KT [36] b W (W.setCell ⟨r, i, none⟩ v) := ⟨blk_put h i v hc, fun b hb => KT.set h (by decide) hb i _⟩
set_option maxHeartbeats 8000000 in
theorem Decode_any (A : Option Addr) (c : Nat) (l : List Int) (w : World) (hG : GlobA w.heap.size w) (hc : l.length ≤ c) (HR : RdB w A l) (hby : Bytes l) (hl : l.length ≤ 10000000000000) :
    Calls Tryd.prog 13 #[.slice A l.length c] w fun ex w' => ∃ v, ex = .returned (.tuple #[v, .int .i64 (dcE l)]) ∧ Own kChart 36 w w' v (dcL l) ∧ Bel w w' := by
  have hB0 : Bel w (w.alloc (.cells #[.slice A l.length c, .int .i64 0] 61)) := (Bel.refl w).alloc _
  have hg0 := heap_alloc_new w (.cells #[.slice A l.length c, .int .i64 0] 61)
  go_enter Tryd.func13, Tryd.ntmps13
  go_upto_region 4 with (fail)
  generalize w.alloc (.cells #[.slice A l.length c, .int .i64 0] 61) = wa at hB0 hg0 ⊢
  have hbr := hB0.size
  have hRa : IsRA 61 w.heap.size wa w.heap.size l 0 := ⟨⟨A, c, ⟨Nat.le_refl _, hbr, hg0, hc, RdK.came HR hB0.out RT, hby, hl⟩⟩⟩
  obtain ⟨r, hr⟩ : ∃ r, w.heap.size = r := ⟨_, rfl⟩
  have hK0 := Aside0.mk (KT.of_bel hB0 (Nat.le_refl _) ST)
  rw [hr] at hRa hK0 hbr ⊢
  replace hg0 := Aside0.mk hg0
  have hcall := Aside0.mk (upto_any 2000 9 (by decide) (by decide) (by decide) r r l 0 wa hRa)
  have hrw : r ≤ w.heap.size := by omega
  rw [hr] at hG
  replace hr := Aside0.mk hr
  go_wp2_with (go_at_call 32; ((with_reducible refine hcall.out.mono ?_); rintro ex w1 ⟨n, rfl, hT, hn1⟩))
  obtain ⟨l1, e1, hran1, hR1, _⟩ := hT.ran
  have hn0 := hT.ge
  have hK1 := Aside0.mk (hK0.out.trans hT.kt.out)
  clear hT hcall hK0 hg0 hRa
  go_loopw [5, 6, 13] (fun o la i W => ∃ (k : Nat) (cs : List SChart) (p : Int) (lk : List Int) (ek : Int), k ≤ n.toNat ∧ i = .int .i64 k ∧ la = .int .i64 p ∧ 0 ≤ p ∧ p ≤ 1099511627776 ∧ Aside0 (lastA cs = p) ∧ Aside0 (Ran (pGrow (fun xs => pChart (lastA xs)) k) l1 e1 cs lk ek) ∧ IsRA 61 r W r lk ek ∧ Aside0 (OwnAt kChart 36 r W o cs ∧ KT ST r w W) ∧ Aside0 (cs.length = k)) (fun _ _ i _ => n.toNat - (intOf i).toNat)
  case atStart => exact ⟨0, [], 0, l1, e1, by omega, rfl, rfl, by decide, by decide, ⟨rfl⟩, ⟨Ran.grow0 _ _ _⟩, hR1, ⟨OwnAt.nil _ _ _ _, hK1.out⟩, ⟨rfl⟩⟩
  case round =>
    clear hR1 hK1
    obtain ⟨k, cs, p, lk, ek, hk, rfl, rfl, hp0, hp1, hlast, hran, hRk, hOk, hdk⟩ := hrel
    have hrr : r ≤ wr.heap.size := Nat.le_trans hrw hOk.out.2.size
    have hdl : cs.length ≤ 2000 := by rw [hdk.out]; omega
    obtain ⟨A0, c0, rfl, _, _⟩ := hOk.out.1.reads
    obtain ⟨A2, c2, hr2⟩ := hRk.out
    have y0 : wr.cell? ⟨r, 0, none⟩ = some (.slice A2 lk.length c2) := blk_cell hr2.blk 0
    have y1 : wr.cell? ⟨r, 1, none⟩ = some (.int .i64 ek) := blk_cell hr2.blk 1
    have hlk := hr2.len
    have hfl := Aside0.mk (fail_any r r lk ek 11 (decide (0 < lk.length)) A2 c2 wr hr2)
    replace hr2 := Aside0.mk hr2
    by_cases hkn : (k : Int) < n
    · by_cases hek : ek = 0
      · have b0 : (ek != 0) = false := by simp [hek]
        clear hfl
        replace hek := Aside0.mk hek
        have hab := Aside0.mk (above_any p 1099511627776 (by omega) hp1 (by decide) r r lk ek wr hRk)
        go_upto_region 8 with (go_at_call 33; ((with_reducible refine hab.out.mono ?_); rintro ex w3 ⟨p2, rfl, hL, hp2, hp3⟩))
        obtain ⟨l3, e3, hran3, hR3⟩ := hL.ran
        obtain ⟨A3, c3, hr3⟩ := hR3.out
        have hBa : Bel w3 (w3.alloc (.cells #[.int .i64 p2, .slice none 0 0, .slice none 0 0] 36)) := (Bel.refl w3).alloc _
        have hba := heap_alloc_new w3 (.cells #[.int .i64 p2, .slice none 0 0, .slice none 0 0] 36)
        have hk3 := hOk.out.2.trans hL.kt.out
        have hO3 := hOk.out.1.keep hL.kt.out (by decide)
        generalize w3.alloc (.cells #[.int .i64 p2, .slice none 0 0, .slice none 0 0] 36) = wb at hBa hba ⊢
        obtain ⟨h, hh⟩ : ∃ h, w3.heap.size = h := ⟨_, rfl⟩
        rw [hh] at hba ⊢
        have hrh : r ≤ h := by rw [← hh]; exact Nat.le_trans hrw hk3.size
        have hkb := Aside0.mk (hk3.trans (KT.of_bel hBa (by omega) ST))
        have hOb := Aside0.mk ((hO3.lt hh).step hBa)
        have hrb := hr3.step hBa
        have hGb : GlobA r wb := ⟨hG.out.below hkb.out.below⟩
        have href := Aside0.mk (refs_any r r l3 e3 wb hGb ⟨⟨_, _, hrb⟩⟩)
        replace hh := Aside0.mk hh
        replace hba := Aside0.mk hba
        clear hL hR3 hr3 hBa hk3 hO3 hOk hRk hab hr2 y0 y1 hrb
        go_upto_region 9 with (go_at_call 34; ((with_reducible refine href.out.mono ?_); rintro ex w4 ⟨rs, v1, rfl, hL, hv1, hrs⟩; have hb4 := hL.kt.out.blk hba.out (by decide); have z1 := blk_frozen hb4 1; have q1 := blk_cell hb4 1; obtain ⟨A4, c4, rfl, _, _⟩ := hv1.reads))
        obtain ⟨l4, e4, hran4, hR4⟩ := hL.ran
        obtain ⟨A5, c5, hr4⟩ := hR4.out
        have hp := putC (i := 1) (v := .slice A4 rs.length c4) (cs := #[.int .i64 p2, .slice A4 rs.length c4, .slice none 0 0]) (hL.kt.out.blk hba.out (by decide)) rfl
        have hrwb := hkb.out.size
        have hv4 : OwnAt kLoc 50 r w4 (.slice A4 rs.length c4) rs := ⟨Kd.R_lower hv1.out (by omega)⟩
        have hp3 := (hp.2 h (Nat.le_refl _)).below
        have hr5 := hr4.keep (hp.2 r hrh) (by decide) (by decide)
        have hk5 := (hkb.out.trans hL.kt.out).after (hp3.mono (by rw [hr.out]; exact hrh)) hrw
        have hO5 := (hOb.out.keep hL.kt.out (by decide)).above hp3
        have hv5 := hv4.keep (hp.2 r hrh) (by decide)
        have hb5 := hp.1
        generalize w4.setCell ⟨h, 1, none⟩ (.slice A4 rs.length c4) = w5 at hp hp3 hr5 hk5 hO5 hv5 hb5 ⊢
        have y1 : w5.cell? ⟨h, 1, none⟩ = some (.slice A4 rs.length c4) := blk_cell hb5 1
        have hder := Aside0.mk (ders_any r r l4 e4 rs A4 c4 w5 ⟨⟨_, _, hr5⟩⟩ (RdK.own hv5 (by decide) r) hrs)
        have hw5 := hk5.size
        replace hk5 := Aside0.mk hk5
        replace hO5 := Aside0.mk hO5
        replace hb5 := Aside0.mk hb5
        clear hL hR4 hr4 hp hv4 hp3 hr5 hkb hOb hba hv1 href hGb z1 q1 hb4
        go_upto_region 10 with (go_at_call 35; ((with_reducible refine hder.out.mono ?_); rintro ex w6 ⟨ds, v2, rfl, hL, hv2, hds⟩; have hb6 := hL.kt.out.blk hb5.out (by decide); have z1 := blk_frozen hb6 2; have q1 := blk_cell hb6 2; obtain ⟨A6, c6, rfl, _, _⟩ := hv2.reads))
        obtain ⟨l6, e6, hran6, hR6⟩ := hL.ran
        obtain ⟨A7, c7, hr6⟩ := hR6.out
        have hp := putC (i := 2) (v := .slice A6 ds.length c6) (cs := #[.int .i64 p2, .slice A4 rs.length c4, .slice A6 ds.length c6]) (hL.kt.out.blk hb5.out (by decide)) rfl
        have hv6 : OwnAt kPair 73 r w6 (.slice A6 ds.length c6) ds := ⟨Kd.R_lower hv2.out (by omega)⟩
        have hp3 := (hp.2 h (Nat.le_refl _)).below
        have hr7 := Aside0.mk (hr6.keep (hp.2 r hrh) (by decide) (by decide))
        have hk7 := Aside0.mk ((hk5.out.trans hL.kt.out).after (hp3.mono (by rw [hr.out]; exact hrh)) hrw)
        have hO7 := ((hO5.out.keep hL.kt.out (by decide)).above hp3).at_
        have hv7 := (hv5.keep hL.kt.out (by decide)).keep (hp.2 r hrh) (by decide)
        have hd7 := hv6.keep (hp.2 r hrh) (by decide)
        have hb7 := hp.1
        generalize w6.setCell ⟨h, 2, none⟩ (.slice A6 ds.length c6) = w7 at hp hp3 hr7 hk7 hO7 hv7 hd7 hb7 ⊢
        clear hL hR6 hr6 hp hv6 hp3 hv5 hb5 hk5 hO5 hv2 hder z1 q1 hb6 y1
        have y0 : w7.cell? ⟨h, 0, none⟩ = some (.int .i64 p2) := blk_cell hb7 0
        have y1 : w7.cell? ⟨h, 1, none⟩ = some (.slice A4 rs.length c4) := blk_cell hb7 1
        have y2 : w7.cell? ⟨h, 2, none⟩ = some (.slice A6 ds.length c6) := blk_cell hb7 2
        have hrr7 : r ≤ w7.heap.size := Nat.le_trans hrw hk7.out.size
        replace hb7 := Aside0.mk hb7
        go_wp2_with ((with_reducible refine gate_b (b := .append) rfl ?_); (refine app_chart_at_ (xs := cs) (⟨p2, rs, ds⟩ : SChart) [.int .i64 p2, .slice A4 rs.length c4, .slice A6 ds.length c6] hO7 ⟨kChart_mkM _ _ _ (⟨p2, rs, ds⟩ : SChart) hv7.out hd7.out⟩ hrr7 rfl _ _ rfl ?hl1 rfl rfl ?_); (case hl1 => omega); intro v3 w8 hO1 hK1)
        go_roundw
        case rel =>
          refine ⟨k + 1, cs ++ [⟨p2, rs, ds⟩], p2, l6, e6, by omega, by go_num, rfl, by omega, hp3, ⟨by simp [lastA]⟩, ⟨hran.out.grow1 ?_⟩, ⟨⟨_, _, hr7.out.keep hK1 (by decide) (by decide)⟩⟩, ⟨hO1, hk7.out.after (by rw [hr.out]; exact hK1.below) hrw⟩, ⟨by rw [List.length_append, hdk.out]; rfl⟩⟩
          rw [hlast.out]
          exact hran3.out.bind (hran4.out.bind (hran6.out.bind (Ran.ret _ _ _)))
        case measure => simp [intOf]; omega
      · have b0 : (ek != 0) = true := by simpa using hek
        have hfin := Aside0.mk (hran.out.growEarly hek (show k ≤ n.toNat by omega) cs)
        replace hek := Aside0.mk hek
        go_upto_region 14 with (go_at_call 36; ((with_reducible refine hfl.out.mono ?_); rintro ex w3 ⟨rfl, hx3⟩))
        have hran5 := Aside0.mk (Ran.fin lk ek)
        rw [fin_if] at hx3
        obtain ⟨e5, he5⟩ : ∃ e5, (if ek = 0 ∧ 0 < lk.length then (11 : Int) else ek) = e5 := ⟨_, rfl⟩
        rw [he5] at hx3 hran5
        have hall : Ran pCharts l 0 cs lk e5 := hran1.out.bind (hfin.out.bind (hran5.out.bind (Ran.ret cs lk e5)))
        have hw5 := Aside0.mk hall.wholeC
        have q1 : w3.cell? ⟨r, 1, none⟩ = some (.int .i64 e5) := blk_cell hx3.out.1.blk 1
        have hk5 := hOk.out.2.trans hx3.out.2
        have hB5 : Bel w w3 := ⟨by have := hk5.below; rwa [← hr.out] at this⟩
        have hO5 := hOk.out.1.keep hx3.out.2 (by decide)
        clear hfl he5 hall hran5 hran hfin hOk hRk hr2 hk5 y0 y1 hx3
        replace hO5 := Aside0.mk hO5
        by_cases h5 : e5 = 0
        · have b1 : (e5 != 0) = false := by simp [h5]
          replace h5 := Aside0.mk h5
          go_wp2
          go_ret2
          refine ⟨.slice A0 cs.length c0, ?_, ⟨?_⟩, hB5⟩
          · rw [← hw5.out.1, h5.out]; rfl
          · rw [← hw5.out.2.1 h5.out, hr.out]
            exact hO5.out.out
        · have b1 : (e5 != 0) = true := by simpa using h5
          replace h5 := Aside0.mk h5
          go_upto_region 15 with (fail)
          go_region_law (fail)
          all_goals
            go_wp2
            go_ret2
            refine ⟨.slice none 0 0, ?_, ⟨?_⟩, ?_⟩
            · rw [← hw5.out.1]; rfl
            · rw [hw5.out.2.2 h5.out]
              exact (Own.nil _ _ _ _).out
            · exact hB5.drewN 1
    · have hfin : Aside0 (Ran (pGrow (fun xs => pChart (lastA xs)) n.toNat) l1 e1 cs lk ek) := ⟨by
        have : k = n.toNat := by omega
        rw [← this]; exact hran.out⟩
      go_upto_region 14 with (go_at_call 36; ((with_reducible refine hfl.out.mono ?_); rintro ex w3 ⟨rfl, hx3⟩))
      have hran5 := Aside0.mk (Ran.fin lk ek)
      rw [fin_if] at hx3
      obtain ⟨e5, he5⟩ : ∃ e5, (if ek = 0 ∧ 0 < lk.length then (11 : Int) else ek) = e5 := ⟨_, rfl⟩
      rw [he5] at hx3 hran5
      have hall : Ran pCharts l 0 cs lk e5 := hran1.out.bind (hfin.out.bind (hran5.out.bind (Ran.ret cs lk e5)))
      have hw5 := Aside0.mk hall.wholeC
      have q1 : w3.cell? ⟨r, 1, none⟩ = some (.int .i64 e5) := blk_cell hx3.out.1.blk 1
      have hk5 := hOk.out.2.trans hx3.out.2
      have hB5 : Bel w w3 := ⟨by have := hk5.below; rwa [← hr.out] at this⟩
      have hO5 := hOk.out.1.keep hx3.out.2 (by decide)
      clear hfl he5 hall hran5 hran hfin hOk hRk hr2 hk5 y0 y1 hx3
      replace hO5 := Aside0.mk hO5
      by_cases h5 : e5 = 0
      · have b1 : (e5 != 0) = false := by simp [h5]
        replace h5 := Aside0.mk h5
        go_wp2
        go_ret2
        refine ⟨.slice A0 cs.length c0, ?_, ⟨?_⟩, hB5⟩
        · rw [← hw5.out.1, h5.out]; rfl
        · rw [← hw5.out.2.1 h5.out, hr.out]
          exact hO5.out.out
      · have b1 : (e5 != 0) = true := by simpa using h5
        replace h5 := Aside0.mk h5
        go_upto_region 15 with (fail)
        go_region_law (fail)
        all_goals
          go_wp2
          go_ret2
          refine ⟨.slice none 0 0, ?_, ⟨?_⟩, ?_⟩
          · rw [← hw5.out.1]; rfl
          · rw [hw5.out.2.2 h5.out]
            exact (Own.nil _ _ _ _).out
          · exact hB5.drewN 1
end Go.Proofs.YtceibabhmomfiaaDoor.H

/- Layer 1, the reference: a number out of bytes. -/
namespace Go.Proofs.YtceibabhmomfiaaDoor.H
open Go.RowKit Go.Proofs.YtceibabhmomfiaaDoorW.PrintWords
set_option linter.unusedVariables false
set_option linter.unusedSimpArgs false

theorem add_shl (u lo : Int) (k : Nat) (hk : k ≤ 9) (h0 : 0 ≤ u) (h1 : u < 2 ^ (7 * k)) (l0 : 0 ≤ lo) (l1 : lo < 128) (l9 : k = 9 → lo ≤ 1) :
    IntKind.u64.wrap (lo * 2 ^ (7 * k)) = lo * 2 ^ (7 * k) ∧ IntKind.u64.wrap (u + lo * 2 ^ (7 * k)) = u + lo * 2 ^ (7 * k) ∧ u + lo * 2 ^ (7 * k) < 2 ^ (7 * (k + 1)) ∧ 0 ≤ lo * 2 ^ (7 * k) := by
  obtain ⟨_, h2, h3⟩ := or_shl u lo k hk h0 h1 l0 l1 l9
  have hp : (0 : Int) ≤ lo * 2 ^ (7 * k) := Int.mul_nonneg l0 (Int.le_of_lt (Int.pow_pos (by decide)))
  refine ⟨?_, ?_, h3, hp⟩
  · rw [IntKind.wrap_u64]; omega
  · rw [IntKind.wrap_u64]; omega
set_option maxHeartbeats 2000000 in
theorem read_any (A : Option Addr) (c : Nat) (l : List Int) (most : Nat) (w : World) (hm0 : 1 ≤ most) (hm : most ≤ 10) (hc : l.length ≤ c) (HR : RdB w A l) (hby : Bytes l) (hl : l.length ≤ 9223372036854775807) :
    Calls Tryd.prog 87 #[.slice A l.length c, .int .i64 most] w fun e w' => e = .returned (.tuple #[.int .u64 (getL most l).1, .int .i64 (getL most l).2.1, .int .i64 (getL most l).2.2]) ∧ w = w' := by
  go_enter Tryd.func87, Tryd.ntmps87
  go_wp2
  go_loopw [7, 8] (fun a i W => ∃ (k : Nat) (u : Int), k ≤ l.length ∧ k ≤ most ∧ a = .int .u64 u ∧ i = .int .i64 k ∧ 0 ≤ u ∧ Aside0 (u < 2 ^ (7 * k)) ∧ Aside0 (getGo most (l.drop k) k u = getL most l) ∧ w = W) (fun _ i _ => l.length - (intOf i).toNat)
  case atStart => exact ⟨0, 0, by omega, by omega, rfl, rfl, by omega, ⟨by omega⟩, ⟨rfl⟩, rfl⟩
  case round =>
    obtain ⟨k, u, hk, hkm, rfl, rfl, hu0, hu1, hg, rfl⟩ := hrel
    by_cases hkl : k < l.length
    · have hg1 := hg.out
      rw [drop_rd l k hkl, getGo] at hg1
      by_cases hmo : k = most
      · rw [if_pos hmo] at hg1
        have b0 : ((k : Int) == (most : Int)) = true := by simp [hmo]
        have b00 : (k == most) = true := by simp [hmo]
        replace hg1 := Aside0.mk hg1
        clear hg hmo
        go_wp2
        go_ret3
        exact ⟨trip hg1.out, rfl⟩
      rw [if_neg hmo] at hg1
      have b0 : ((k : Int) == (most : Int)) = false := by simp; omega
      have b00 : (k == most) = false := by simp; omega
      obtain ⟨ad, rfl, hcell⟩ := rd_atN HR k (by omega)
      have hxb := hby.at_ (k : Int) (by omega) (by omega)
      obtain ⟨x, hx⟩ : ∃ x, rd l (k : Int) = x := ⟨_, rfl⟩
      rw [hx] at hcell hg1 hxb
      clear hx hg
      have hx0 := hxb.1
      have hx1 := hxb.2
      clear hxb
      obtain ⟨lo, hlo2⟩ : ∃ lo, x % 128 = lo := ⟨_, rfl⟩
      have hlo0 : 0 ≤ lo := by omega
      have hlo1 : lo < 128 := by omega
      rw [hlo2] at hg1
      have hlo3 : x.tmod 128 = lo := by rw [Int.tmod_eq_emod_of_nonneg hx0, hlo2]
      replace hlo2 := Aside0.mk hlo2
      have hkm2 : k < most := by omega
      replace hmo := Aside0.mk hmo
      by_cases h9 : k = 9
      · have b1 : ((k : Int) == 9) = true := by simp; omega
        by_cases hlow : 1 < lo
        · rw [if_pos ⟨h9, hlow⟩] at hg1
          replace h9 := Aside0.mk h9
          replace hg1 := Aside0.mk hg1
          go_wp2
          go_ret3
          exact ⟨trip hg1.out, rfl⟩
        · rw [if_neg (by omega)] at hg1
          obtain ⟨hw1, hw2, hs3, hs0⟩ := add_shl u lo k (by omega) hu0 hu1.out hlo0 hlo1 (by omega)
          replace h9 := Aside0.mk h9
          have b2 : decide (1 < lo) = false := by simp; omega
          by_cases h128 : 128 ≤ x
          · rw [if_pos h128] at hg1
            replace hg1 := Aside0.mk hg1
            have hs9 : 0 ≤ u + lo * 2 ^ (7 * k) := by omega
            replace hs3 := Aside0.mk hs3
            go_wp2
            go_roundw
            case rel => exact ⟨k + 1, u + lo * 2 ^ (7 * k), by omega, by omega, rfl, by go_num, by first | exact hs9 | (rw [hw2]; exact hs9), by first | exact hs3 | (rw [hw2]; exact hs3), by first | exact hg1 | (rw [hw2]; exact hg1), by trivial⟩
            case measure => simp [intOf]; omega
          · rw [if_neg h128] at hg1
            by_cases hx00 : x = 0
            · have b3 : (x == 0) = true := by simp [hx00]
              by_cases hk0 : 0 < k
              · have b4 : decide ((0 : Int) < (k : Int)) = true := by simp; omega
                rw [if_pos ⟨hx00, hk0⟩] at hg1
                replace hg1 := Aside0.mk hg1
                replace hx00 := Aside0.mk hx00
                go_wp2
                go_ret3
                exact ⟨trip hg1.out, rfl⟩
              · have b4 : decide ((0 : Int) < (k : Int)) = false := by simp; omega
                rw [if_neg (by omega)] at hg1
                replace hg1 := Aside0.mk hg1
                replace hx00 := Aside0.mk hx00
                go_wp2
                go_ret3
                exact ⟨trip hg1.out, rfl⟩
            · have b3 : (x == 0) = false := by simpa using hx00
              rw [if_neg (by omega)] at hg1
              replace hg1 := Aside0.mk hg1
              replace hx00 := Aside0.mk hx00
              go_wp2
              go_ret3
              exact ⟨trip hg1.out, rfl⟩
      · have b1 : ((k : Int) == 9) = false := by simp; omega
        rw [if_neg (by omega)] at hg1
        obtain ⟨hw1, hw2, hs3, hs0⟩ := add_shl u lo k (by omega) hu0 hu1.out hlo0 hlo1 (by omega)
        replace h9 := Aside0.mk h9
        by_cases h128 : 128 ≤ x
        · rw [if_pos h128] at hg1
          replace hg1 := Aside0.mk hg1
          have hs9 : 0 ≤ u + lo * 2 ^ (7 * k) := by omega
          replace hs3 := Aside0.mk hs3
          go_wp2
          go_roundw
          case rel => exact ⟨k + 1, u + lo * 2 ^ (7 * k), by omega, by omega, rfl, by go_num, by first | exact hs9 | (rw [hw2]; exact hs9), by first | exact hs3 | (rw [hw2]; exact hs3), by first | exact hg1 | (rw [hw2]; exact hg1), by trivial⟩
          case measure => simp [intOf]; omega
        · rw [if_neg h128] at hg1
          by_cases hx00 : x = 0
          · have b3 : (x == 0) = true := by simp [hx00]
            by_cases hk0 : 0 < k
            · have b4 : decide ((0 : Int) < (k : Int)) = true := by simp; omega
              rw [if_pos ⟨hx00, hk0⟩] at hg1
              replace hg1 := Aside0.mk hg1
              replace hx00 := Aside0.mk hx00
              go_wp2
              go_ret3
              exact ⟨trip hg1.out, rfl⟩
            · have b4 : decide ((0 : Int) < (k : Int)) = false := by simp; omega
              rw [if_neg (by omega)] at hg1
              replace hg1 := Aside0.mk hg1
              replace hx00 := Aside0.mk hx00
              go_wp2
              go_ret3
              exact ⟨trip hg1.out, rfl⟩
          · have b3 : (x == 0) = false := by simpa using hx00
            rw [if_neg (by omega)] at hg1
            replace hg1 := Aside0.mk hg1
            replace hx00 := Aside0.mk hx00
            go_wp2
            go_ret3
            exact ⟨trip hg1.out, rfl⟩
    · have hk2 : k = l.length := by omega
      have hg1 := hg.out
      rw [List.drop_eq_nil_of_le (by omega), getGo] at hg1
      by_cases hmo : k = most
      · rw [if_pos hmo] at hg1
        have b0 : ((l.length : Int) == (most : Int)) = true := by simp; omega
        have b00 : (l.length == most) = true := by simp; omega
        replace hg1 := Aside0.mk hg1
        clear hg hmo hk2
        go_wp2
        go_ret3
        exact ⟨trip hg1.out, rfl⟩
      · rw [if_neg hmo] at hg1
        have b0 : ((l.length : Int) == (most : Int)) = false := by simp; omega
        have b00 : (l.length == most) = false := by simp; omega
        replace hg1 := Aside0.mk hg1
        clear hg hmo hk2
        go_wp2
        go_ret3
        exact ⟨trip hg1.out, rfl⟩

set_option maxHeartbeats 400000 in
theorem refGet_any (A : Option Addr) (c : Nat) (l : List Int) (w : World) (hc : l.length ≤ c) (HR : RdB w A l) (hby : Bytes l) (hl : l.length ≤ 9223372036854775807) :
    Calls Tryd.prog 64 #[.slice A l.length c] w fun e w' => e = .returned (.tuple #[.int .i64 (getL 9 l).1, .int .i64 (getL 9 l).2.1, .int .i64 (getL 9 l).2.2]) ∧ w = w' := by
  have hg := getL_got 9 (by decide) l hby.out
  have hcall := Aside0.mk (read_any A c l 9 w (by decide) (by decide) hc HR hby hl)
  obtain ⟨x, hx⟩ : ∃ x, (getL 9 l).1 = x := ⟨_, rfl⟩
  rw [hx] at hcall ⊢
  have h0 := hg.ge
  have h1 := hg.le9 (by decide)
  rw [hx] at h0 h1
  clear hg hx
  go_enter Tryd.func64, Tryd.ntmps64
  go_wp2_with (go_at_call 87; (refine hcall.out.mono ?_; rintro e w1 ⟨rfl, rfl⟩))
  go_ret3
  exact ⟨rfl, rfl⟩
end Go.Proofs.YtceibabhmomfiaaDoor.H
