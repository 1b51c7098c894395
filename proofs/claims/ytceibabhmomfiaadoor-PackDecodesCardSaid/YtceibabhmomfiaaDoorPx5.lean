/- Layer 3, the reference: bytes' charts. -/
import Derived.Test.YtceibabhmomfiaaDoorPx4
namespace Go.Proofs.YtceibabhmomfiaaDoor.H
open Go.RowKit Go.Proofs.YtceibabhmomfiaaDoorW.PrintWords Go.Proofs.YtceibabhmomfiaaDoorW.PrintLast
set_option linter.unusedVariables false
set_option linter.unusedSimpArgs false
set_option maxRecDepth 100000

set_option maxHeartbeats 4000000 in
theorem DecodeRef_any (A : Option Addr) (c : Nat) (l : List Int) (w : World) (hc : l.length ≤ c) (HR : RdB w A l) (hby : Bytes l) (hl : l.length ≤ 10000000000000) :
    Calls Tryd.prog 14 #[.slice A l.length c] w fun ex w' => ∃ v, ex = .returned (.tuple #[v, .int .i64 (dcE l)]) ∧ Own kChart 36 w w' v (dcL l) ∧ Bel w w' := by
  have hB0 : Bel w (w.alloc (.cells #[.slice A l.length c, .int .i64 0] 68)) := (Bel.refl w).alloc _
  have hg0 := heap_alloc_new w (.cells #[.slice A l.length c, .int .i64 0] 68)
  go_enter Tryd.func14, Tryd.ntmps14
  go_upto_region 4 with (fail)
  generalize w.alloc (.cells #[.slice A l.length c, .int .i64 0] 68) = wa at hB0 hg0 ⊢
  have hbr := hB0.size
  have hRa : IsRA 68 w.heap.size wa w.heap.size l 0 := ⟨⟨A, c, ⟨Nat.le_refl _, hbr, hg0, hc, RdK.came HR hB0.out RT, hby, hl⟩⟩⟩
  obtain ⟨r, hr⟩ : ∃ r, w.heap.size = r := ⟨_, rfl⟩
  have hK0 := Aside0.mk (KT.of_bel hB0 (Nat.le_refl _) ST)
  rw [hr] at hRa hK0 hbr ⊢
  replace hg0 := Aside0.mk hg0
  have hcall := Aside0.mk (rnum_any 2000 9 (by decide) (by decide) (by decide) r r l 0 wa hRa)
  have hrw : r ≤ w.heap.size := by omega
  replace hr := Aside0.mk hr
  go_wp2_with (go_at_call 37; ((with_reducible refine hcall.out.mono ?_); rintro ex w1 ⟨n, rfl, hT, hn1⟩))
  obtain ⟨l1, e1, hran1, hR1, _⟩ := hT.ran
  have hn0 := hT.ge
  have hK1 := Aside0.mk (hK0.out.trans hT.kt.out)
  clear hT hcall hK0 hg0 hRa
  go_loopw [5, 6, 7] (fun o la i W => ∃ (k : Nat) (n2 : Int) (cs : List SChart) (p : Int) (lk : List Int) (ek : Int), k ≤ n.toNat ∧ i = .int .i64 n2 ∧ n2 ≤ n - k ∧ n - k ≤ n2 ∧ la = .int .i64 p ∧ 0 ≤ p ∧ p ≤ 1099511627776 ∧ Aside0 (lastA cs = p) ∧ Aside0 (Ran (pGrow (fun xs => pChart (lastA xs)) k) l1 e1 cs lk ek) ∧ IsRA 68 r W r lk ek ∧ Aside0 (OwnAt kChart 36 r W o cs ∧ KT ST r w W) ∧ Aside0 (cs.length = k)) (fun _ _ i _ => (intOf i).toNat)
  case atStart => exact ⟨0, n, [], 0, l1, e1, by omega, rfl, by omega, by omega, rfl, by decide, by decide, ⟨rfl⟩, ⟨Ran.grow0 _ _ _⟩, hR1, ⟨OwnAt.nil _ _ _ _, hK1.out⟩, ⟨rfl⟩⟩
  case round =>
    clear hR1 hK1
    obtain ⟨k, n2, cs, p, lk, ek, hk, rfl, hn2, hn3, rfl, hp0, hp1, hlast, hran, hRk, hOk, hdk⟩ := hrel
    have hrr : r ≤ wr.heap.size := Nat.le_trans hrw hOk.out.2.size
    have hdl : cs.length ≤ 2000 := by rw [hdk.out]; omega
    obtain ⟨A0, c0, rfl, _, _⟩ := hOk.out.1.reads
    obtain ⟨A2, c2, hr2⟩ := hRk.out
    have y0 : wr.cell? ⟨r, 0, none⟩ = some (.slice A2 lk.length c2) := blk_cell hr2.blk 0
    have y1 : wr.cell? ⟨r, 1, none⟩ = some (.int .i64 ek) := blk_cell hr2.blk 1
    have g1 := blk_frozen hr2.blk 1
    have hlk := hr2.len
    replace hr2 := Aside0.mk hr2
    go_upto_region 5 with (fail)
    go_cut [18] (fun t W => ∃ b, t = .bool b ∧ Aside0 (b = decide ((0 < n2) ∧ (ek) = 0)) ∧ wr = W)
    case first =>
      by_cases h1 : 0 < n2
      · by_cases he : (ek) = 0
        · have b1 : ((ek) == 0) = true := by simpa using he
          have hb : Aside0 (decide ((0 < n2) ∧ (ek) = 0) = true) := ⟨decide_eq_true ⟨h1, he⟩⟩
          replace he := Aside0.mk he
          go_wp2
          go_meet
          case rel => exact ⟨_, rfl, ⟨hb.out.symm⟩, rfl⟩
        · have b1 : ((ek) == 0) = false := by simpa using he
          have hb : Aside0 (decide ((0 < n2) ∧ (ek) = 0) = false) := ⟨decide_eq_false (fun q => he q.2)⟩
          replace he := Aside0.mk he
          go_wp2
          go_meet
          case rel => exact ⟨_, rfl, ⟨hb.out.symm⟩, rfl⟩
      · have hb : Aside0 (decide ((0 < n2) ∧ (ek) = 0) = false) := ⟨decide_eq_false (fun q => h1 q.1)⟩
        go_wp2
        go_meet
        case rel => exact ⟨_, rfl, ⟨hb.out.symm⟩, rfl⟩
    obtain ⟨b, rfl, hb, rfl⟩ := hcut
    cases b with
    | true =>
      have hc1 := (of_decide_eq_true hb.out.symm).1
      clear hb y0 y1 g1
      have hch := Aside0.mk (rchart_any p hp0 hp1 r r lk ek wr hRk)
      go_upto_region 8 with (go_at_call 38; ((with_reducible refine hch.out.mono ?_); rintro ex w3 ⟨x, v1, v2, rfl, hL, hv1, hv2, hp2, hp3⟩; obtain ⟨A4, c4, rfl, _, _⟩ := hv1.reads; obtain ⟨A6, c6, rfl, _, _⟩ := hv2.reads))
      obtain ⟨x0, xr, xd⟩ := x
      simp only at hv1 hv2 hp2 hp3 hL ⊢
      obtain ⟨l3, e3, hran3, hR3⟩ := hL.ran
      obtain ⟨A3, c3, hr3⟩ := hR3.out
      have hBa : Bel w3 (w3.alloc (.cells #[.int .i64 x0, .slice A4 xr.length c4, .slice A6 xd.length c6] 36)) := (Bel.refl w3).alloc _
      have hba := heap_alloc_new w3 (.cells #[.int .i64 x0, .slice A4 xr.length c4, .slice A6 xd.length c6] 36)
      have hk3 := hOk.out.2.trans hL.kt.out
      have hrw3 : r ≤ w3.heap.size := Nat.le_trans hrw hk3.size
      have hO3 := Aside0.mk ((hOk.out.1.keep hL.kt.out (by decide)).step hBa)
      have hv3 : OwnAt kLoc 50 r w3 (.slice A4 xr.length c4) xr := ⟨Kd.R_lower hv1.out hrr⟩
      have hd3 : OwnAt kPair 73 r w3 (.slice A6 xd.length c6) xd := ⟨Kd.R_lower hv2.out hrr⟩
      have hva := Aside0.mk (hv3.step hBa)
      have hda := Aside0.mk (hd3.step hBa)
      have hka := Aside0.mk (hk3.trans (KT.of_bel hBa hrw3 ST))
      have hra := Aside0.mk (hr3.step hBa)
      generalize w3.alloc (.cells #[.int .i64 x0, .slice A4 xr.length c4, .slice A6 xd.length c6] 36) = wb at hBa hba hO3 hva hda hka hra ⊢
      obtain ⟨h, hh⟩ : ∃ h, w3.heap.size = h := ⟨_, rfl⟩
      rw [hh] at hba ⊢
      have z0 := blk_cell hba 0
      have z1 := blk_cell hba 1
      have z2 := blk_cell hba 2
      have hrwb : r ≤ wb.heap.size := Nat.le_trans hrw hka.out.size
      replace hh := Aside0.mk hh
      replace hba := Aside0.mk hba
      clear hL hR3 hr3 hBa hk3 hOk hRk hch hr2 hv1 hv2 hv3 hd3
      go_wp2_with ((with_reducible refine gate_b (b := .append) rfl ?_); (refine app_chart_at_ (xs := cs) (⟨x0, xr, xd⟩ : SChart) [.int .i64 x0, .slice A4 xr.length c4, .slice A6 xd.length c6] hO3.out ⟨kChart_mkM _ _ _ (⟨x0, xr, xd⟩ : SChart) hva.out.out hda.out.out⟩ hrwb rfl _ _ rfl ?hl1 rfl rfl ?_); (case hl1 => omega); intro v3 w8 hO1 hK1)
      go_roundw
      case rel =>
        refine ⟨k + 1, n2 - 1, cs ++ [⟨x0, xr, xd⟩], x0, l3, e3, by omega, by go_num, by omega, by omega, rfl, by omega, hp3, ⟨by simp [lastA]⟩, ⟨hran.out.grow1 (by rw [hlast.out]; exact hran3.out)⟩, ⟨⟨_, _, hra.out.keep hK1 (by decide) (by decide)⟩⟩, ⟨hO1, hka.out.after (by rw [hr.out]; exact hK1.below) hrw⟩, ⟨by rw [List.length_append, hdk.out]; rfl⟩⟩
      case measure => simp [intOf]; omega
    | false =>
      have hfin : Aside0 (Ran (pGrow (fun xs => pChart (lastA xs)) n.toNat) l1 e1 cs lk ek) := ⟨by
        have hc := of_decide_eq_false hb.out.symm
        by_cases hek : ek = 0
        · have : k = n.toNat := by have : ¬ 0 < n2 := fun q => hc ⟨q, hek⟩; omega
          rw [← this]; exact hran.out
        · exact hran.out.growEarly hek hk cs⟩
      clear hb
      have hran5 := Aside0.mk (Ran.fin lk ek)
      go_upto_region 10 with (fail)
      go_cut [37] (fun t W => ∃ b, t = .bool b ∧ Aside0 (b = decide (ek = 0 ∧ 0 < lk.length)) ∧ wr = W)
      case first =>
        by_cases he : ek = 0
        · have b1 : (ek == 0) = true := by simpa using he
          by_cases hp : 0 < lk.length
          · have hb : Aside0 (decide (ek = 0 ∧ 0 < lk.length) = true) := ⟨decide_eq_true ⟨he, hp⟩⟩
            replace he := Aside0.mk he
            go_wp2
            go_meet
            case rel => exact ⟨_, rfl, ⟨hb.out.symm⟩, rfl⟩
          · have hb : Aside0 (decide (ek = 0 ∧ 0 < lk.length) = false) := ⟨decide_eq_false (fun q => hp q.2)⟩
            replace he := Aside0.mk he
            go_wp2
            go_meet
            case rel => exact ⟨_, rfl, ⟨hb.out.symm⟩, rfl⟩
        · have b1 : (ek == 0) = false := by simpa using he
          have hb : Aside0 (decide (ek = 0 ∧ 0 < lk.length) = false) := ⟨decide_eq_false (fun q => he q.1)⟩
          replace he := Aside0.mk he
          go_wp2
          go_meet
          case rel => exact ⟨_, rfl, ⟨hb.out.symm⟩, rfl⟩
      case rest =>
        obtain ⟨b, rfl, hb, rfl⟩ := hcut
        go_upto_if 37 with (fail)
        go_cut [38] (fun _ W => Aside0 (IsR 68 r W r lk (if ek = 0 ∧ 0 < lk.length then 11 else ek) A2 c2 ∧ KT ST r wr W))
        case first =>
          cases b with
          | true =>
            have hc := Aside0.mk (of_decide_eq_true hb.out.symm)
            have hs := Aside0.mk (hr2.out.setE (by decide) 11)
            go_wp2
            go_meet
            case rel => exact ⟨by rw [if_pos hc.out]; exact hs.out.1, hs.out.2⟩
          | false =>
            have hc := Aside0.mk (of_decide_eq_false hb.out.symm)
            go_wp2
            go_meet
            case rel => exact ⟨by rw [if_neg hc.out]; exact hr2.out, KT.refl _ _ _⟩
        case rest =>
          have hx3 := hcut.out
          obtain ⟨e5, he5⟩ : ∃ e5, (if ek = 0 ∧ 0 < lk.length then (11 : Int) else ek) = e5 := ⟨_, rfl⟩
          rw [he5] at hx3 hran5
          have hall : Ran pCharts l 0 cs lk e5 := hran1.out.bind (hfin.out.bind (hran5.out.bind (Ran.ret cs lk e5)))
          have hw5 := Aside0.mk hall.wholeC
          have q1 : wc.cell? ⟨r, 1, none⟩ = some (.int .i64 e5) := blk_cell hx3.1.blk 1
          have hk5 := hOk.out.2.trans hx3.2
          have hB5 : Bel w wc := ⟨by have := hk5.below; rwa [← hr.out] at this⟩
          have hO5 := hOk.out.1.keep hx3.2 (by decide)
          clear hcut he5 hall hran5 hran hfin hOk hRk hr2 hk5 y0 y1 hx3 hb
          replace hO5 := Aside0.mk hO5
          by_cases h5 : e5 = 0
          · have b1 : (e5 != 0) = false := by simp [h5]
            replace h5 := Aside0.mk h5
            go_wp2
            go_ret2
            refine ⟨.slice A0 cs.length c0, ?_, ⟨?_⟩, hB5⟩
            · rw [← hw5.out.1, h5.out]; rfl
            · rw [← hw5.out.2.1 h5.out, hr.out]
              exact hO5.out.out
          · have b1 : (e5 != 0) = true := by simpa using h5
            replace h5 := Aside0.mk h5
            go_upto_region 13 with (fail)
            go_region_law (fail)
            all_goals
              go_wp2
              go_ret2
              refine ⟨.slice none 0 0, ?_, ⟨?_⟩, ?_⟩
              · rw [← hw5.out.1]; rfl
              · rw [hw5.out.2.2 h5.out]
                exact (Own.nil _ _ _ _).out
              · exact hB5.drewN 1
end Go.Proofs.YtceibabhmomfiaaDoor.H
