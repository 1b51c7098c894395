/- Texts of this work, joined: Ln, Fm. Conditions: each stands with its theorem. -/
import Derived.Test.YtceibabhmomfiaaDoorX22
import Derived.Test.YtceibabhmomfiaaDoorX25
import Derived.Test.YtceibabhmomfiaaDoorX18
/- Layer 3: the code encodes charts as the reference does. -/
namespace Go.Proofs.YtceibabhmomfiaaDoor.H
open Go.RowKit Go.Proofs.YtceibabhmomfiaaDoorW.PrintWords Go.Proofs.YtceibabhmomfiaaDoorW.PrintLast
set_option linter.unusedVariables false
set_option linter.unusedSimpArgs false
set_option maxRecDepth 100000

theorem rEncode_any (A : Option Addr) (c : Nat) (l : List SChart) (w : World) (HA : Rd kChart w A l) (hs : Aside0 (FewC l)) (hmx : Aside0 (∀ c ∈ l, c.f0 ≤ mx)) (ok : Bool) (hok : Aside0 (ok = true ↔ RightP l)) :
    Calls Tryd.prog 20 #[.slice A l.length c] w fun e w' => ∃ v, e = .returned (.tuple #[v, .int .i64 (eE ok)]) ∧ OwnB w w' v (eL ok l) ∧ Bel w w' := by
  cases ok with
  | true => exact rEncode_yes A c l w HA ⟨hok.out.1 rfl⟩ hmx
  | false =>
    refine (rEncode_no A c l w HA hs (fun h => by have := hok.out.2 h; cases this)).mono ?_
    rintro e w' ⟨rfl, hB⟩
    exact ⟨_, rfl, Own.nil _ _ _ _, hB⟩
theorem eL_len (ok : Bool) (l : List SChart) (hok : ok = true ↔ RightP l) : (eL ok l).length ≤ 12000010 := by
  cases ok with
  | true => exact encC_len (hok.1 rfl)
  | false => simp [eL]
set_option maxHeartbeats 1000000 in
theorem Size_any (A : Option Addr) (c : Nat) (l : List SChart) (w : World) (HA : Rd kChart w A l) (hs : Aside0 (FewC l)) (hmx : Aside0 (∀ c ∈ l, c.f0 ≤ mx)) (ok : Bool) (hok : Aside0 (ok = true ↔ RightP l)) :
    Calls Tryd.prog 21 #[.slice A l.length c] w fun e w' => e = .returned (.int .i64 (eL ok l).length) ∧ Bel w w' := by
  have he := Aside0.mk (Encode_any A c l w HA hs hmx ok hok)
  obtain ⟨x, hx⟩ : ∃ x, eL ok l = x := ⟨_, rfl⟩
  obtain ⟨y, hy⟩ : ∃ x, eE ok = x := ⟨_, rfl⟩
  rw [hx, hy] at he
  rw [hx]
  go_enter Tryd.func21, Tryd.ntmps21
  go_wp2_with (go_at_call 17; ((with_reducible refine he.out.mono ?_); rintro e w4 ⟨v4, rfl, hv4, hB4⟩; obtain ⟨A4, c4, rfl, hc4, hR4⟩ := hv4.reads))
  go_ret
  exact ⟨rfl, hB4⟩
set_option maxHeartbeats 2000000 in
theorem PackEncodes_walk (A : Option Addr) (c : Nat) (l : List SChart) (w : World) (hG : GlobA w.heap.size w) (HA : Rd kChart w A l) (hl : Aside0 (ACharts l)) :
    Calls Tryd.prog 7 #[.slice A l.length c] w fun e w' => e = .returned (.bool true) ∧ Bel w w' := by
  have hal := Aside0.mk (alive_any w hG)
  go_enter Tryd.func7, Tryd.ntmps7
  go_upto_region 3 with (go_at_call 12; ((with_reducible refine hal.out.mono ?_); rintro e w1 ⟨rfl, hB1⟩))
  have hg0 := Aside0.mk (Great_any A c l w1 (HA.step hB1) hl)
  go_upto_if 10 with (go_at_call 16; ((with_reducible refine hg0.out.mono ?_); rintro e w2 ⟨g0, rfl, hf0, hB2⟩; cases g0))
  · have hfl := hf0.out (by first | rfl | trivial)
    have hBw2 := hB1.trans hB2
    obtain ⟨ok, hok⟩ := ok_of l
    have he0 := Aside0.mk (Encode_any A c l w2 (HA.step hBw2) ⟨hfl⟩ ⟨mx_of hl.out⟩ ok hok)
    have he1 := Aside0.mk (fun W (k : Bel w2 W) => rEncode_any A c l W (HA.step (hBw2.trans k)) ⟨hfl⟩ ⟨mx_of hl.out⟩ ok hok)
    have he2 := Aside0.mk (fun W (k : Bel w2 W) => Size_any A c l W (HA.step (hBw2.trans k)) ⟨hfl⟩ ⟨mx_of hl.out⟩ ok hok)
    have hlen := eL_len ok l hok.out
    obtain ⟨x, hx⟩ : ∃ b, eL ok l = b := ⟨_, rfl⟩
    obtain ⟨y, hy⟩ : ∃ b, eE ok = b := ⟨_, rfl⟩
    rw [hx, hy] at he0 he1
    rw [hx] at he2 hlen
    have b0 : (y == y) = true := by simp
    have b1 : (x.length == x.length) = true := by simp
    clear hg0 hal hf0 hx hy hok
    go_upto_region 7 with (first | (go_at_call 17; ((with_reducible refine he0.out.mono ?_); rintro e w4 ⟨v4, rfl, hv4, hB4⟩; obtain ⟨A4, c4, rfl, hc4, hR4⟩ := hv4.reads)) | (go_at_call 20; ((with_reducible refine (he1.out _ hB4).mono ?_); rintro e w5 ⟨v5, rfl, hv5, hB5⟩; obtain ⟨A5, c5, rfl, hc5, hR5⟩ := hv5.reads)))
    have hs := Aside0.mk (Same_any A4 A5 c4 c5 x x w5 (hR4.step hB5) hR5 (by omega))
    rw [decide_eq_true (rfl : x = x)] at hs
    have hB25 := hB4.trans hB5
    clear he0 he1
    go_wp2_with (first | (go_at_call 18; ((with_reducible refine hs.out.mono ?_); rintro e w6 ⟨rfl, hd6⟩)) | (go_at_call 21; ((with_reducible refine (he2.out _ (hB25.trans (Bel.drawn hd6))).mono ?_); rintro e w7 ⟨rfl, hB7⟩)))
    go_ret
    exact ⟨rfl, hBw2.trans (hB25.trans ((Bel.drawn hd6).trans hB7))⟩
  · go_wp2
    go_ret
    exact ⟨rfl, hB1.trans hB2⟩
theorem PackEncodes_row (A0 : Option Addr) (c0 : Nat) (l0 : List SChart) (w : World) (hG : GlobA w.heap.size w) (H0 : Rd kChart w A0 l0) (_ : l0.length ≤ c0) (o0 : ACharts l0) :
    Calls Tryd.prog 7 #[.slice A0 l0.length c0] w fun e w' => e = .returned (.bool true) ∧ Bel w w' := PackEncodes_walk A0 c0 l0 w hG H0 ⟨o0⟩
end Go.Proofs.YtceibabhmomfiaaDoor.H

/- Layer 3, law23: a table has as many charts as were encoded, found at just their addresses. -/
namespace Go.Proofs.YtceibabhmomfiaaDoor.H
open Go.RowKit Go.Proofs.YtceibabhmomfiaaDoorW.PrintWords Go.Proofs.YtceibabhmomfiaaDoorW.PrintLast
set_option linter.unusedVariables false
set_option linter.unusedSimpArgs false
set_option maxRecDepth 100000

theorem dec_empty : dcE [] = 2 := by kernel_rfl
theorem far_bad {l : List SChart} (h : RightP l) (hm : ∀ c ∈ l, c.f0 ≤ mx) (hn : ¬ Near l) : dcE (encC l) ≠ 0 := fun h0 => by
  obtain ⟨h1, h2, h3⟩ := dec_just (encC_by h hm) h0
  have h4 := (enc_inj h1 h (fun c hc => Int.le_trans (h3 c hc) (by decide)) hm).1 h2
  rw [h4] at h3
  exact hn h3
set_option maxHeartbeats 8000000 in
theorem FindJust_walk (A : Option Addr) (c : Nat) (l : List SChart) (w : World) (hG : GlobA w.heap.size w) (HA : Rd kChart w A l) (hl : Aside0 (ACharts l)) :
    Calls Tryd.prog 11 #[.slice A l.length c] w fun e w' => e = .returned (.bool true) ∧ Bel w w' := by
  have hal := Aside0.mk (alive23_any w hG)
  go_enter Tryd.func11, Tryd.ntmps11
  go_upto_region 3 with (go_at_call 22; ((with_reducible refine hal.out.mono ?_); rintro e w1 ⟨rfl, hB1⟩))
  have hg0 := Aside0.mk (Great_any A c l w1 (HA.step hB1) hl)
  go_upto_if 14 with (go_at_call 16; ((with_reducible refine hg0.out.mono ?_); rintro e w2 ⟨g0, rfl, hf0, hB2⟩; cases g0))
  · have hfl := hf0.out (by first | rfl | trivial)
    have hBw2 := hB1.trans hB2
    obtain ⟨ok, hok⟩ := ok_of l
    have he0 := Aside0.mk (rEncode_any A c l w2 (HA.step hBw2) ⟨hfl⟩ ⟨mx_of hl.out⟩ ok hok)
    clear hg0 hal hf0
    cases ok with
    | false =>
      have he1 := Aside0.mk (show Calls Tryd.prog 20 #[.slice A l.length c] w2 fun e w' => ∃ v, e = .returned (.tuple #[v, .int .i64 1]) ∧ OwnB w2 w' v [] ∧ Bel w2 w' from he0.out)
      clear he0 hok
      go_upto_region 6 with (go_at_call 20; ((with_reducible refine he1.out.mono ?_); rintro e w3 ⟨v3, rfl, hv3, hB3⟩; obtain ⟨A3, c3, rfl, hc3, hR3⟩ := hv3.reads))
      have hn := Aside0.mk ((New_any A3 c3 [] w3 (hG.later (hBw2.trans hB3)) hc3 hR3 ⟨fun x hx => by cases hx⟩ (by decide)).mono (fun e w' h => h.z (by rw [dec_empty]; decide)))
      rw [dec_empty] at hn
      simp only [List.length_nil] at hn
      go_wp2_with (go_at_call 24; ((with_reducible refine hn.out.mono ?_); rintro e w4 ⟨rfl, hB4⟩))
      go_ret
      exact ⟨rfl, hBw2.trans (hB3.trans hB4)⟩
    | true =>
      have hr := hok.out.1 rfl
      have hlen := encC_len hr
      have hby : Bytes (encC l) := ⟨encC_by hr (mx_of hl.out)⟩
      have he1 := Aside0.mk (show Calls Tryd.prog 20 #[.slice A l.length c] w2 fun e w' => ∃ v, e = .returned (.tuple #[v, .int .i64 0]) ∧ OwnB w2 w' v (encC l) ∧ Bel w2 w' from he0.out)
      clear he0 hok
      go_upto_region 6 with (go_at_call 20; ((with_reducible refine he1.out.mono ?_); rintro e w3 ⟨v3, rfl, hv3, hB3⟩; obtain ⟨A3, c3, rfl, hc3, hR3⟩ := hv3.reads))
      have hBw3 := hBw2.trans hB3
      have hn := New_any A3 c3 (encC l) w3 (hG.later hBw3) hc3 hR3 hby (by omega)
      clear hv3 he1
      by_cases hnr : Near l
      · have hde := dec_enc hr hnr
        replace hn := Aside0.mk (hn.mono (fun e w' h => h.t hby.out hde.1))
        rw [hde.2] at hn
        obtain ⟨x, hx⟩ : ∃ b, encC l = b := ⟨_, rfl⟩
        rw [hx] at hn hR3 hc3 ⊢
        clear hde hx hby hlen hnr
        have hfl2 := hr.few
        have hri := Aside0.mk (rise_ne hr.rise)
        have hup := Aside0.mk hr.rise
        replace hr := Aside0.mk hr
        have b0 : ((l.length : Int) != (l.length : Int)) = false := by simp
        obtain ⟨ks, hks⟩ : ∃ ks, l.map (fun x => x.f0) = ks := ⟨_, rfl⟩
        have hkl : ks.length = l.length := by rw [← hks]; simp
        have b4 : ((ks.length : Int) != (l.length : Int)) = false := by simp [hkl]
        replace hkl := Aside0.mk hkl
        have hka : Aside0 (∀ (j : Nat) (hj : j < ks.length) (hj2 : j < l.length), ks[j] = l[j].f0) := ⟨fun j hj hj2 => by subst hks; simp⟩
        go_upto_region 7 with (go_at_call 24; ((with_reducible refine hn.out.mono ?_); rintro e w4 ⟨tb, rfl, ht1, ht2, hT4, hB4⟩))
        have hAd := Aside0.mk (Addrs_n hT4)
        rw [hks] at hAd
        have hwt : Aside0 (w.heap.size ≤ tb) := ⟨Nat.le_trans hBw3.size ht1⟩
        clear hn hks
        go_upto_region 10 with (go_at_call 31; ((with_reducible refine hAd.out.mono ?_); rintro e w5 ⟨v5, rfl, hv5, hB5⟩; obtain ⟨A5, c5, rfl, _, _⟩ := hv5.reads))
        have hT5 := Aside0.mk (hT4.keep hB5)
        have hLn := Aside0.mk (Len_n hT5.out)
        have hO5 := OwnAt.of_own hv5 (Nat.le_refl _)
        obtain ⟨b5, hb5⟩ : ∃ b, w4.heap.size = b := ⟨_, rfl⟩
        rw [hb5] at hO5 ht2
        have hBw5 := hBw3.trans (hB4.trans hB5)
        clear hAd hT4 hv5 hb5 hR3 hc3 hB5 hB4
        go_upto_region 12 with (go_at_call 27; ((with_reducible refine hLn.out.mono ?_); rintro e w6 ⟨rfl, rfl⟩))
        clear hLn
        go_wp2
        go_loopw [8] (fun i W => ∃ k : Nat, k ≤ ks.length ∧ i = .int .i64 k ∧ Aside0 (IsTb W tb l k) ∧ OwnAt (Kd.int .i64) 3 b5 W (.slice A5 ks.length c5) ks ∧ Bel w W) (fun i _ => ks.length - (intOf i).toNat)
        case atStart => exact ⟨0, by omega, rfl, hT5, hO5, hBw5⟩
        case round =>
          obtain ⟨k, hk, rfl, hT, hO, hB⟩ := hrel
          by_cases hlt : k < ks.length
          · have hlt2 : k < l.length := by have := hkl.out; omega
            have hhit := at_hit hri.out k hlt2
            have hrd := OwnAt.rdOf hO
            obtain ⟨ad, rfl, hx0⟩ := rd_atN hrd k hlt
            have hxe : rd ks (k : Int) = l[k].f0 := by rw [← hka.out k hlt hlt2]; simp [rd, List.getD_eq_getElem?_getD, List.getElem?_eq_getElem hlt]
            rw [hxe] at hx0
            have hwa : (Lit.int .i64 l[k].f0).wf = true := (hl.out.2 _ (List.getElem_mem hlt2)).f0
            have hc := Aside0.mk (At_t hT.out l[k].f0 (by omega) (by omega) hwa)
            rw [hhit.1, hhit.2] at hc
            have hprev : ∀ j (hj : j + 1 = k), rd ks (j : Int) < l[k].f0 := fun j hj => by
              have h1 : rd ks (j : Int) = l[j].f0 := by rw [← hka.out j (by omega) (by omega)]; simp [rd, List.getD_eq_getElem?_getD, List.getElem?_eq_getElem (show j < ks.length by omega)]
              rw [h1]
              subst hj
              exact hup.out j hlt2
            replace hprev := Aside0.mk hprev
            have hl0 : Aside0 (∀ W, Bel w W → ∃ ad1, A = some ad1 ∧ W.cell? (ad1.add (k * 3)) = some (.int .i64 l[k].f0)) := ⟨fun W q => by
              obtain ⟨ad1, _, _, _, _, e1, u0, _⟩ := chart_at (HA.step q) k hlt2
              exact ⟨ad1, e1, u0⟩⟩
            obtain ⟨x, hx⟩ : ∃ x, l[k] = x := ⟨_, rfl⟩
            have hxe' := Aside0.mk hxe
            rw [hx] at hc hx0 hprev hl0 hxe'
            obtain ⟨x0, xr, xd⟩ := x
            simp only at hc hx0 hprev hl0 hxe'
            clear hx hxe hwa hhit hrd
            have g0 : (x0 != x0) = false := by simp
            go_upto_region 16 with (go_at_call 25; ((with_reducible refine hc.out.mono ?_); rintro e w4 ⟨⟨v3, v4, rfl, hv3, hv4⟩, hT4, hK4⟩; obtain ⟨A3, c3, rfl, _, r3⟩ := hv3.reads; obtain ⟨A4, c4, rfl, _, r4⟩ := hv4.reads))
            have hBa := (Bel.refl w4).alloc (.cells #[.int .i64 x0, .slice A3 xr.length c3, .slice A4 xd.length c4] 36)
            generalize w4.alloc (.cells #[.int .i64 x0, .slice A3 xr.length c3, .slice A4 xd.length c4] 36) = wa at hBa ⊢
            have hTa := Aside0.mk (hT4.keep hBa)
            have hOa := (hO.ko hK4 ht2).step hBa
            have hB4 := (hK4.bel hB hwt.out).trans hBa
            obtain ⟨ad1, rfl, y0⟩ := hl0.out wa hB4
            have hrd := OwnAt.rdOf hOa
            have z0 : wa.cell? (ad.add k) = some (.int .i64 x0) := by
              obtain ⟨ad2, e2, hx2⟩ := rd_atN hrd k hlt
              injection e2 with e2
              subst e2
              rw [hx2, hxe'.out]
            have hko : Aside0 (k = 0 ∨ ∃ j, k = j + 1) := ⟨by cases k <;> simp⟩
            clear hc hv3 hv4 hT4 hK4 hT hO hB hl0 hBa r3 r4
            rcases hko.out with h0 | ⟨j, hj⟩
            · have q5 : decide ((0 : Int) < (k : Int)) = false := by simp [h0]
              have q7 : decide (0 < k) = false := by simp [h0]
              replace h0 := Aside0.mk h0
              clear hko hprev hrd
              go_upto_region 16 with (fail)
              go_quiet (fail)
              go_wp2
              go_roundw
              case rel => exact ⟨k + 1, by omega, by go_num, ⟨hTa.out.keep ((Bel.refl _).drewN _)⟩, hOa.step ((Bel.refl _).drewN _), hB4.drewN _⟩
              case measure => simp [intOf]; omega
            · have q5 : decide ((0 : Int) < (k : Int)) = true := by simp; omega
              have q7 : decide (0 < k) = true := by simp; omega
              have q8 : 0 < k := by omega
              have hjl : j < ks.length := by omega
              have hjl2 : (j : Int) < (ks.length : Int) := by omega
              have hw1 : IntKind.i64.wrap ((k : Int) - 1) = (j : Int) := by rw [IntKind.wrap_i64]; omega
              have hpr := hprev.out j hj.symm
              have zj : wa.cell? (ad.add j) = some (.int .i64 (rd ks (j : Int))) := by
                obtain ⟨ad2, e2, hx2⟩ := rd_atN hrd j hjl
                injection e2 with e2
                subst e2
                exact hx2
              obtain ⟨y, hy⟩ : ∃ y, rd ks (j : Int) = y := ⟨_, rfl⟩
              rw [hy] at hpr zj
              have q6 : decide (x0 ≤ y) = false := by simp; omega
              replace hj := Aside0.mk hj
              clear hko hprev hrd hy
              go_upto_region 16 with (fail)
              go_quiet (fail)
              go_wp2
              go_roundw
              case rel => exact ⟨k + 1, by omega, by go_num, ⟨hTa.out.keep ((Bel.refl _).drewN _)⟩, hOa.step ((Bel.refl _).drewN _), hB4.drewN _⟩
              case measure => simp [intOf]; omega
          · go_wp2
            go_ret
            exact ⟨rfl, hB⟩
      · have hbad := far_bad hr (mx_of hl.out) hnr
        replace hn := Aside0.mk (hn.mono (fun e w' h => h.z hbad))
        obtain ⟨x, hx⟩ : ∃ b, encC l = b := ⟨_, rfl⟩
        rw [hx] at hn hR3 hc3 hbad ⊢
        obtain ⟨F, hF⟩ : ∃ b, dcE x = b := ⟨_, rfl⟩
        rw [hF] at hn hbad
        have b1 : (F != 0) = true := by simpa using hbad
        have h0 : l.length ≠ 0 := fun e => hnr (by rw [List.eq_nil_of_length_eq_zero e]; exact near_nil)
        obtain ⟨k, hk⟩ : ∃ k, l.length = k + 1 := ⟨l.length - 1, by omega⟩
        have hnl : ¬ (l[k]'(by omega)).f0 ≤ 1099511627776 := fun q => hnr ((near_last hr k hk).2 q)
        clear hx hF hbad hnr hby hlen
        go_upto_region 7 with (go_at_call 24; ((with_reducible refine hn.out.mono ?_); rintro e w4 ⟨rfl, hB4⟩))
        have hBw4 := hBw3.trans hB4
        obtain ⟨ad, A5, c5, A6, c6, rfl, u0, u1, u2, u3, u4⟩ := chart_at (HA.step hBw4) k (by omega)
        obtain ⟨a, ha⟩ : ∃ a, (l[k]'(by omega)).f0 = a := ⟨_, rfl⟩
        rw [ha] at u0 hnl
        have hfl2 := hr.few
        clear u1 u2 u3 u4 ha hr
        have hw1 : IntKind.i64.wrap ((l.length : Int) - 1) = (k : Int) := by rw [IntKind.wrap_i64]; omega
        have hk2 : k < l.length := by omega
        have hk3 : (k : Int) < (l.length : Int) := by omega
        have hk4 : (0 : Int) < (l.length : Int) := by omega
        have hk5 : 0 < l.length := by omega
        have b3 : (1099511627776 : Int) < a := by omega
        replace hk := Aside0.mk hk
        clear h0
        go_wp2
        go_ret
        exact ⟨rfl, hBw4⟩
  · go_wp2
    go_ret
    exact ⟨rfl, hB1.trans hB2⟩
theorem FindJust_row (A0 : Option Addr) (c0 : Nat) (l0 : List SChart) (w : World) (hG : GlobA w.heap.size w) (H0 : Rd kChart w A0 l0) (_ : l0.length ≤ c0) (o0 : ACharts l0) :
    Calls Tryd.prog 11 #[.slice A0 l0.length c0] w fun e w' => e = .returned (.bool true) ∧ Bel w w' := FindJust_walk A0 c0 l0 w hG H0 ⟨o0⟩
end Go.Proofs.YtceibabhmomfiaaDoor.H
