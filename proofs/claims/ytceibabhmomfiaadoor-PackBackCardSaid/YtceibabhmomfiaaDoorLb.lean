/- Layer 3: what is encoded is decoded as it was, and what is decoded has just those bytes. -/
import Derived.Test.YtceibabhmomfiaaDoorLe
namespace Go.Proofs.YtceibabhmomfiaaDoor.H
open Go.RowKit Go.Proofs.YtceibabhmomfiaaDoorW.PrintWords Go.Proofs.YtceibabhmomfiaaDoorW.PrintLast
set_option linter.unusedVariables false
set_option linter.unusedSimpArgs false
set_option maxRecDepth 100000

set_option maxHeartbeats 4000000 in
theorem PackBack_walk (A B : Option Addr) (c d : Nat) (l : List SChart) (m : List Int) (w : World) (hG : GlobA w.heap.size w) (HA : Rd kChart w A l) (hl : Aside0 (ACharts l)) (HB : RdB w B m) (hd : m.length ≤ d) (hm : Bytes m) :
    Calls Tryd.prog 4 #[.slice A l.length c, .slice B m.length d] w fun e w' => e = .returned (.bool true) ∧ Bel w w' := by
  have hal := Aside0.mk (alive_any w hG)
  go_enter Tryd.func4, Tryd.ntmps4
  go_upto_region 3 with (go_at_call 12; ((with_reducible refine hal.out.mono ?_); rintro e w1 ⟨rfl, hB1⟩))
  have hgr := Aside0.mk (Great_any A c l w1 (HA.step hB1) hl)
  go_upto_if 21 with (go_at_call 16; ((with_reducible refine hgr.out.mono ?_); rintro e w2 ⟨g, rfl, hg, hB2⟩; cases g))
  · by_cases hmore : 4000 < m.length
    · go_wp2
      go_ret
      exact ⟨rfl, hB1.trans hB2⟩
    have hfew := hg.out (by first | rfl | trivial)
    have hBw2 := hB1.trans hB2
    obtain ⟨ok, hok⟩ := ok_of l
    have henc := Aside0.mk (Encode_any A c l w2 (HA.step hBw2) ⟨hfew⟩ ⟨mx_of hl.out⟩ ok hok)
    clear hgr hal hg
    go_upto_region 6 with (go_at_call 17; ((with_reducible refine henc.out.mono ?_); rintro e w3 ⟨v3, rfl, hv3, hB3⟩; obtain ⟨A3, c3, rfl, hc3, hR3⟩ := hv3.reads))
    have hBw3 := hBw2.trans hB3
    obtain ⟨bs, hbs⟩ : ∃ b, eL ok l = b := ⟨_, rfl⟩
    rw [hbs] at hR3 hc3 ⊢
    clear henc hv3
    go_cut [43] (fun t W => ∃ b, t = .bool b ∧ Aside0 (b = true → (RightP l ∧ Near l) ∧ encC l = bs) ∧ w3 = W)
    case first =>
      cases ok with
      | false =>
        have b0 : (eE false == 0) = false := rfl
        go_wp2
        go_meet
        case rel => exact ⟨_, rfl, ⟨fun q => by cases q⟩, rfl⟩
      | true =>
        have hr := hok.out.1 rfl
        have he : encC l = bs := hbs
        replace hbs := Aside0.mk hbs
        have b0 : (eE true == 0) = true := rfl
        by_cases h0 : l.length = 0
        · have hn : Near l := by rw [List.eq_nil_of_length_eq_zero h0]; exact near_nil
          have b1 : (l.length == 0) = true := by simpa using h0
          have b2 : ((l.length : Int) == 0) = true := by simp [h0]
          have hy : Aside0 ((RightP l ∧ Near l) ∧ encC l = bs) := ⟨⟨hr, hn⟩, he⟩
          clear hr hn he
          replace h0 := Aside0.mk h0
          go_wp2
          go_meet
          case rel => exact ⟨_, rfl, ⟨fun _ => hy.out⟩, rfl⟩
        · obtain ⟨k, hk⟩ : ∃ k, l.length = k + 1 := ⟨l.length - 1, by omega⟩
          have hnl := near_last hr k hk
          obtain ⟨ad, A5, c5, A6, c6, rfl, u0, u1, u2, u3, u4⟩ := chart_at (HA.step hBw3) k (by omega)
          obtain ⟨a, ha⟩ : ∃ a, (l[k]'(by omega)).f0 = a := ⟨_, rfl⟩
          rw [ha] at u0 hnl
          clear u1 u2 u3 u4 ha
          have hfl := hfew.1
          have hw1 : IntKind.i64.wrap ((l.length : Int) - 1) = (k : Int) := by rw [IntKind.wrap_i64]; omega
          have hk2 : k < l.length := by omega
          have b1 : (l.length == 0) = false := by simpa using h0
          have b2 : ((l.length : Int) == 0) = false := by rw [beq_eq_false_iff_ne]; omega
          have hk3 : (k : Int) < (l.length : Int) := by omega
          replace hk := Aside0.mk hk
          clear h0
          by_cases hf : a ≤ 1099511627776
          · have hy : Aside0 ((RightP l ∧ Near l) ∧ encC l = bs) := ⟨⟨hr, hnl.2 hf⟩, he⟩
            clear hr hnl he
            go_wp2
            go_meet
            case rel => exact ⟨_, rfl, ⟨fun _ => hy.out⟩, rfl⟩
          · have b3 : decide (a ≤ 1099511627776) = false := decide_eq_false hf
            clear hr hnl he
            go_wp2
            go_meet
            case rel => exact ⟨_, rfl, ⟨fun q => by first | cases q | (exact absurd q (by simp [hf]))⟩, rfl⟩
    case rest =>
      obtain ⟨b, rfl, hb, rfl⟩ := hcut
      go_upto_if 43 with (fail)
      go_cut [44] (fun _ W => Bel w3 W)
      case first =>
        cases b with
        | false =>
          go_wp2
          go_meet
          case rel => exact Bel.refl _
        | true =>
          obtain ⟨⟨hr, hn⟩, he⟩ := hb.out rfl
          subst he
          have hde := dec_enc hr hn
          have hln := encC_len hr
          have hby := encC_by hr (mx_of hl.out)
          have hdm := Decode_any A3 c3 (encC l) w3 (hG.later hBw3) hc3 hR3 ⟨hby⟩ (by omega)
          rw [hde.1, hde.2] at hdm
          replace hdm := Aside0.mk hdm
          have hsm := Aside0.mk (fun (A7 : Option Addr) (c7 : Nat) (W : World) (k : Bel w3 W) (h : Rd kChart W A7 l) => (rSame_any A A7 c c7 l l W (HA.step (hBw3.trans k)) h ⟨hfew⟩ ⟨hfew⟩).mono (fun e w' h => h.yes rfl))
          clear hr hn hde hln hby hb
          go_wp2_with (first | (go_at_call 13; ((with_reducible refine hdm.out.mono ?_); rintro e w5 ⟨v5, rfl, hv5, hB5⟩; obtain ⟨A5, c5, rfl, _, hR5⟩ := hv5.reads)) | (go_at_call 15; ((with_reducible refine (hsm.out _ _ _ hB5 hR5).mono ?_); rintro e w6 ⟨rfl, hB6⟩)))
          go_meet
          case rel => exact hB5.trans hB6
      case rest =>
        have hBc := hcut
        have hBwc := hBw3.trans hBc
        have hdm := Decode_any B d m wc (hG.later hBwc) hd (HB.step hBwc) hm (by omega)
        clear hb hR3 hc3 hbs
        by_cases hx : dcE m = 0
        · obtain ⟨hr, he, hn⟩ := dec_just hm.out hx
          rw [hx] at hdm
          obtain ⟨fs, hfs⟩ : ∃ f, dcL m = f := ⟨_, rfl⟩
          rw [hfs] at hdm hr he hn
          have hen := Aside0.mk (fun (A7 : Option Addr) (c7 : Nat) (W : World) (h : Rd kChart W A7 fs) => Encode_yes A7 c7 fs W h ⟨hr⟩ ⟨fun c hc => Int.le_trans (hn c hc) (by decide)⟩)
          rw [he] at hen
          have hml := Aside0.mk (fun (A7 : Option Addr) (c7 : Nat) (W : World) (k : Bel wc W) (h : RdB W A7 m) => Same_any A7 B c7 d m m W h (HB.step (hBwc.trans k)) (by omega))
          have hri := Aside0.mk (fun (A7 : Option Addr) (c7 : Nat) (W : World) (h : Rd kChart W A7 fs) => (Right_any A7 c7 fs W h ⟨few_of hr⟩).mono (fun e w' h => h.yes hr))
          rw [decide_eq_true (rfl : m = m)] at hml
          replace hdm := Aside0.mk hdm
          clear hr he hn hfs hx
          go_upto_region 14 with (first | (go_at_call 13; ((with_reducible refine hdm.out.mono ?_); rintro e w5 ⟨v5, rfl, hv5, hB5⟩; obtain ⟨A5, c5, rfl, _, hR5⟩ := hv5.reads)) | (go_at_call 17; ((with_reducible refine (hen.out _ _ _ hR5).mono ?_); rintro e w6 ⟨v6, rfl, hv6, hB6⟩; obtain ⟨A6, c6, rfl, _, hR6⟩ := hv6.reads)))
          go_wp2_with (first | (go_at_call 18; ((with_reducible refine (hml.out _ _ _ (hB5.trans hB6) hR6).mono ?_); rintro e w7 ⟨rfl, hd7⟩)) | (go_at_call 19; ((with_reducible refine (hri.out _ _ _ (hR5.step (hB6.trans (Bel.drawn hd7)))).mono ?_); rintro e w8 ⟨rfl, hB8⟩)))
          go_ret
          exact ⟨rfl, hBwc.trans (hB5.trans (hB6.trans ((Bel.drawn hd7).trans hB8)))⟩
        · rw [dec_none hx] at hdm
          obtain ⟨x, hxe⟩ : ∃ x, dcE m = x := ⟨_, rfl⟩
          rw [hxe] at hdm hx
          have b1 : (x != 0) = true := by simpa using hx
          replace hdm := Aside0.mk hdm
          clear hxe hx
          go_wp2_with (go_at_call 13; ((with_reducible refine hdm.out.mono ?_); rintro e w5 ⟨v5, rfl, hv5, hB5⟩; obtain ⟨A5, c5, rfl, _, hR5⟩ := hv5.reads))
          go_ret
          exact ⟨rfl, hBwc.trans hB5⟩
  · go_wp2
    go_ret
    exact ⟨rfl, hB1.trans hB2⟩
theorem PackBack_row (A0 : Option Addr) (c0 : Nat) (l0 : List SChart) (A1 : Option Addr) (c1 : Nat) (l1 : List Int) (w : World) (hG : GlobA w.heap.size w) (H0 : Rd kChart w A0 l0) (_ : l0.length ≤ c0) (o0 : ACharts l0) (H1 : RdB w A1 l1) (k1 : l1.length ≤ c1) (o1 : ABytes l1) :
    Calls Tryd.prog 4 #[.slice A0 l0.length c0, .slice A1 l1.length c1] w fun e w' => e = .returned (.bool true) ∧ Bel w w' := PackBack_walk A0 A1 c0 c1 l0 l1 w hG H0 ⟨o0⟩ H1 k1 ⟨fun x hx => (o1.2 x hx).ok⟩
end Go.Proofs.YtceibabhmomfiaaDoor.H
