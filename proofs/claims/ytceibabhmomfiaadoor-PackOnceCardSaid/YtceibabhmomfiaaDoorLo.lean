/- Layer 3: two lists of charts of the same bytes are the same; what is cut off, or goes on, is none. -/
import Derived.Test.YtceibabhmomfiaaDoorLe
namespace Go.Proofs.YtceibabhmomfiaaDoor.H
open Go.RowKit Go.Proofs.YtceibabhmomfiaaDoorW.PrintWords Go.Proofs.YtceibabhmomfiaaDoorW.PrintLast
set_option linter.unusedVariables false
set_option linter.unusedSimpArgs false
set_option maxRecDepth 100000

theorem take_u8' (A : Option Addr) (c : Nat) (xs : List Int) (m : Nat) (hm : m ≤ xs.length) (hc : xs.length ≤ c) :
    (∀ W : World, (Instr.slice 22 (.slice A xs.length c) none (some (.int .i64 (m : Int))) none).run Tryd.prog W = .ok (.slice A (xs.take m).length c) W) ∧
      (∀ W : World, RdB W A xs → RdB W A (xs.take m)) := by
  obtain ⟨i0, hi, _, hsz, _⟩ := info_parts info_u8
  obtain ⟨h1, h2, h3⟩ := print_take_of (P := Tryd.prog) (Value.int .u8) 0 22 5 .i64 Tryd.underlying22 hi hsz A c xs (m : Int) (by omega) (by omega) hc
  simp only [Int.toNat_natCast] at h1 h2
  exact ⟨h1, fun W h => ⟨Kd.C_of_reads (h1 := fun _ => rfl) (h2 W (Kd.reads_of_C h.out))⟩⟩
set_option maxHeartbeats 4000000 in
theorem PackOnce_walk (A B : Option Addr) (c d : Nat) (l m : List SChart) (n : Int) (w : World) (hG : GlobA w.heap.size w) (HA : Rd kChart w A l) (hl : Aside0 (ACharts l)) (HB : Rd kChart w B m) (hm : Aside0 (ACharts m)) (n0 : 0 ≤ n) (n1 : n ≤ 65535) :
    Calls Tryd.prog 5 #[.slice A l.length c, .slice B m.length d, .int .u16 n] w fun e w' => e = .returned (.bool true) ∧ Bel w w' := by
  have hal := Aside0.mk (alive_any w hG)
  go_enter Tryd.func5, Tryd.ntmps5
  go_upto_region 3 with (go_at_call 12; ((with_reducible refine hal.out.mono ?_); rintro e w1 ⟨rfl, hB1⟩))
  have hg0 := Aside0.mk (Great_any A c l w1 (HA.step hB1) hl)
  have hg1 := Aside0.mk (fun W (k : Bel w1 W) => Great_any B d m W (HB.step (hB1.trans k)) hm)
  go_upto_if 22 with (go_at_call 16; first | ((with_reducible refine hg0.out.mono ?_); rintro e w2 ⟨g0, rfl, hf0, hB2⟩; cases g0) | ((with_reducible refine (hg1.out _ hB2).mono ?_); rintro e w3 ⟨g1, rfl, hf1, hB3⟩))
  · cases g1 with
    | true =>
      go_wp2
      go_ret
      exact ⟨rfl, hB1.trans (hB2.trans hB3)⟩
    | false =>
      have hfl := hf0.out (by first | rfl | trivial)
      have hfm := hf1.out (by first | rfl | trivial)
      have hBw3 := hB1.trans (hB2.trans hB3)
      have hcs := Aside0.mk (fun W (k : Bel w W) => rSame_any A B c d l m W (HA.step k) (HB.step k) ⟨hfl⟩ ⟨hfm⟩)
      obtain ⟨ok, hok⟩ := ok_of l
      obtain ⟨om, hom⟩ := ok_of m
      have he0 := Aside0.mk (Encode_any A c l w3 (HA.step hBw3) ⟨hfl⟩ ⟨mx_of hl.out⟩ ok hok)
      have he1 := Aside0.mk (fun W (k : Bel w3 W) => Encode_any B d m W (HB.step (hBw3.trans k)) ⟨hfm⟩ ⟨mx_of hm.out⟩ om hom)
      obtain ⟨x, hx⟩ : ∃ b, eL ok l = b := ⟨_, rfl⟩
      obtain ⟨y, hy⟩ : ∃ b, eL om m = b := ⟨_, rfl⟩
      rw [hx] at he0
      rw [hy] at he1
      clear hg0 hg1 hal hf0 hf1
      go_upto_region 7 with (go_at_call 17; first | ((with_reducible refine he0.out.mono ?_); rintro e w4 ⟨v4, rfl, hv4, hB4⟩; obtain ⟨A4, c4, rfl, hc4, hR4'⟩ := hv4.reads) | ((with_reducible refine (he1.out _ hB4).mono ?_); rintro e w5 ⟨v5, rfl, hv5, hB5⟩; obtain ⟨A5, c5, rfl, hc5, hR5⟩ := hv5.reads))
      have hR4 := hR4'.step hB5
      have hBw5 := hBw3.trans (hB4.trans hB5)
      clear he0 he1 hR4' hv4 hv5
      cases ok with
      | false =>
        have b0 : (eE false != 0) = true := rfl
        go_wp2
        go_ret
        exact ⟨rfl, hBw5⟩
      | true =>
        have hr := hok.out.1 rfl
        have hxe : encC l = x := hx
        have b0 : (eE true != 0) = false := rfl
        cases om with
        | false =>
          have b1 : (eE false != 0) = true := rfl
          go_wp2
          go_ret
          exact ⟨rfl, hBw5⟩
        | true =>
          have hrm := hom.out.1 rfl
          have hye : encC m = y := hy
          have hinj := enc_inj hr hrm (mx_of hl.out) (mx_of hm.out)
          have hfl0 := hfl.1
          clear hx hy hok hom
          by_cases h0 : l.length = 0
          · have hn : Near l := by rw [List.eq_nil_of_length_eq_zero h0]; exact near_nil
            have q0 : decide (0 < l.length) = false := decide_eq_false (by omega)
            replace h0 := Aside0.mk h0
            have hpos := encC_pos (l := l)
            have hlen := encC_len hr
            have hby := Aside0.mk (encC_by hr (mx_of hl.out))
            have hlenm := encC_len hrm
            have htail := Aside0.mk (dec_tail hr hn [0] (by simp))
            have hcut := Aside0.mk (fun (c t : List Int) => dec_cut hr hn c t)
            rw [hxe] at hpos hlen hby htail hcut hinj
            rw [hye] at hlenm hinj
            replace hxe := Aside0.mk hxe
            replace hye := Aside0.mk hye
            obtain ⟨k5, hk5⟩ : ∃ k : Nat, n.tmod (x.length : Int) = (k : Int) := ⟨(n.tmod (x.length : Int)).toNat, by have := Int.tmod_nonneg (x.length : Int) n0; omega⟩
            have hkl : k5 < x.length := by
              have := Int.tmod_lt_of_pos n (show (0 : Int) < (x.length : Int) by omega)
              omega
            obtain ⟨hcutr, hR6⟩ := take_u8' A4 c4 x k5 (by omega) hc4
            have hck := hcut.out (x.take k5) (x.drop k5) (List.take_append_drop _ _).symm (fun q => by have := congrArg List.length q; rw [List.length_drop] at this; simp at this; omega)
            have hne : ¬ ((x.length : Int) = 0) := by omega
            have hyl : (x.take k5).length ≤ x.length := by rw [List.length_take]; omega
            have hyb : Bytes (x.take k5) := ⟨fun y hy => hby.out y (List.mem_of_mem_take hy)⟩
            have hRy := hR6 w5 hR4
            obtain ⟨z, hz⟩ : ∃ y, x.take k5 = y := ⟨_, rfl⟩
            rw [hz] at hck hcutr hyl hyb hRy
            have hd1 := Aside0.mk (Decode_any A4 c4 z w5 (hG.later hBw5) (by omega) hRy hyb (by omega))
            rw [hck] at hd1
            have hxm : Bytes (x ++ [0]) := ⟨hby.out.app (by intro q hq; rw [List.mem_singleton.1 hq]; decide)⟩
            have hd2 := Aside0.mk (fun (A : Option Addr) (c : Nat) W (k : Bel w5 W) (hc : x.length + 1 ≤ c) (hR : RdB W A (x ++ [0])) => (show Calls Tryd.prog 13 #[.slice A (x.length + 1) c] W _ from by have := Decode_any A c (x ++ [0]) W (hG.later (hBw5.trans k)) (by simpa using hc) hR hxm (by rw [List.length_append]; simp; omega); rw [htail.out] at this; simpa only [List.length_append, List.length_cons, List.length_nil, Nat.zero_add] using this))
            clear hck hcut hR6 hz hyb hRy hr hrm hn
            go_upto_region 10 with (go_at_call 13; (with_reducible refine hd1.out.mono ?_); rintro e w6 ⟨v6, rfl, hv6, hB6⟩; obtain ⟨A8, c8, rfl, _, _⟩ := hv6.reads)
            clear hd1 hcutr hne hk5 hpos hv6
            have hRx := hR4.step hB6
            have hBw6 := hBw5.trans hB6
            go_upto_region 11 with (first | ((with_reducible refine gate_b (b := .append) (xs := #[.tmp 66, .tmp 67]) rfl ?_); refine app_bytes (w0 := w6) (Own.lit .u8 5 (Bel.refl _) [] (by decide)) ((Bel.refl _).alloc _) (hRx.alloc _) rfl _ _ rfl (by simp; omega) rfl rfl ?_; intro v1 w7 hO hB7) | ((with_reducible refine gate_b (b := .append) (xs := #[.tmp 68, .tmp 69]) rfl ?_); refine app_byte (w0 := w6) hO hB7 rfl _ _ 0 rfl (by simp; omega) rfl rfl ?_; clear hO hB7; intro v1 w7 hO hB7; obtain ⟨A7, c7, rfl, hc7, hR7⟩ := hO.reads; replace hR7 : RdB w7 A7 (x ++ [0]) := hR7; replace hc7 : x.length + 1 ≤ c7 := (by simpa using hc7)) | (go_at_call 13; (with_reducible refine (hd2.out A7 c7 w7 (hB6.trans hB7) hc7 hR7).mono ?_); rintro e w8 ⟨v8, rfl, hv8, hB8⟩; obtain ⟨A9, c9, rfl, _, _⟩ := hv8.reads))
            have hBw8 := hBw6.trans (hB7.trans hB8)
            have hB58 := hB6.trans (hB7.trans hB8)
            have hs := Aside0.mk (Same_any A4 A5 c4 c5 x y w8 (hR4.step hB58) (hR5.step hB58) (by omega))
            clear hO hR7 hd2 htail
            by_cases hlm : l = m
            · rw [decide_eq_true (hinj.2 hlm)] at hs
              have hc := Aside0.mk (fun W (k : Bel w8 W) => (hcs.out W (hBw8.trans k)).mono (fun e w' h => h.yes hlm))
              clear hinj hlm
              go_wp2_with (first | (go_at_call 18; ((with_reducible refine hs.out.mono ?_); rintro e w9 ⟨rfl, hd9⟩)) | (go_at_call 15; ((with_reducible refine (hc.out _ (Bel.drawn hd9)).mono ?_); rintro e wx ⟨rfl, hBx⟩)))
              go_ret
              exact ⟨rfl, hBw8.trans ((Bel.drawn hd9).trans hBx)⟩
            · rw [decide_eq_false (fun q => hlm (hinj.1 q))] at hs
              have hc := Aside0.mk (fun W (k : Bel w8 W) => (hcs.out W (hBw8.trans k)).mono (fun e w' h => h.no hlm))
              clear hinj hlm
              go_wp2_with (first | (go_at_call 18; ((with_reducible refine hs.out.mono ?_); rintro e w9 ⟨rfl, hd9⟩)) | (go_at_call 15; ((with_reducible refine (hc.out _ (Bel.drawn hd9)).mono ?_); rintro e wx ⟨rfl, hBx⟩)))
              go_ret
              exact ⟨rfl, hBw8.trans ((Bel.drawn hd9).trans hBx)⟩
          · obtain ⟨k, hk⟩ : ∃ k, l.length = k + 1 := ⟨l.length - 1, by omega⟩
            have hnl := near_last hr k hk
            obtain ⟨ad, A6, c6, A7, c7, rfl, u0, u1, u2, u3, u4⟩ := chart_at (HA.step hBw5) k (by omega)
            obtain ⟨a, ha⟩ : ∃ a, (l[k]'(by omega)).f0 = a := ⟨_, rfl⟩
            rw [ha] at u0 hnl
            clear u1 u2 u3 u4 ha
            have hw1 : IntKind.i64.wrap ((l.length : Int) - 1) = (k : Int) := by rw [IntKind.wrap_i64]; omega
            have hk2 : k < l.length := by omega
            have q0 : decide (0 < l.length) = true := decide_eq_true (by omega)
            have hk3 : (k : Int) < (l.length : Int) := by omega
            replace hk := Aside0.mk hk
            clear h0
            by_cases hf : a ≤ 1099511627776
            · have hn := hnl.2 hf
              have q1 : decide (1099511627776 < a) = false := decide_eq_false (by omega)
              clear hnl
              have hpos := encC_pos (l := l)
              have hlen := encC_len hr
              have hby := Aside0.mk (encC_by hr (mx_of hl.out))
              have hlenm := encC_len hrm
              have htail := Aside0.mk (dec_tail hr hn [0] (by simp))
              have hcut := Aside0.mk (fun (c t : List Int) => dec_cut hr hn c t)
              rw [hxe] at hpos hlen hby htail hcut hinj
              rw [hye] at hlenm hinj
              replace hxe := Aside0.mk hxe
              replace hye := Aside0.mk hye
              obtain ⟨k5, hk5⟩ : ∃ k : Nat, n.tmod (x.length : Int) = (k : Int) := ⟨(n.tmod (x.length : Int)).toNat, by have := Int.tmod_nonneg (x.length : Int) n0; omega⟩
              have hkl : k5 < x.length := by
                have := Int.tmod_lt_of_pos n (show (0 : Int) < (x.length : Int) by omega)
                omega
              obtain ⟨hcutr, hR6⟩ := take_u8' A4 c4 x k5 (by omega) hc4
              have hck := hcut.out (x.take k5) (x.drop k5) (List.take_append_drop _ _).symm (fun q => by have := congrArg List.length q; rw [List.length_drop] at this; simp at this; omega)
              have hne : ¬ ((x.length : Int) = 0) := by omega
              have hyl : (x.take k5).length ≤ x.length := by rw [List.length_take]; omega
              have hyb : Bytes (x.take k5) := ⟨fun y hy => hby.out y (List.mem_of_mem_take hy)⟩
              have hRy := hR6 w5 hR4
              obtain ⟨z, hz⟩ : ∃ y, x.take k5 = y := ⟨_, rfl⟩
              rw [hz] at hck hcutr hyl hyb hRy
              have hd1 := Aside0.mk (Decode_any A4 c4 z w5 (hG.later hBw5) (by omega) hRy hyb (by omega))
              rw [hck] at hd1
              have hxm : Bytes (x ++ [0]) := ⟨hby.out.app (by intro q hq; rw [List.mem_singleton.1 hq]; decide)⟩
              have hd2 := Aside0.mk (fun (A : Option Addr) (c : Nat) W (k : Bel w5 W) (hc : x.length + 1 ≤ c) (hR : RdB W A (x ++ [0])) => (show Calls Tryd.prog 13 #[.slice A (x.length + 1) c] W _ from by have := Decode_any A c (x ++ [0]) W (hG.later (hBw5.trans k)) (by simpa using hc) hR hxm (by rw [List.length_append]; simp; omega); rw [htail.out] at this; simpa only [List.length_append, List.length_cons, List.length_nil, Nat.zero_add] using this))
              clear hck hcut hR6 hz hyb hRy hr hrm hn
              go_upto_region 10 with (go_at_call 13; (with_reducible refine hd1.out.mono ?_); rintro e w6 ⟨v6, rfl, hv6, hB6⟩; obtain ⟨A8, c8, rfl, _, _⟩ := hv6.reads)
              clear hd1 hcutr hne hk5 hpos hv6
              have hRx := hR4.step hB6
              have hBw6 := hBw5.trans hB6
              go_upto_region 11 with (first | ((with_reducible refine gate_b (b := .append) (xs := #[.tmp 66, .tmp 67]) rfl ?_); refine app_bytes (w0 := w6) (Own.lit .u8 5 (Bel.refl _) [] (by decide)) ((Bel.refl _).alloc _) (hRx.alloc _) rfl _ _ rfl (by simp; omega) rfl rfl ?_; intro v1 w7 hO hB7) | ((with_reducible refine gate_b (b := .append) (xs := #[.tmp 68, .tmp 69]) rfl ?_); refine app_byte (w0 := w6) hO hB7 rfl _ _ 0 rfl (by simp; omega) rfl rfl ?_; clear hO hB7; intro v1 w7 hO hB7; obtain ⟨A7, c7, rfl, hc7, hR7⟩ := hO.reads; replace hR7 : RdB w7 A7 (x ++ [0]) := hR7; replace hc7 : x.length + 1 ≤ c7 := (by simpa using hc7)) | (go_at_call 13; (with_reducible refine (hd2.out A7 c7 w7 (hB6.trans hB7) hc7 hR7).mono ?_); rintro e w8 ⟨v8, rfl, hv8, hB8⟩; obtain ⟨A9, c9, rfl, _, _⟩ := hv8.reads))
              have hBw8 := hBw6.trans (hB7.trans hB8)
              have hB58 := hB6.trans (hB7.trans hB8)
              have hs := Aside0.mk (Same_any A4 A5 c4 c5 x y w8 (hR4.step hB58) (hR5.step hB58) (by omega))
              clear hO hR7 hd2 htail
              by_cases hlm : l = m
              · rw [decide_eq_true (hinj.2 hlm)] at hs
                have hc := Aside0.mk (fun W (k : Bel w8 W) => (hcs.out W (hBw8.trans k)).mono (fun e w' h => h.yes hlm))
                clear hinj hlm
                go_wp2_with (first | (go_at_call 18; ((with_reducible refine hs.out.mono ?_); rintro e w9 ⟨rfl, hd9⟩)) | (go_at_call 15; ((with_reducible refine (hc.out _ (Bel.drawn hd9)).mono ?_); rintro e wx ⟨rfl, hBx⟩)))
                go_ret
                exact ⟨rfl, hBw8.trans ((Bel.drawn hd9).trans hBx)⟩
              · rw [decide_eq_false (fun q => hlm (hinj.1 q))] at hs
                have hc := Aside0.mk (fun W (k : Bel w8 W) => (hcs.out W (hBw8.trans k)).mono (fun e w' h => h.no hlm))
                clear hinj hlm
                go_wp2_with (first | (go_at_call 18; ((with_reducible refine hs.out.mono ?_); rintro e w9 ⟨rfl, hd9⟩)) | (go_at_call 15; ((with_reducible refine (hc.out _ (Bel.drawn hd9)).mono ?_); rintro e wx ⟨rfl, hBx⟩)))
                go_ret
                exact ⟨rfl, hBw8.trans ((Bel.drawn hd9).trans hBx)⟩
            · have q1 : decide (1099511627776 < a) = true := decide_eq_true (by omega)
              clear hnl
              go_wp2
              go_ret
              exact ⟨rfl, hBw5⟩
  · go_wp2
    go_ret
    exact ⟨rfl, hB1.trans hB2⟩
theorem PackOnce_row (A0 : Option Addr) (c0 : Nat) (l0 : List SChart) (A1 : Option Addr) (c1 : Nat) (l1 : List SChart) (n : Int) (w : World) (hG : GlobA w.heap.size w) (H0 : Rd kChart w A0 l0) (_ : l0.length ≤ c0) (o0 : ACharts l0) (H1 : Rd kChart w A1 l1) (_ : l1.length ≤ c1) (o1 : ACharts l1) (n0 : 0 ≤ n) (n1 : n ≤ 65535) :
    Calls Tryd.prog 5 #[.slice A0 l0.length c0, .slice A1 l1.length c1, .int .u16 n] w fun e w' => e = .returned (.bool true) ∧ Bel w w' := PackOnce_walk A0 A1 c0 c1 l0 l1 n w hG H0 ⟨o0⟩ H1 ⟨o1⟩ n0 n1
end Go.Proofs.YtceibabhmomfiaaDoor.H
