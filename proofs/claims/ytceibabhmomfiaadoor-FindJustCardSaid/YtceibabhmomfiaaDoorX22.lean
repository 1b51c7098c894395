/- Texts of this work, joined: Fk, Lr, Fl, Lg, Le. Conditions: each stands with its theorem. -/
import Derived.Test.YtceibabhmomfiaaDoorX18
import Derived.Test.YtceibabhmomfiaaDoorX21
import Derived.Test.YtceibabhmomfiaaDoorRows
import Derived.Test.YtceibabhmomfiaaDoorX06
import Derived.ProofKit
import Derived.LaidMore
import Derived.OpenShut
import Derived.Stop.Joined
import Derived.Test.YtceibabhmomfiaaDoorX08
/- Layer 3, law23: however often a table is asked, it answers alike, and counts. -/
namespace Go.Proofs.YtceibabhmomfiaaDoor.H
open Go.RowKit Go.Proofs.YtceibabhmomfiaaDoorW.PrintWords Go.Proofs.YtceibabhmomfiaaDoorW.PrintLast
set_option linter.unusedVariables false
set_option linter.unusedSimpArgs false
set_option maxRecDepth 100000

set_option maxHeartbeats 4000000 in
theorem FindAsks_walk (B : Option Addr) (d : Nat) (m : List Int) (a n : Int) (w : World) (hG : GlobA w.heap.size w) (HB : RdB w B m) (hd : m.length ≤ d) (hm : Bytes m) (ha : (Lit.int .i64 a).wf = true) (n0 : 0 ≤ n) (n1 : n ≤ 255) :
    Calls Tryd.prog 10 #[.slice B m.length d, .int .i64 a, .int .u8 n] w fun e w' => e = .returned (.bool true) ∧ Bel w w' := by
  have hal := Aside0.mk (alive23_any w hG)
  obtain ⟨q, hq⟩ : ∃ q : Nat, n.tmod 200 = (q : Int) := ⟨(n.tmod 200).toNat, by have := Int.tmod_nonneg 200 n0; omega⟩
  have hq2 : q < 200 := by have := Int.tmod_lt_of_pos n (show (0 : Int) < 200 by decide); omega
  go_enter Tryd.func10, Tryd.ntmps10
  go_upto_region 3 with (go_at_call 22; ((with_reducible refine hal.out.mono ?_); rintro e w1 ⟨rfl, hB1⟩))
  by_cases hmore : 4000 < m.length
  · go_wp2
    go_ret
    exact ⟨rfl, hB1⟩
  have hn := New_any B d m w1 (hG.later hB1) hd (HB.step hB1) hm (by omega)
  have hfew := few_dec hm.out
  by_cases h0 : dcE m = 0
  · replace hn := Aside0.mk (hn.mono (fun e w' h => h.t hm.out h0))
    obtain ⟨L, hL⟩ : ∃ L, dcL m = L := ⟨_, rfl⟩
    rw [hL] at hn hfew
    clear hL h0
    go_upto_region 8 with (go_at_call 24; ((with_reducible refine hn.out.mono ?_); rintro e w2 ⟨tb, rfl, ht1, ht2, hT2, hB2⟩))
    have hf := Aside0.mk (At_t hT2 a (by decide) (by decide) ha)
    have hfx := fewA hfew a
    obtain ⟨x, hx⟩ : ∃ x, atL L a = x := ⟨_, rfl⟩
    obtain ⟨g, hg⟩ : ∃ g, atE L a = g := ⟨_, rfl⟩
    rw [hx, hg] at hf
    rw [hx] at hfx
    have hat := Aside0.mk (fun W k (h : IsTb W tb L k) (hk0 : 0 ≤ k) (hk1 : k ≤ 1099511627776) => At_t h a hk0 hk1 ha)
    simp only [hx, hg] at hat
    have hBw2 := hB1.trans hB2
    have g0 : (g != g) = false := by simp
    replace hT2 := Aside0.mk hT2
    clear hx hg
    obtain ⟨x0, xr, xd⟩ := x
    simp only at hf hfx hat
    go_upto_region 9 with (go_at_call 25; ((with_reducible refine hf.out.mono ?_); rintro e w3 ⟨⟨v1, v2, rfl, hv1, hv2⟩, hT3, hK3⟩; obtain ⟨A1, c1, rfl, _, _⟩ := hv1.reads; obtain ⟨A2, c2, rfl, _, _⟩ := hv2.reads))
    have hBa := (Bel.refl w3).alloc (.cells #[.int .i64 x0, .slice A1 xr.length c1, .slice A2 xd.length c2] 36)
    have hba := heap_alloc_new w3 (.cells #[.int .i64 x0, .slice A1 xr.length c1, .slice A2 xd.length c2] 36)
    generalize w3.alloc (.cells #[.int .i64 x0, .slice A1 xr.length c1, .slice A2 xd.length c2] 36) = wa at hBa hba ⊢
    obtain ⟨f, hfe⟩ : ∃ f, w3.heap.size = f := ⟨_, rfl⟩
    rw [hfe] at hba ⊢
    have hs3 := hK3.size
    have hft : f ≠ tb := by omega
    have hTa := hT3.keep hBa
    have hBwa : Bel w wa := (hK3.bel hBw2 (by have := hB1.size; omega)).trans hBa
    have o1 := (OwnAt.of_own hv1 (Nat.le_refl _)).step hBa
    have o2 := (OwnAt.of_own hv2 (Nat.le_refl _)).step hBa
    obtain ⟨b2, hb2⟩ : ∃ b, w2.heap.size = b := ⟨_, rfl⟩
    rw [hb2] at o1 o2 ht2
    have hwt : Aside0 (w.heap.size ≤ tb) := ⟨by have := hB1.size; omega⟩
    replace hfe := Aside0.mk hfe
    replace hb2 := Aside0.mk hb2
    clear hf hv1 hv2 hK3 hT3 hs3
    go_wp2
    go_loopw [11] (fun i W => ∃ k : Nat, k ≤ q ∧ i = .int .i64 k ∧ Aside0 (IsTb W tb L (1 + k)) ∧ W.heap[f]? = some (.cells #[.int .i64 x0, .slice A1 xr.length c1, .slice A2 xd.length c2] 36 (0, 0)) ∧ OwnAt kLoc 50 b2 W (.slice A1 xr.length c1) xr ∧ OwnAt kPair 73 b2 W (.slice A2 xd.length c2) xd ∧ Bel w W) (fun i _ => q - (intOf i).toNat)
    case atStart => exact ⟨0, by omega, rfl, ⟨hTa⟩, hba, o1, o2, hBwa⟩
    case round =>
      obtain ⟨k, hk, rfl, hT, hb, p1, p2, hB⟩ := hrel
      by_cases hlt : k < q
      · have hc := Aside0.mk (hat.out wr (1 + k) hT.out (by omega) (by omega))
        go_upto_region 13 with (go_at_call 25; ((with_reducible refine hc.out.mono ?_); rintro e w4 ⟨⟨v3, v4, rfl, hv3, hv4⟩, hT4, hK4⟩; obtain ⟨A3, c3, rfl, _, r3⟩ := hv3.reads; obtain ⟨A4, c4, rfl, _, r4⟩ := hv4.reads))
        have hBb := (Bel.refl w4).alloc (.cells #[.int .i64 x0, .slice A3 xr.length c3, .slice A4 xd.length c4] 36)
        have hbb := heap_alloc_new w4 (.cells #[.int .i64 x0, .slice A3 xr.length c3, .slice A4 xd.length c4] 36)
        generalize w4.alloc (.cells #[.int .i64 x0, .slice A3 xr.length c3, .slice A4 xd.length c4] 36) = wb at hBb hbb ⊢
        obtain ⟨f4, hfe4⟩ : ∃ f, w4.heap.size = f := ⟨_, rfl⟩
        rw [hfe4] at hbb ⊢
        have hT5 : IsTb wb tb L (1 + ((k + 1 : Nat) : Int)) := by
          have := hT4.keep hBb
          rw [show (1 : Int) + ((k + 1 : Nat) : Int) = 1 + (k : Int) + 1 by omega]
          exact this
        have hb5 := (hBb.out.block f (blk_lt (hK4.blk hb hft))).trans (hK4.blk hb hft)
        have p15 := (p1.ko hK4 ht2).step hBb
        have p25 := (p2.ko hK4 ht2).step hBb
        have hB5 := (hK4.bel hB hwt.out).trans hBb
        obtain ⟨_, _, q1, _, r1⟩ := p15.reads
        obtain ⟨_, _, q2, _, r2⟩ := p25.reads
        injection q1 with q1 _ q1c
        injection q2 with q2 _ q2c
        subst q1 q1c q2 q2c
        have hso := Aside0.mk ((rSameOne_any ⟨x0, xr, xd⟩ ⟨x0, xr, xd⟩ A1 A2 A3 A4 c1 c2 c3 c4 wb r1 r2 (r3.step hBb) (r4.step hBb) hfx.1 hfx.2 hfx.1 hfx.2).mono (fun e w' h => h.yes rfl))
        simp only [chartV] at hso
        have z0 : wb.cell? ⟨f, 0, none⟩ = some (.int .i64 x0) := blk_cell hb5 0
        have z1 : wb.cell? ⟨f, 1, none⟩ = some (.slice A1 xr.length c1) := blk_cell hb5 1
        have z2 : wb.cell? ⟨f, 2, none⟩ = some (.slice A2 xd.length c2) := blk_cell hb5 2
        have y0 : wb.cell? ⟨f4, 0, none⟩ = some (.int .i64 x0) := blk_cell hbb 0
        have y1 : wb.cell? ⟨f4, 1, none⟩ = some (.slice A3 xr.length c3) := blk_cell hbb 1
        have y2 : wb.cell? ⟨f4, 2, none⟩ = some (.slice A4 xd.length c4) := blk_cell hbb 2
        have hb5' := Aside0.mk hb5
        replace hT5 := Aside0.mk hT5
        clear hb hbb hb5 hc hv3 hv4 hT4 hK4 hT hB hBb hBa p1 p2 hfe4
        go_wp2_with (go_at_call 26; ((with_reducible refine hso.out.mono ?_); rintro e w6 ⟨rfl, hB6⟩))
        go_roundw
        case rel => exact ⟨k + 1, by omega, by go_num, ⟨hT5.out.keep hB6⟩, (hB6.out.block f (blk_lt hb5'.out)).trans hb5'.out, p15.step hB6, p25.step hB6, hB5.trans hB6⟩
        case measure => simp [intOf]; omega
      · have hkq : k = q := by omega
        subst hkq
        have hA := Aside0.mk (fun W (k1 : Bel wr W) => Asked_n (hT.out.keep k1))
        have hAd := Aside0.mk (fun W (k1 : Bel wr W) => Addrs_n (hT.out.keep k1))
        have hLe := Aside0.mk (fun W (k1 : Bel wr W) => Len_n (hT.out.keep k1))
        go_wp2_with (first | (go_at_call 28; ((with_reducible refine (hA.out _ ?_).mono ?_); (repeat (first | exact Bel.refl _ | refine Bel.drewN ?_ _)); rintro e w6 ⟨rfl, rfl⟩)) | (go_at_call 31; ((with_reducible refine (hAd.out _ ?_).mono ?_); (repeat (first | exact Bel.refl _ | refine Bel.drewN ?_ _)); rintro e w7 ⟨v7, rfl, hv7, hB7⟩; obtain ⟨A7, c7, rfl, _, _⟩ := hv7.reads)) | (go_at_call 27; ((with_reducible refine (hLe.out _ ?_).mono ?_); (repeat (first | exact hB7 | exact Bel.refl _ | refine Bel.drewN ?_ _)); rintro e w8 ⟨rfl, rfl⟩)))
        go_ret
        exact ⟨rfl, hB.trans hB7⟩
  · replace hn := Aside0.mk (hn.mono (fun e w' h => h.z h0))
    obtain ⟨E, hE⟩ : ∃ E, dcE m = E := ⟨_, rfl⟩
    rw [hE] at hn h0
    have b1 : (E != 0) = true := by simpa using h0
    clear hE h0 hfew
    go_wp2_with (go_at_call 24; ((with_reducible refine hn.out.mono ?_); rintro e w2 ⟨rfl, hB2⟩))
    go_ret
    exact ⟨rfl, hB1.trans hB2⟩
theorem FindAsks_row (A0 : Option Addr) (c0 : Nat) (l0 : List Int) (a n : Int) (w : World) (hG : GlobA w.heap.size w) (H0 : RdB w A0 l0) (k0 : l0.length ≤ c0) (o0 : ABytes l0) (a0 : -9223372036854775808 ≤ a) (a1 : a ≤ 9223372036854775807) (n0 : 0 ≤ n) (n1 : n ≤ 255) :
    Calls Tryd.prog 10 #[.slice A0 l0.length c0, .int .i64 a, .int .u8 n] w fun e w' => e = .returned (.bool true) ∧ Bel w w' := FindAsks_walk A0 c0 l0 a n w hG H0 k0 ⟨fun x hx => (o0.2 x hx).ok⟩ (WalkArith.wf_i64 ⟨a0, a1⟩) n0 n1
end Go.Proofs.YtceibabhmomfiaaDoor.H

/- What the listed variable gives: the table of parts, as it is laid. -/
namespace Go.Proofs.YtceibabhmomfiaaDoor.H
open Go.ChangeShapes Go.WideShapes Go.ChangeAt Go.WideElems Go.RowKit
set_option linter.unusedVariables false
set_option linter.unusedSimpArgs false
set_option maxRecDepth 100000

abbrev laidParts {H : Type} : List (String × DataW H) := [("math/bits.deBruijn32tab", Rows.laid_math_bits_deBruijn32tab)]
theorem gParts : Tryd.prog.globalNamed "math/bits.deBruijn32tab" = some 0 := by kernel_rfl
theorem tParts : (Tryd.prog.globals[0]?).map (·.type) = some 130 := by kernel_rfl
theorem door_met (os : Os) (args : Array Value) : laidMetH Tryd.prog laidParts ((World.doorLaid Tryd.prog 4000 os).forCall (fun _ _ => 0) ⟨#[], args, []⟩).memory :=
  laidMetH_of_parts3 (fuel := 8) (laidMet_of_run' 8 (by kernel_rfl) (by kernel_rfl)) (by kernel_rfl) (by kernel_rfl)
theorem laid_rows : (Rows.laid_math_bits_deBruijn32tab : DataW Unit) = .agg ((List.range 32).map fun i => .lit (.int .u8 (dbN i))) := by kernel_rfl
theorem of_laid {W : World} (h : laidMetH Tryd.prog laidParts W) : GlobA W.heap.size W := by
  rw [MakeChecks.laidMetH_plain _ _ _ (by kernel_rfl)] at h
  obtain ⟨ps, ⟨g0, t0, cs0, f0, p0, q0, hg0, ht0, hv0, hd0, _, _⟩, _, _⟩ := h
  obtain rfl := Option.some.inj (gParts.symm.trans hg0)
  obtain rfl := Option.some.inj (tParts.symm.trans ht0)
  obtain ⟨xs, m1, rfl, hx1, hlen, hn3, hel⟩ := DataW.trod_array Tryd.underlying130 hd0
  have c1 : Tryd.prog.cellsOf 5 = 1 := by kernel_rfl
  rw [laid_rows] at hx1
  simp only [Prod.mk.injEq, DataW.agg.injEq] at hx1
  have hcell : ∀ i : Nat, i < 32 → W.cell? ⟨0, i, none⟩ = some (.int .u8 (dbN i)) := by
    intro i hi
    have h1 := hel i hi
    rw [c1, Nat.mul_one] at h1
    have h2 : xs[i]? = some (xs[i]'(by omega)) := List.getElem?_eq_getElem (by omega)
    rw [h2] at h1
    obtain ⟨n, e1, e2, _⟩ := DataW.trod_int Tryd.underlying5 h1
    have h3 : (xs[i]'(by omega)).1 = .lit (.int .u8 (dbN i)) := by
      have q : ((List.range 32).map (fun i => (DataW.lit (.int .u8 (dbN i)) : DataW Unit)))[i]? = some (.lit (.int .u8 (dbN i))) := by rw [List.getElem?_map, List.getElem?_range hi]; rfl
      rw [hx1.1, List.getElem?_map, h2] at q
      exact Option.some.inj q
    rw [e2] at h3
    have h4 : n = (dbN i : Int) := by injection h3 with h3; injection h3
    rw [World.var?_cell hg0 hv0 i]
    have h6 : cs0.toList[i]? = some (.int .u8 n) := by
      have h7 : (cs0.toList.drop i).head? = some (.int .u8 n) := by
        rw [List.take_one] at e1
        cases hh : (cs0.toList.drop i).head? with
        | none => rw [hh] at e1; simp at e1
        | some v => rw [hh] at e1; simpa using e1
      rwa [List.head?_drop] at h7
    rw [Array.getElem?_toList] at h6
    rw [h6, h4]
  have hpos : 0 < W.heap.size := by
    refine Nat.pos_of_ne_zero fun e => ?_
    have hc := hcell 0 (by decide)
    have hn : W.heap[0]? = none := by rw [Array.getElem?_eq_none]; omega
    simp [World.cell?, hn] at hc
  exact ⟨⟨hpos, hcell⟩⟩
end Go.Proofs.YtceibabhmomfiaaDoor.H

/- Layer 3, law23: any bytes' table finds any addresses' charts, and counts. -/
namespace Go.Proofs.YtceibabhmomfiaaDoor.H
open Go.RowKit Go.Proofs.YtceibabhmomfiaaDoorW.PrintWords Go.Proofs.YtceibabhmomfiaaDoorW.PrintLast
set_option linter.unusedVariables false
set_option linter.unusedSimpArgs false
set_option maxRecDepth 100000

/-- how often it was asked: not at all, where there is none -/
def cnt : Value → Nat → Int
  | .pointer (some _), k => k
  | _, _ => 0
theorem more_cnt (v : Value) (k : Nat) : more v (cnt v k) = cnt v (k + 1) := by
  cases v with
  | pointer a => cases a <;> simp [more, cnt]
  | _ => simp [more, cnt]
theorem cnt_ok (v : Value) (k : Nat) : 0 ≤ cnt v k ∧ cnt v k ≤ k := by
  unfold cnt
  split <;> omega
theorem isN_ok {W : World} {base : Nat} {v : Value} {l : List SChart} {k : Int} (h : IsN W base v l k) : v = .pointer none ∨ ∃ tb, v = .pointer (some ⟨tb, 0, none⟩) ∧ base ≤ tb ∧ tb < W.heap.size := by
  cases h with
  | none => exact .inl rfl
  | some tb B c l k hb h hC hl => exact .inr ⟨tb, rfl, hb, h.lt⟩
theorem KV.bel {v : Value} {w W W1 : World} {l : List SChart} {k : Int} (q : KV v W W1) (h : IsN W w.heap.size v l k) (hB : Bel w W) : Bel w W1 := by
  rcases isN_ok h with rfl | ⟨tb, rfl, hb, _⟩
  · exact hB.trans q
  · exact KO.bel q hB hb

theorem few_dec2 {m : List Int} (hb : ByL m) : (dcL m).length ≤ 1000000 := by
  by_cases h : dcE m = 0
  · have := (dec_just hb h).1.few
    omega
  · rw [dec_none h]; decide
set_option maxHeartbeats 8000000 in
theorem FindFinds_walk (B : Option Addr) (d : Nat) (m : List Int) (E : Option Addr) (c : Nat) (l : List Int) (w : World) (hG : GlobA w.heap.size w) (HB : RdB w B m) (hd : m.length ≤ d) (hm : Bytes m) (HE : RdI w E l) (hl : Aside0 (∀ x ∈ l, (Lit.int .i64 x).wf = true)) :
    Calls Tryd.prog 9 #[.slice B m.length d, .slice E l.length c] w fun e w' => e = .returned (.bool true) ∧ Bel w w' := by
  have hal := Aside0.mk (alive23_any w hG)
  have hlen := HE.len
  go_enter Tryd.func9, Tryd.ntmps9
  go_upto_region 3 with (go_at_call 22; ((with_reducible refine hal.out.mono ?_); rintro e w1 ⟨rfl, hB1⟩))
  by_cases hmore : 4000 < m.length
  · go_wp2
    go_ret
    exact ⟨rfl, hB1⟩
  by_cases hmore2 : 100 < l.length
  · go_wp2
    go_ret
    exact ⟨rfl, hB1⟩
  have hrm := Aside0.mk (DecodeRef_any B d m w1 hd (HB.step hB1) hm (by omega))
  have hn := Aside0.mk (fun W (k : Bel w1 W) => (New_any B d m W (hG.later (hB1.trans k)) hd (HB.step (hB1.trans k)) hm (by omega)).mono (fun e w' h => h.n hm.out))
  have hfew := few_dec hm.out
  have hLf := few_dec2 hm.out
  have hLe : (if dcE m = 0 then dcL m else []) = dcL m := by
    by_cases h0 : dcE m = 0
    · rw [if_pos h0]
    · rw [if_neg h0, dec_none h0]
  rw [hLe] at hn
  obtain ⟨L, hL⟩ : ∃ L, dcL m = L := ⟨_, rfl⟩
  obtain ⟨F, hF⟩ : ∃ F, dcE m = F := ⟨_, rfl⟩
  rw [hL, hF] at hrm hn
  rw [hL] at hfew hLf
  clear hL hF hal hLe
  have b0 : ((L.length : Int) != (L.length : Int)) = false := by simp
  have b2 : (F != F) = false := by simp
  go_upto_region 6 with (go_at_call 14; (with_reducible refine hrm.out.mono ?_); rintro e w2 ⟨v2, rfl, hv2, hB2⟩; obtain ⟨A2, c2, rfl, _, hR2⟩ := hv2.reads)
  have hBw2 := hB1.trans hB2
  have hn2 := Aside0.mk (hn.out _ hB2)
  clear hn hrm hv2
  go_upto_region 7 with (go_at_call 24; ((with_reducible refine hn2.out.mono ?_); rintro e w3 ⟨v, rfl, hT3, hB3, hv⟩))
  clear hn2
  go_cut [57] (fun t W => t = .bool false ∧ w3 = W)
  case first =>
    have hA3 := Aside0.mk (Asked_n hT3)
    have hL3 := Aside0.mk (Len_n hT3)
    rcases isN_ok hT3 with hv0 | ⟨tb, hv0, _, _⟩
    · have b1 : (F != 0) = true := by simpa using hv.1 hv0
      subst hv0
      clear hv
      go_wp2_with (first | (go_at_call 28; ((with_reducible refine hA3.out.mono ?_); rintro e w6 ⟨rfl, rfl⟩)) | (go_at_call 27; ((with_reducible refine hL3.out.mono ?_); rintro e w6 ⟨rfl, rfl⟩)))
      go_meet
      case rel => exact ⟨rfl, rfl⟩
    · have b1 : (F != 0) = false := by
        by_cases h0 : F = 0
        · simp [h0]
        · have := hv.2 h0
          rw [hv0] at this
          cases this
      subst hv0
      clear hv
      go_wp2_with (first | (go_at_call 28; ((with_reducible refine hA3.out.mono ?_); rintro e w6 ⟨rfl, rfl⟩)) | (go_at_call 27; ((with_reducible refine hL3.out.mono ?_); rintro e w6 ⟨rfl, rfl⟩)))
      go_meet
      case rel => exact ⟨rfl, rfl⟩
  case rest =>
    obtain ⟨rfl, rfl⟩ := hcut
    clear hv
    go_wp2
    go_loopw [9] (fun i W => ∃ k : Nat, k ≤ l.length ∧ i = .int .i64 k ∧ Aside0 (IsN W w2.heap.size v L (cnt v k)) ∧ Bel w2 W) (fun i _ => l.length - (intOf i).toNat)
    case atStart => exact ⟨0, by omega, rfl, ⟨by rw [show cnt v 0 = 0 by unfold cnt; split <;> rfl]; exact hT3⟩, hB3⟩
    case round =>
      obtain ⟨k, hk, rfl, hT, hB⟩ := hrel
      by_cases hlt : k < l.length
      · have hck := cnt_ok v k
        obtain ⟨ad, rfl, hx0⟩ := rd_atN (HE.step (hBw2.trans hB)) k hlt
        have hwa := hl.out _ (List.getElem_mem hlt)
        have hxe : rd l (k : Int) = l[k] := by simp [rd, List.getD_eq_getElem?_getD, List.getElem?_eq_getElem hlt]
        rw [hxe] at hx0
        obtain ⟨a, ha⟩ : ∃ a, l[k] = a := ⟨_, rfl⟩
        rw [ha] at hx0 hwa
        have hxa := Aside0.mk (hxe.trans ha)
        clear hxe ha
        have hc := Aside0.mk ((At_n hT.out a hck.1 (by omega) hwa).mono (fun e w' ⟨h1, h2, h3⟩ => (⟨h1, h2, h3.bel hT.out hB⟩ : _ ∧ _ ∧ Bel w2 w')))
        rw [more_cnt] at hc
        have hr := Aside0.mk (fun W (q : Bel w2 W) => AtRef_any A2 c2 L a W (hR2.step q) (by omega))
        have hfa := fewA hfew a
        obtain ⟨x, hx⟩ : ∃ x, atL L a = x := ⟨_, rfl⟩
        obtain ⟨g, hg⟩ : ∃ g, atE L a = g := ⟨_, rfl⟩
        rw [hx, hg] at hc hr
        rw [hx] at hfa
        obtain ⟨x0, xr, xd⟩ := x
        simp only at hc hr hfa
        have g0 : (g != g) = false := by simp
        clear hx hg hck
        go_upto_region 13 with (go_at_call 25; ((with_reducible refine hc.out.mono ?_); rintro e w4 ⟨⟨v3, v4, rfl, hv3, hv4⟩, hT4, hB4⟩; obtain ⟨A3, c3, rfl, _, r3⟩ := hv3.reads; obtain ⟨A4, c4, rfl, _, r4⟩ := hv4.reads))
        have hBa := (Bel.refl w4).alloc (.cells #[.int .i64 x0, .slice A3 xr.length c3, .slice A4 xd.length c4] 36)
        have hba := heap_alloc_new w4 (.cells #[.int .i64 x0, .slice A3 xr.length c3, .slice A4 xd.length c4] 36)
        generalize w4.alloc (.cells #[.int .i64 x0, .slice A3 xr.length c3, .slice A4 xd.length c4] 36) = wa at hBa hba ⊢
        obtain ⟨f, hfe⟩ : ∃ f, w4.heap.size = f := ⟨_, rfl⟩
        rw [hfe] at hba ⊢
        replace hba := Aside0.mk hba
        have hx1 : wa.cell? (ad.add k) = some (.int .i64 a) := by
          obtain ⟨ad2, e2, hx2⟩ := rd_atN (HE.step (hBw2.trans (hB4.trans hBa))) k hlt
          injection e2 with e2
          subst e2
          rw [hx2, hxa.out]
        have hr5 := Aside0.mk (hr.out wa (hB4.trans hBa))
        clear hr hc hv3 hv4 hfe
        go_upto_region 14 with (go_at_call 29; ((with_reducible refine hr5.out.mono ?_); rintro e w5 ⟨A5, c5, A6, c6, rfl, r5, r6, hB5⟩))
        have hBb := (Bel.refl w5).alloc (.cells #[.int .i64 x0, .slice A5 xr.length c5, .slice A6 xd.length c6] 36)
        have hbb := heap_alloc_new w5 (.cells #[.int .i64 x0, .slice A5 xr.length c5, .slice A6 xd.length c6] 36)
        generalize w5.alloc (.cells #[.int .i64 x0, .slice A5 xr.length c5, .slice A6 xd.length c6] 36) = wb at hBb hbb ⊢
        obtain ⟨f5, hfe5⟩ : ∃ f, w5.heap.size = f := ⟨_, rfl⟩
        rw [hfe5] at hbb ⊢
        have hBab := hB5.trans hBb
        have hba5 := (hBab.out.block f (blk_lt hba.out)).trans hba.out
        have z0 : wb.cell? ⟨f, 0, none⟩ = some (.int .i64 x0) := blk_cell hba5 0
        have z1 : wb.cell? ⟨f, 1, none⟩ = some (.slice A3 xr.length c3) := blk_cell hba5 1
        have z2 : wb.cell? ⟨f, 2, none⟩ = some (.slice A4 xd.length c4) := blk_cell hba5 2
        have y0 : wb.cell? ⟨f5, 0, none⟩ = some (.int .i64 x0) := blk_cell hbb 0
        have y1 : wb.cell? ⟨f5, 1, none⟩ = some (.slice A5 xr.length c5) := blk_cell hbb 1
        have y2 : wb.cell? ⟨f5, 2, none⟩ = some (.slice A6 xd.length c6) := blk_cell hbb 2
        have hso := Aside0.mk ((rSameOne_any ⟨x0, xr, xd⟩ ⟨x0, xr, xd⟩ A3 A4 A5 A6 c3 c4 c5 c6 wb (r3.step (hBa.trans hBab)) (r4.step (hBa.trans hBab)) (r5.step hBb) (r6.step hBb) hfa.1 hfa.2 hfa.1 hfa.2).mono (fun e w' h => h.yes rfl))
        simp only [chartV] at hso
        have hT5 := Aside0.mk (hT4.keep (hBa.trans hBab))
        have hB6 := hB4.trans (hBa.trans hBab)
        clear hba5 hbb hba hT4 hT hB hr5 hfe5 r3 r4 r5 r6 hBab hBb hBa hB5 hB4
        go_wp2_with (go_at_call 26; ((with_reducible refine hso.out.mono ?_); rintro e w6 ⟨rfl, hB7⟩))
        go_roundw
        case rel => exact ⟨k + 1, by omega, by go_num, ⟨hT5.out.keep hB7⟩, hB6.trans hB7⟩
        case measure => simp [intOf]; omega
      · have hkl : k = l.length := by omega
        subst hkl
        have hT3 := hT
        clear hT
        go_upto_region 17 with (fail)
        go_wp2
        obtain ⟨r, hr⟩ : ∃ r, wr.heap.size = r := ⟨_, rfl⟩
        replace hr := Aside0.mk hr
        obtain ⟨wq, hwq⟩ : ∃ W, wr = W := ⟨_, rfl⟩
        rw [hwq] at hr hT3 hB ⊢
        clear hwq
        go_loopw [14, 15] (fun u i W => ∃ k : Nat, k ≤ L.length ∧ i = .int .i64 k ∧ OwnAt (Kd.int .i64) 3 r W u ((L.take k).map fun x => x.f0) ∧ Bel wq W) (fun _ i _ => L.length - (intOf i).toNat)
        case atStart => exact ⟨0, by omega, rfl, OwnAt.nil _ _ _ _, Bel.refl _⟩
        case round =>
          obtain ⟨k, hk, rfl, hO, hB4⟩ := hrel
          by_cases hlt : k < L.length
          · obtain ⟨ad, C1, n1, C2, n2, rfl, s0, s1, s2, s3, s4⟩ := chart_at (hR2.step (hB.trans hB4)) k hlt
            have htk : (L.take (k + 1)).map (fun x => x.f0) = (L.take k).map (fun x => x.f0) ++ [L[k].f0] := by rw [take_snocL L k hlt, List.map_append]; rfl
            obtain ⟨x0, hx0⟩ : ∃ x, L[k].f0 = x := ⟨_, rfl⟩
            rw [hx0] at htk s0
            obtain ⟨xs, hxs⟩ : ∃ xs, (L.take k).map (fun x => x.f0) = xs := ⟨_, rfl⟩
            have hxl : xs.length ≤ 1000000 := by rw [← hxs]; simp; omega
            rw [hxs] at hO htk
            have hrw : r ≤ wr.heap.size := by rw [← hr.out]; exact hB4.size
            clear s1 s2 s3 s4 hx0
            replace hxs := Aside0.mk hxs
            obtain ⟨A1, m1, rfl, _, _⟩ := hO.reads
            replace htk := Aside0.mk htk
            go_wp2_with ((with_reducible refine gate_b (b := .append) rfl ?_); (refine app_int_at_ (xs := xs) x0 [.int .i64 x0] hO ⟨rfl⟩ hrw rfl _ _ rfl ?hl1 rfl rfl ?_); (case hl1 => omega); intro v3 w5 hO1 hK1)
            go_roundw
            case rel => exact ⟨k + 1, by omega, by go_num, by rw [htk.out]; exact hO1, ⟨hB4.out.trans (hK1.below.mono (Nat.le_of_eq hr.out))⟩⟩
            case measure => simp [intOf]; omega
          · have hkl : k = L.length := by omega
            subst hkl
            rw [List.take_length] at hO
            have hT4 := hT3.out.keep hB4
            have hAd := Aside0.mk (Addrs_n hT4)
            have hAk := Aside0.mk (fun W (q : Bel wr W) => Asked_n (hT4.keep q))
            obtain ⟨ks, hks⟩ : ∃ ks, L.map (fun x => x.f0) = ks := ⟨_, rfl⟩
            have hkl : ks.length ≤ 1000000 := by rw [← hks]; simp; omega
            rw [hks] at hO hAd
            obtain ⟨A7, c7, rfl, _, r7⟩ := hO.reads
            have hin := Aside0.mk (fun W (q : Bel wr W) (A : Option Addr) (c : Nat) (h : RdI W A ks) => Ints_any A A7 c c7 ks ks W h (r7.step q) (by omega))
            rw [decide_eq_true (rfl : ks = ks)] at hin
            have e0 : ((l.length : Int) == (l.length : Int)) = true := by simp
            clear hks hO r7 hT3 hk hlt
            replace hT4 := Aside0.mk hT4
            rcases isN_ok hT4.out with hv0 | ⟨tb, hv0, _, _⟩
            · subst hv0
              go_wp2_with (first | (go_at_call 31; ((with_reducible refine hAd.out.mono ?_); rintro e w6 ⟨v6, rfl, hv6, hB6⟩; obtain ⟨A6, c6, rfl, _, r6⟩ := hv6.reads)) | (go_at_call 30; ((with_reducible refine (hin.out _ hB6 _ _ r6).mono ?_); rintro e w7 ⟨rfl, hd7⟩; have hB7 := hB6.trans (Bel.drawn hd7))) | (go_at_call 28; ((with_reducible refine (hAk.out _ hB7).mono ?_); rintro e w8 ⟨rfl, rfl⟩)))
              go_ret
              exact ⟨rfl, hBw2.trans (hB.trans (hB4.trans hB7))⟩
            · subst hv0
              have hcn : cnt (.pointer (some ⟨tb, 0, none⟩)) l.length = (l.length : Int) := rfl
              rw [hcn] at hAk
              go_wp2_with (first | (go_at_call 31; ((with_reducible refine hAd.out.mono ?_); rintro e w6 ⟨v6, rfl, hv6, hB6⟩; obtain ⟨A6, c6, rfl, _, r6⟩ := hv6.reads)) | (go_at_call 30; ((with_reducible refine (hin.out _ hB6 _ _ r6).mono ?_); rintro e w7 ⟨rfl, hd7⟩; have hB7 := hB6.trans (Bel.drawn hd7))) | (go_at_call 28; ((with_reducible refine (hAk.out _ hB7).mono ?_); rintro e w8 ⟨rfl, rfl⟩)))
              go_ret
              exact ⟨rfl, hBw2.trans (hB.trans (hB4.trans hB7))⟩
theorem FindFinds_row (A0 : Option Addr) (c0 : Nat) (l0 : List Int) (A1 : Option Addr) (c1 : Nat) (l1 : List Int) (w : World) (hG : GlobA w.heap.size w) (H0 : RdB w A0 l0) (k0 : l0.length ≤ c0) (o0 : ABytes l0) (H1 : RdI w A1 l1) (_ : l1.length ≤ c1) (o1 : AInts l1) :
    Calls Tryd.prog 9 #[.slice A0 l0.length c0, .slice A1 l1.length c1] w fun e w' => e = .returned (.bool true) ∧ Bel w w' := FindFinds_walk A0 c0 l0 A1 c1 l1 w hG H0 k0 ⟨fun x hx => (o0.2 x hx).ok⟩ H1 ⟨fun x hx => o1.2 x hx⟩
end Go.Proofs.YtceibabhmomfiaaDoor.H

/- Layer 3, walks: are charts greater ones than are looked at? -/
namespace Go.Proofs.YtceibabhmomfiaaDoor.H
open Go.RowKit Go.Proofs.YtceibabhmomfiaaDoorW.PrintWords Go.Proofs.YtceibabhmomfiaaDoorW.PrintLast
set_option linter.unusedVariables false
set_option linter.unusedSimpArgs false
set_option maxRecDepth 100000

def NotGreat (l : List SChart) (w : World) (e : Ending) (w' : World) : Prop := ∃ g, e = .returned (.bool g) ∧ Aside0 (g = false → FewC l) ∧ Bel w w'
theorem notGreat_mk {l : List SChart} {w w' : World} {s : Int} (h : s ≤ 1000 → FewC l) (hB : Bel w w') : NotGreat l w (.returned (.bool (decide (1000 < s)))) w' := ⟨_, rfl, ⟨fun q => h (by simpa using q)⟩, hB⟩
theorem notGreat_true {l : List SChart} {w w' : World} (hB : Bel w w') : NotGreat l w (.returned (.bool true)) w' := ⟨_, rfl, ⟨fun q => by cases q⟩, hB⟩
set_option maxHeartbeats 4000000 in
theorem Great_raw (A : Option Addr) (c : Nat) (l : List SChart) (w : World) (HR : Rd kChart w A l) (hin : Aside0 (ACharts l)) :
    Calls Tryd.prog 16 #[.slice A l.length c] w (NotGreat l w) := by
  have hm : l.length ≤ 140737488351232 := by have := hin.out.1; omega
  go_enter Tryd.func16, Tryd.ntmps16
  go_wp2
  go_loopw [3, 4] (fun n i W => ∃ (k : Nat) (s : Int), k ≤ l.length ∧ i = .int .i64 k ∧ n = .int .i64 s ∧ (l.length : Int) ≤ s ∧ s ≤ 1000000000000000 ∧ Aside0 (s ≤ 1000 → ∀ j (hj : j < l.length), j < k → (l[j]).f1.length ≤ 1000 ∧ (l[j]).f2.length ≤ 1000) ∧ Bel w W) (fun _ i _ => l.length - (intOf i).toNat)
  case atStart => exact ⟨0, _, by omega, rfl, rfl, by omega, by omega, ⟨fun _ j _ h => absurd h (by omega)⟩, Bel.refl _⟩
  case round =>
    obtain ⟨k, s, hk, rfl, rfl, hs0, hs1, hok, hB1⟩ := hrel
    by_cases hlt : k < l.length
    · by_cases hs : s ≤ 1000
      · obtain ⟨ad, A1, c1, A2, c2, rfl, u0, u1, u2, _, _⟩ := chart_at (HR.step hB1) k hlt
        have hin1 := hin.out.2 l[k] (List.getElem_mem hlt)
        have hok2 := hok.out hs
        have hnx := Aside0.mk (fun (h : (l[k]).f1.length ≤ 1000 ∧ (l[k]).f2.length ≤ 1000) j (hj : j < l.length) (hjk : j < k + 1) => show (l[j]).f1.length ≤ 1000 ∧ (l[j]).f2.length ≤ 1000 from by
          by_cases e : j = k
          · subst e; exact h
          · exact hok2 j hj (by omega))
        obtain ⟨x, hx⟩ : ∃ x, l[k] = x := ⟨_, rfl⟩
        rw [hx] at u0 u1 u2 hin1 hnx
        have h1 : x.f1.length ≤ 140737488351232 := by have := hin1.l1; omega
        have h2 : x.f2.length ≤ 140737488351232 := by have := hin1.l2; omega
        obtain ⟨n1, hn1⟩ : ∃ n, x.f1.length = n := ⟨_, rfl⟩
        obtain ⟨n2, hn2⟩ : ∃ n, x.f2.length = n := ⟨_, rfl⟩
        rw [hn1] at u1 h1 hnx
        rw [hn2] at u2 h2 hnx
        clear hx hin1 hok2 hn1 hn2
        go_upto_region 5 with (fail)
        go_region_law (fail)
        all_goals
          go_wp2
          go_roundw
          case rel => exact ⟨k + 1, s + n1 + n2, by omega, by go_num, rfl, by omega, by omega, ⟨fun h => hnx.out ⟨by omega, by omega⟩⟩, hB1.drewN 1⟩
          case measure => simp [intOf]; omega
      · go_wp2
        go_ret
        exact notGreat_true hB1
    · have hfew : Aside0 (s ≤ 1000 → FewC l) := ⟨fun h => ⟨by omega, fun c hc => by
        obtain ⟨j, hj, rfl⟩ := List.getElem_of_mem hc
        have := hok.out h j hj (by omega)
        omega⟩⟩
      go_wp2
      go_ret
      exact notGreat_mk hfew.out hB1
theorem Great_any (A : Option Addr) (c : Nat) (l : List SChart) (w : World) (HR : Rd kChart w A l) (hin : Aside0 (ACharts l)) :
    Calls Tryd.prog 16 #[.slice A l.length c] w fun e w' => ∃ g, e = .returned (.bool g) ∧ Aside0 (g = false → FewC l) ∧ Bel w w' := Great_raw A c l w HR hin
end Go.Proofs.YtceibabhmomfiaaDoor.H

/- Plain and walks: what the laws on packed charts lean on. -/
namespace Go.Proofs.YtceibabhmomfiaaDoor.H
open Go.RowKit Go.Proofs.YtceibabhmomfiaaDoorW.PrintWords Go.Proofs.YtceibabhmomfiaaDoorW.PrintLast
set_option linter.unusedVariables false
set_option linter.unusedSimpArgs false
set_option maxRecDepth 100000

def eE (ok : Bool) : Int := if ok then 0 else 1
def eL (ok : Bool) (l : List SChart) : List Int := if ok then encC l else []
theorem Encode_any (A : Option Addr) (c : Nat) (l : List SChart) (w : World) (HA : Rd kChart w A l) (hs : Aside0 (FewC l)) (hmx : Aside0 (∀ c ∈ l, c.f0 ≤ mx)) (ok : Bool) (hok : Aside0 (ok = true ↔ RightP l)) :
    Calls Tryd.prog 17 #[.slice A l.length c] w fun e w' => ∃ v, e = .returned (.tuple #[v, .int .i64 (eE ok)]) ∧ OwnB w w' v (eL ok l) ∧ Bel w w' := by
  cases ok with
  | true => exact Encode_yes A c l w HA ⟨hok.out.1 rfl⟩ hmx
  | false =>
    refine (Encode_no A c l w HA hs (fun h => by have := hok.out.2 h; cases this)).mono ?_
    rintro e w' ⟨rfl, hB⟩
    exact ⟨_, rfl, Own.nil _ _ _ _, hB⟩
theorem ok_of (l : List SChart) : ∃ ok : Bool, Aside0 (ok = true ↔ RightP l) := by
  by_cases h : RightP l
  · exact ⟨true, ⟨⟨fun _ => h, fun _ => rfl⟩⟩⟩
  · exact ⟨false, ⟨⟨fun q => (by cases q), fun q => absurd q h⟩⟩⟩
theorem mx_of {l : List SChart} (h : ACharts l) : ∀ c ∈ l, c.f0 ≤ mx := fun c hc => ((h.2 c hc).f0.ok).2
theorem near_last {l : List SChart} (h : RightP l) (m : Nat) (hm : l.length = m + 1) : Near l ↔ (l[m]'(by omega)).f0 ≤ farA := by
  refine ⟨fun hn => hn _ (List.getElem_mem _), fun hl c hc => ?_⟩
  obtain ⟨j, hj, rfl⟩ := List.getElem_of_mem hc
  have : ∀ d j (hj : j < l.length), j + d = m → (l[j]).f0 ≤ (l[m]'(by omega)).f0 := by
    intro d
    induction d with
    | zero => intro j hj hjm; simp only [Nat.add_zero] at hjm; subst hjm; exact Int.le_refl _
    | succ d ih =>
      intro j hj hjm
      have h1 := h.rise j (by omega)
      have h2 := ih (j + 1) (by omega) (by omega)
      exact Int.le_trans (Int.le_of_lt h1) h2
  exact Int.le_trans (this (m - j) j hj (by omega)) hl
theorem near_nil : Near [] := fun c hc => by cases hc
end Go.Proofs.YtceibabhmomfiaaDoor.H
