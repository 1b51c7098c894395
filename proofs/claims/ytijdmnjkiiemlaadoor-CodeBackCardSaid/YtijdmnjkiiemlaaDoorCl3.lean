/- Layer 3: what is encoded is decoded as it was, and what is decoded has just those bytes. -/
import Derived.Test.YtijdmnjkiiemlaaDoorCa
import Derived.Test.YtijdmnjkiiemlaaDoorCg
import Derived.Test.YtijdmnjkiiemlaaDoorCc5
import Derived.Test.YtijdmnjkiiemlaaDoorCs4
namespace Go.Proofs.YtijdmnjkiiemlaaDoor.H
open Go.RowKit Go.Proofs.YtijdmnjkiiemlaaDoorW.PrintWords Go.Proofs.YtijdmnjkiiemlaaDoorW.PrintLast
set_option linter.unusedVariables false
set_option linter.unusedSimpArgs false

theorem GlobA.on3 {w W : World} (hG : GlobA w.heap.size w) (k : Bel w W) : GlobA W.heap.size W := ⟨⟨Nat.lt_of_lt_of_le hG.out.pos k.size, (hG.out.step k (Nat.le_refl _)).at_⟩⟩
theorem dec_nil {b : List Int} (h : decE b ≠ 0) : decL b = [] := by
  unfold decE at h
  unfold decL
  cases hp : pProg b with
  | ok x => rw [hp] at h; exact absurd rfl h
  | error q => rfl
theorem FuncOk.fin {f : SFunc} (h : FuncOk f) : FuncIn f := ⟨h.f0, h.f1, h.f2, h.f3, h.f4⟩
set_option maxRecDepth 100000
set_option maxHeartbeats 8000000 in
theorem CodeBack_walk (A : Option Addr) (c : Nat) (l : List SFunc) (B : Option Addr) (d : Nat) (m : List Int) (w : World) (hG : GlobA w.heap.size w) (HA : Rd kFunc w A l) (hl : Aside0 (AProg l)) (HB : RdB w B m) (hd : m.length ≤ d) (hm : Bytes m) :
    Calls Tryd.prog 6 #[.agg #[.slice A l.length c], .slice B m.length d] w fun e w' => e = .returned (.bool true) ∧ Bel w w' := by
  have hB0 := (Bel.refl w).alloc (.cells #[.slice A l.length c] 24)
  have h0 := heap_alloc_new w (.cells #[.slice A l.length c] 24)
  go_enter Tryd.func6, Tryd.ntmps6
  go_upto_region 1 with (fail)
  generalize w.alloc (.cells #[.slice A l.length c] 24) = wa at hB0 h0 ⊢
  obtain ⟨b0, hb0⟩ : ∃ b, w.heap.size = b := ⟨_, rfl⟩
  rw [hb0] at h0 ⊢
  replace hb0 := Aside0.mk hb0
  have z := Aside0.mk (fun W (k : Bel wa W) => (show W.cell? ⟨b0, 0, none⟩ = some (.slice A l.length c) from Bel.cell k (blk_cell h0 0)))
  clear h0
  have hal := Aside0.mk (alive_any wa (hG.on3 hB0))
  go_upto_region 3 with (go_at_call 8; ((with_reducible refine hal.out.mono ?_); rintro e w1 ⟨rfl, hB1⟩))
  have z0 := z.out w1 hB1
  have hg0 := Aside0.mk (Great_any A c l w1 (HA.step (hB0.trans hB1)) hl)
  by_cases hmore : 5000 < m.length
  · go_wp2_with (go_at_call 9; (with_reducible refine hg0.out.mono ?_); rintro e w2 ⟨g0, rfl, hf0, hB2⟩; cases g0)
    all_goals
      go_ret
      exact ⟨rfl, hB0.trans (hB1.trans hB2)⟩
  go_upto_if 21 with (go_at_call 9; (with_reducible refine hg0.out.mono ?_); rintro e w2 ⟨g0, rfl, hf0, hB2⟩; cases g0)
  · have hi0 := Aside0.mk (few_in hl.out (hf0.out (by first | rfl | trivial)))
    have hBw2 := hB0.trans (hB1.trans hB2)
    have hBa2 := hB1.trans hB2
    clear hg0 hal hf0 z0
    have z0 := z.out w2 hBa2
    have he0 := Aside0.mk (Encode_any A c l w2 (hG.on3 hBw2) (HA.step hBw2) hi0)
    have hdm := Aside0.mk (fun W (k : Bel w W) => Decode_any B d m W (hG.on3 k) hd (HB.step k) hm (by omega))
    by_cases h0 : encE l = 0
    case neg =>
      have b1 : (encE l == 0) = false := by simpa using h0
      obtain ⟨x0, hx0⟩ : ∃ x, encE l = x := ⟨_, rfl⟩
      rw [hx0] at he0 b1
      clear h0 hx0
      go_upto_region 10 with (go_at_call 10; (with_reducible refine he0.out.mono ?_); rintro e w4 ⟨v4, rfl, hv4, hB4⟩)
      have hBW := hBw2.trans hB4
      clear he0 z0 b1 hv4
      obtain ⟨W4, hW4⟩ : ∃ W, w4 = W := ⟨_, rfl⟩
      subst hW4
      have hdw := hdm.out w4 hBW
      by_cases hz : decE m = 0
      case neg =>
        have b1 : (decE m != 0) = true := by simpa using hz
        rw [dec_nil hz] at hdw
        obtain ⟨x9, hx9⟩ : ∃ x, decE m = x := ⟨_, rfl⟩
        rw [hx9] at hdw b1
        replace hdw := Aside0.mk hdw
        clear hz hx9
        go_upto_region 11 with (go_at_call 15; (with_reducible refine hdw.out.mono ?_); rintro e w8 ⟨v8, rfl, hv8, hB8, _⟩; obtain ⟨A8, c8, rfl, _, _⟩ := hv8.reads)
        have hp8 : Bel w8 (w8.alloc (.cells #[.slice A8 0 c8] 24)) := (Bel.refl w8).alloc _
        have hb8 := heap_alloc_new w8 (.cells #[.slice A8 0 c8] 24)
        generalize w8.alloc (.cells #[.slice A8 0 c8] 24) = w9 at hp8 hb8 ⊢
        obtain ⟨b9, hb9⟩ : ∃ b, w8.heap.size = b := ⟨_, rfl⟩
        rw [hb9] at hb8 ⊢
        replace hb9 := Aside0.mk hb9
        have y9 : w9.cell? ⟨b9, 0, none⟩ = some (.slice A8 0 c8) := blk_cell hb8 0
        clear hb8
        go_wp2
        go_ret
        exact ⟨rfl, hBW.trans (hB8.trans hp8)⟩
      have hed := enc_dec hm.out hz
      rw [hz] at hdw
      obtain ⟨fs, hfs⟩ : ∃ f, decL m = f := ⟨_, rfl⟩
      rw [hfs] at hdw hed
      replace hdw := Aside0.mk hdw
      replace hed := Aside0.mk hed
      clear hz hfs
      go_upto_region 11 with (go_at_call 15; (with_reducible refine hdw.out.mono ?_); rintro e w8 ⟨v8, rfl, hv8, hB8, hf8⟩; obtain ⟨A8, c8, rfl, _, hR8⟩ := hv8.reads)
      have hp8 : Bel w8 (w8.alloc (.cells #[.slice A8 fs.length c8] 24)) := (Bel.refl w8).alloc _
      have hb8 := heap_alloc_new w8 (.cells #[.slice A8 fs.length c8] 24)
      generalize w8.alloc (.cells #[.slice A8 fs.length c8] 24) = w9 at hp8 hb8 ⊢
      obtain ⟨b9, hb9⟩ : ∃ b, w8.heap.size = b := ⟨_, rfl⟩
      rw [hb9] at hb8 ⊢
      replace hb9 := Aside0.mk hb9
      have y9 : w9.cell? ⟨b9, 0, none⟩ = some (.slice A8 fs.length c8) := blk_cell hb8 0
      have hBw9 := hBW.trans (hB8.trans hp8)
      have he9 := Encode_any A8 c8 fs w9 (hG.on3 hBw9) (hR8.step hp8) ⟨fun f hf => (hf8.out f hf).fin⟩
      rw [hed.out.1, hed.out.2] at he9
      replace he9 := Aside0.mk he9
      clear hb8 hdw hv8 hR8 hf8
      go_upto_region 14 with (go_at_call 10; (with_reducible refine he9.out.mono ?_); rintro e wx ⟨vx, rfl, hvx, hBx⟩; obtain ⟨Ax, cx, rfl, _, hRx⟩ := hvx.reads)
      have hs := Same_any Ax B cx d m m wx hRx (HB.step (hBw9.trans hBx)) (by omega)
      rw [decide_eq_true (rfl : m = m)] at hs
      replace hs := Aside0.mk hs
      clear he9 hvx hRx y9
      go_wp2_with (go_at_call 12; (with_reducible refine hs.out.mono ?_); rintro e wy ⟨rfl, hdy⟩)
      go_ret
      exact ⟨rfl, (hBw9.trans hBx).trans (Bel.drawn hdy)⟩
    rw [h0] at he0
    have hlen := encL_len hi0.out
    have hby := Aside0.mk (enc_by hi0.out h0)
    have hback := Aside0.mk (dec_enc hi0.out h0)
    obtain ⟨x, hx⟩ : ∃ x, encL l = x := ⟨_, rfl⟩
    rw [hx] at he0 hlen hby hback
    clear hx h0
    go_upto_region 7 with (go_at_call 10; (with_reducible refine he0.out.mono ?_); rintro e w4 ⟨v4, rfl, hv4, hB4⟩; obtain ⟨A4, c4, rfl, hc4, hR4⟩ := hv4.reads)
    have hBw4 := hBw2.trans hB4
    have hd1 := Decode_any A4 c4 x w4 (hG.on3 hBw4) hc4 hR4 ⟨hby.out⟩ (by omega)
    rw [hback.out.1, hback.out.2] at hd1
    replace hd1 := Aside0.mk hd1
    clear he0 z0 hv4 hR4
    go_upto_region 8 with (go_at_call 15; (with_reducible refine hd1.out.mono ?_); rintro e w5 ⟨v5, rfl, hv5, hB5, _⟩; obtain ⟨A5, c5, rfl, _, hR5⟩ := hv5.reads)
    have hp5 : Bel w5 (w5.alloc (.cells #[.slice A5 l.length c5] 24)) := (Bel.refl w5).alloc _
    have hb5 := heap_alloc_new w5 (.cells #[.slice A5 l.length c5] 24)
    generalize w5.alloc (.cells #[.slice A5 l.length c5] 24) = w6 at hp5 hb5 ⊢
    obtain ⟨b1, hb1⟩ : ∃ b, w5.heap.size = b := ⟨_, rfl⟩
    rw [hb1] at hb5 ⊢
    replace hb1 := Aside0.mk hb1
    have y0 : w6.cell? ⟨b1, 0, none⟩ = some (.slice A5 l.length c5) := blk_cell hb5 0
    have hBw6 := hBw4.trans (hB5.trans hp5)
    have z0 := z.out w6 (hBa2.trans (hB4.trans (hB5.trans hp5)))
    have hsm := Aside0.mk ((rSame_any A A5 c c5 l l w6 True ⟨by simp⟩ (HA.step hBw6) (hR5.step hp5)).mono (fun e w' h => h.yes trivial))
    clear hd1 hv5 hR5 hb5
    go_upto_region 10 with (go_at_call 14; (with_reducible refine hsm.out.mono ?_); rintro e w7 ⟨rfl, hB7⟩)
    have hBW := hBw6.trans hB7
    clear hsm z0 y0
    have hdw := hdm.out w7 hBW
    by_cases hz : decE m = 0
    case neg =>
      have b1 : (decE m != 0) = true := by simpa using hz
      rw [dec_nil hz] at hdw
      obtain ⟨x9, hx9⟩ : ∃ x, decE m = x := ⟨_, rfl⟩
      rw [hx9] at hdw b1
      replace hdw := Aside0.mk hdw
      clear hz hx9
      go_upto_region 11 with (go_at_call 15; (with_reducible refine hdw.out.mono ?_); rintro e w8 ⟨v8, rfl, hv8, hB8, _⟩; obtain ⟨A8, c8, rfl, _, _⟩ := hv8.reads)
      have hp8 : Bel w8 (w8.alloc (.cells #[.slice A8 0 c8] 24)) := (Bel.refl w8).alloc _
      have hb8 := heap_alloc_new w8 (.cells #[.slice A8 0 c8] 24)
      generalize w8.alloc (.cells #[.slice A8 0 c8] 24) = w9 at hp8 hb8 ⊢
      obtain ⟨b9, hb9⟩ : ∃ b, w8.heap.size = b := ⟨_, rfl⟩
      rw [hb9] at hb8 ⊢
      replace hb9 := Aside0.mk hb9
      have y9 : w9.cell? ⟨b9, 0, none⟩ = some (.slice A8 0 c8) := blk_cell hb8 0
      clear hb8
      go_wp2
      go_ret
      exact ⟨rfl, hBW.trans (hB8.trans hp8)⟩
    have hed := enc_dec hm.out hz
    rw [hz] at hdw
    obtain ⟨fs, hfs⟩ : ∃ f, decL m = f := ⟨_, rfl⟩
    rw [hfs] at hdw hed
    replace hdw := Aside0.mk hdw
    replace hed := Aside0.mk hed
    clear hz hfs
    go_upto_region 11 with (go_at_call 15; (with_reducible refine hdw.out.mono ?_); rintro e w8 ⟨v8, rfl, hv8, hB8, hf8⟩; obtain ⟨A8, c8, rfl, _, hR8⟩ := hv8.reads)
    have hp8 : Bel w8 (w8.alloc (.cells #[.slice A8 fs.length c8] 24)) := (Bel.refl w8).alloc _
    have hb8 := heap_alloc_new w8 (.cells #[.slice A8 fs.length c8] 24)
    generalize w8.alloc (.cells #[.slice A8 fs.length c8] 24) = w9 at hp8 hb8 ⊢
    obtain ⟨b9, hb9⟩ : ∃ b, w8.heap.size = b := ⟨_, rfl⟩
    rw [hb9] at hb8 ⊢
    replace hb9 := Aside0.mk hb9
    have y9 : w9.cell? ⟨b9, 0, none⟩ = some (.slice A8 fs.length c8) := blk_cell hb8 0
    have hBw9 := hBW.trans (hB8.trans hp8)
    have he9 := Encode_any A8 c8 fs w9 (hG.on3 hBw9) (hR8.step hp8) ⟨fun f hf => (hf8.out f hf).fin⟩
    rw [hed.out.1, hed.out.2] at he9
    replace he9 := Aside0.mk he9
    clear hb8 hdw hv8 hR8 hf8
    go_upto_region 14 with (go_at_call 10; (with_reducible refine he9.out.mono ?_); rintro e wx ⟨vx, rfl, hvx, hBx⟩; obtain ⟨Ax, cx, rfl, _, hRx⟩ := hvx.reads)
    have hs := Same_any Ax B cx d m m wx hRx (HB.step (hBw9.trans hBx)) (by omega)
    rw [decide_eq_true (rfl : m = m)] at hs
    replace hs := Aside0.mk hs
    clear he9 hvx hRx y9
    go_wp2_with (go_at_call 12; (with_reducible refine hs.out.mono ?_); rintro e wy ⟨rfl, hdy⟩)
    go_ret
    exact ⟨rfl, (hBw9.trans hBx).trans (Bel.drawn hdy)⟩
  · go_wp2
    go_ret
    exact ⟨rfl, hB0.trans (hB1.trans hB2)⟩
theorem CodeBack_row (A0 : Option Addr) (c0 : Nat) (l0 : List SFunc) (A1 : Option Addr) (c1 : Nat) (l1 : List Int) (w : World) (hG : GlobA w.heap.size w) (H0 : Rd kFunc w A0 l0) (_ : l0.length ≤ c0) (o0 : AProg l0) (H1 : RdB w A1 l1) (k1 : l1.length ≤ c1) (o1 : ABytes l1) :
    Calls Tryd.prog 6 #[.agg #[.slice A0 l0.length c0], .slice A1 l1.length c1] w fun e w' => e = .returned (.bool true) ∧ Bel w w' := CodeBack_walk A0 c0 l0 A1 c1 l1 w hG H0 ⟨o0⟩ H1 k1 ⟨fun x hx => (o1.2 x hx).ok⟩
end Go.Proofs.YtijdmnjkiiemlaaDoor.H
