/- Layer 3: two programs of the same bytes are the same. -/
import Derived.Test.YtijdmnjkiiemlaaDoorCa
import Derived.Test.YtijdmnjkiiemlaaDoorCg
import Derived.Test.YtijdmnjkiiemlaaDoorCs2
namespace Go.Proofs.YtijdmnjkiiemlaaDoor.H
open Go.RowKit Go.Proofs.YtijdmnjkiiemlaaDoorW.PrintWords Go.Proofs.YtijdmnjkiiemlaaDoorW.PrintLast
set_option linter.unusedVariables false
set_option linter.unusedSimpArgs false

theorem GlobA.later {w W : World} (hG : GlobA w.heap.size w) (k : Bel w W) : GlobA W.heap.size W := ⟨⟨Nat.lt_of_lt_of_le hG.out.pos k.size, (hG.out.step k (Nat.le_refl _)).at_⟩⟩
set_option maxRecDepth 100000
set_option maxHeartbeats 4000000 in
theorem CodeOnce_walk (A B : Option Addr) (c d : Nat) (l m : List SFunc) (w : World) (hG : GlobA w.heap.size w) (HA : Rd kFunc w A l) (HB : Rd kFunc w B m) (hl : Aside0 (AProg l)) (hm : Aside0 (AProg m)) :
    Calls Tryd.prog 4 #[.agg #[.slice A l.length c], .agg #[.slice B m.length d]] w fun e w' => e = .returned (.bool true) ∧ Bel w w' := by
  have hB0 := ((Bel.refl w).alloc (.cells #[.slice A l.length c] 24)).alloc (.cells #[.slice B m.length d] 24)
  have h0 : ((w.alloc (.cells #[.slice A l.length c] 24)).alloc (.cells #[.slice B m.length d] 24)).heap[w.heap.size]? = some (.cells #[.slice A l.length c] 24 (0, 0)) := (((Bel.refl _).alloc (.cells #[.slice B m.length d] 24)).out.block _ (blk_lt (heap_alloc_new w _))).trans (heap_alloc_new w _)
  have h1 : ((w.alloc (.cells #[.slice A l.length c] 24)).alloc (.cells #[.slice B m.length d] 24)).heap[w.heap.size + 1]? = some (.cells #[.slice B m.length d] 24 (0, 0)) := by rw [sz1 w (.cells #[.slice A l.length c] 24)]; exact heap_alloc_new _ _
  go_enter Tryd.func4, Tryd.ntmps4
  go_upto_region 1 with (fail)
  generalize (w.alloc (.cells #[.slice A l.length c] 24)).alloc (.cells #[.slice B m.length d] 24) = wa at hB0 h0 h1 ⊢
  obtain ⟨b0, hb0⟩ : ∃ b, w.heap.size = b := ⟨_, rfl⟩
  obtain ⟨b1, hb1⟩ : ∃ b, w.heap.size + 1 = b := ⟨_, rfl⟩
  rw [hb0] at h0
  rw [hb1] at h1
  rw [hb0] at hb1 ⊢
  rw [hb1]
  replace hb0 := Aside0.mk hb0
  replace hb1 := Aside0.mk hb1
  have z := Aside0.mk (fun W (k : Bel wa W) => And.intro (show W.cell? ⟨b0, 0, none⟩ = some (.slice A l.length c) from Bel.cell k (blk_cell h0 0)) (show W.cell? ⟨b1, 0, none⟩ = some (.slice B m.length d) from Bel.cell k (blk_cell h1 0)))
  clear h0 h1
  have hal := Aside0.mk (alive_any wa (hG.later hB0))
  go_upto_region 3 with (go_at_call 8; ((with_reducible refine hal.out.mono ?_); rintro e w1 ⟨rfl, hB1⟩))
  obtain ⟨z0, z1⟩ := z.out w1 hB1
  have hg0 := Aside0.mk (Great_any A c l w1 (HA.step (hB0.trans hB1)) hl)
  have hg1 := Aside0.mk (fun W (k : Bel w1 W) => Great_any B d m W (HB.step ((hB0.trans hB1).trans k)) hm)
  go_upto_if 16 with (go_at_call 9; first | ((with_reducible refine hg0.out.mono ?_); rintro e w2 ⟨g0, rfl, hf0, hB2⟩; obtain ⟨z2, z3⟩ := z.out w2 (hB1.trans hB2); cases g0) | ((with_reducible refine (hg1.out _ hB2).mono ?_); rintro e w3 ⟨g1, rfl, hf1, hB3⟩))
  · cases g1 with
    | true =>
      go_wp2
      go_ret
      exact ⟨rfl, hB0.trans (hB1.trans (hB2.trans hB3))⟩
    | false =>
      have hi0 := Aside0.mk (few_in hl.out (hf0.out (by first | rfl | trivial)))
      have hi1 := Aside0.mk (few_in hm.out (hf1.out (by first | rfl | trivial)))
      have hBw3 := hB0.trans (hB1.trans (hB2.trans hB3))
      have hBa3 := hB1.trans (hB2.trans hB3)
      clear hg0 hg1 hal hf0 hf1 z0 z1 z2 z3
      obtain ⟨z0, z1⟩ := z.out w3 hBa3
      have he0 := Aside0.mk (Encode_any A c l w3 (hG.later hBw3) (HA.step hBw3) hi0)
      have he1 := Aside0.mk (fun W (k : Bel w3 W) => Encode_any B d m W (hG.later (hBw3.trans k)) (HB.step (hBw3.trans k)) hi1)
      by_cases h0 : encE l = 0
      case neg =>
        have b1 : (encE l != 0) = true := by simpa using h0
        replace h0 := Aside0.mk h0
        obtain ⟨x0, hx0⟩ : ∃ x, encE l = x := ⟨_, rfl⟩
        rw [hx0] at he0 b1
        clear h0 hx0
        go_wp2_with (go_at_call 10; first | ((with_reducible refine he0.out.mono ?_); rintro e w4 ⟨v4, rfl, hv4, hB4⟩; obtain ⟨z2, z3⟩ := z.out w4 (hBa3.trans hB4)) | ((with_reducible refine (he1.out _ hB4).mono ?_); rintro e w5 ⟨v5, rfl, hv5, hB5⟩))
        go_ret
        exact ⟨rfl, hBw3.trans (hB4.trans hB5)⟩
      rw [h0] at he0
      replace h0 := Aside0.mk h0
      by_cases h1 : encE m = 0
      case neg =>
        have b1 : (encE m != 0) = true := by simpa using h1
        replace h1 := Aside0.mk h1
        obtain ⟨x0, hx0⟩ : ∃ x, encE m = x := ⟨_, rfl⟩
        rw [hx0] at he1 b1
        clear h1 hx0
        go_wp2_with (go_at_call 10; first | ((with_reducible refine he0.out.mono ?_); rintro e w4 ⟨v4, rfl, hv4, hB4⟩; obtain ⟨z2, z3⟩ := z.out w4 (hBa3.trans hB4)) | ((with_reducible refine (he1.out _ hB4).mono ?_); rintro e w5 ⟨v5, rfl, hv5, hB5⟩))
        go_ret
        exact ⟨rfl, hBw3.trans (hB4.trans hB5)⟩
      rw [h1] at he1
      have hon := Aside0.mk (enc_once hi0.out hi1.out h0.out h1)
      replace h1 := Aside0.mk h1
      go_upto_region 9 with (go_at_call 10; first | ((with_reducible refine he0.out.mono ?_); rintro e w4 ⟨v4, rfl, hv4, hB4⟩; obtain ⟨z2, z3⟩ := z.out w4 (hBa3.trans hB4)) | ((with_reducible refine (he1.out _ hB4).mono ?_); rintro e w5 ⟨v5, rfl, hv5, hB5⟩))
      clear he0 he1 z0 z1 z2 z3
      obtain ⟨A4, c4, rfl, _, hR4⟩ := (hv4.step hB5).reads
      obtain ⟨A5, c5, rfl, _, hR5⟩ := hv5.reads
      have hBa5 := hBa3.trans (hB4.trans hB5)
      have hBw5 := hBw3.trans (hB4.trans hB5)
      obtain ⟨z0, z1⟩ := z.out w5 hBa5
      have hlen := encL_len hi0.out
      have hs := Aside0.mk (fun W (k : Bel w5 W) => Same_any A4 A5 c4 c5 (encL l) (encL m) W (hR4.step k) (hR5.step k) (by omega))
      have hc := Aside0.mk (fun W (k : Bel w5 W) => cSame_any A B c d l m W (l = m) ⟨Iff.rfl⟩ (HA.step (hBw5.trans k)) (HB.step (hBw5.trans k)))
      obtain ⟨b1, hb1'⟩ : ∃ b : Bool, Aside0 (decide (encL l = encL m) = b) := ⟨_, ⟨rfl⟩⟩
      rw [hb1'.out] at hs
      have hc2 := Aside0.mk (fun W (k : Bel w5 W) => (hc.out W k).mono (fun e w' h => (show e = .returned (.bool b1) ∧ Bel w5 w' from by
        cases b1 with
        | true => exact ⟨(h.yes (hon.out.1 (of_decide_eq_true hb1'.out))).1, k.trans (h.yes (hon.out.1 (of_decide_eq_true hb1'.out))).2⟩
        | false => exact ⟨(h.no (fun q => of_decide_eq_false hb1'.out (hon.out.2 q))).1, k.trans (h.no (fun q => of_decide_eq_false hb1'.out (hon.out.2 q))).2⟩)))
      clear hc hb1' hon hv4 hv5
      cases b1
      all_goals
        go_region_law (first | (refine goes_ (f := 12) Tryd.func12 (by kernel_rfl) rfl #[.slice A4 (encL l).length c4, .slice A5 (encL m).length c5] rfl rfl rfl (by simp only [List.map_toArray, List.map_cons, List.map_nil]; rfl) ?_; refine (hs.out _ ?_).mono ?_; (repeat (first | exact Bel.refl _ | exact hB7 | refine Bel.drewN ?_ _)); rintro ex w6 ⟨rfl, ⟨n6, rfl⟩⟩; refine ⟨_, rfl, ?_⟩) | (refine goes_ (f := 13) Tryd.func13 (by kernel_rfl) rfl #[.agg #[.slice A l.length c], .agg #[.slice B m.length d]] rfl rfl rfl (by simp only [List.map_toArray, List.map_cons, List.map_nil]; rfl) ?_; refine (hc2.out _ ?_).mono ?_; (repeat (first | exact Bel.refl _ | refine Bel.alloc ?_ _ | refine Bel.drewN ?_ _)); rintro ex w7 ⟨rfl, hB7⟩; refine ⟨_, rfl, ?_⟩))
        all_goals
          go_wp2
          go_ret
          refine ⟨rfl, hBw5.trans ?_⟩
          repeat (first | exact Bel.refl _ | exact hB7 | refine Bel.drewN ?_ _ | refine Bel.drewN (n := 1) ?_)
  · go_wp2
    go_ret
    exact ⟨rfl, hB0.trans (hB1.trans hB2)⟩
theorem CodeOnce_row (A0 : Option Addr) (c0 : Nat) (l0 : List SFunc) (A1 : Option Addr) (c1 : Nat) (l1 : List SFunc) (w : World) (hG : GlobA w.heap.size w) (H0 : Rd kFunc w A0 l0) (_ : l0.length ≤ c0) (o0 : AProg l0) (H1 : Rd kFunc w A1 l1) (_ : l1.length ≤ c1) (o1 : AProg l1) :
    Calls Tryd.prog 4 #[.agg #[.slice A0 l0.length c0], .agg #[.slice A1 l1.length c1]] w fun e w' => e = .returned (.bool true) ∧ Bel w w' := CodeOnce_walk A0 A1 c0 c1 l0 l1 w hG H0 H1 ⟨o0⟩ ⟨o1⟩
end Go.Proofs.YtijdmnjkiiemlaaDoor.H
