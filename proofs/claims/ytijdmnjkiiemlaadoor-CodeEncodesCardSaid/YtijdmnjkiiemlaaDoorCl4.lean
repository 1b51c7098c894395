/- Layer 3: any program has the document's bytes, or none. -/
import Derived.Test.YtijdmnjkiiemlaaDoorCa
import Derived.Test.YtijdmnjkiiemlaaDoorCg
import Derived.Test.YtijdmnjkiiemlaaDoorCs4
import Derived.Test.YtijdmnjkiiemlaaDoorRe5
import Derived.Deep.RegionHeld3
namespace Go.Proofs.YtijdmnjkiiemlaaDoor.H
open Go.RowKit Go.Proofs.YtijdmnjkiiemlaaDoorW.PrintWords Go.Proofs.YtijdmnjkiiemlaaDoorW.PrintLast
set_option linter.unusedVariables false
set_option linter.unusedSimpArgs false

theorem GlobA.on4 {w W : World} (hG : GlobA w.heap.size w) (k : Bel w W) : GlobA W.heap.size W := ⟨⟨Nat.lt_of_lt_of_le hG.out.pos k.size, (hG.out.step k (Nat.le_refl _)).at_⟩⟩
set_option maxRecDepth 100000
set_option maxHeartbeats 4000000 in
theorem CodeEncodes_walk (A B : Option Addr) (c d : Nat) (l m : List SFunc) (w : World) (hG : GlobA w.heap.size w) (HA : Rd kFunc w A l) (HB : Rd kFunc w B m) (hl : Aside0 (AProg l)) (hm : Aside0 (AProg m)) :
    Calls Tryd.prog 3 #[.agg #[.slice A l.length c], .agg #[.slice B m.length d]] w fun e w' => e = .returned (.bool true) ∧ Bel w w' := by
  have hB0 := ((Bel.refl w).alloc (.cells #[.slice A l.length c] 24)).alloc (.cells #[.slice B m.length d] 24)
  have h0 : ((w.alloc (.cells #[.slice A l.length c] 24)).alloc (.cells #[.slice B m.length d] 24)).heap[w.heap.size]? = some (.cells #[.slice A l.length c] 24 (0, 0)) := (((Bel.refl _).alloc (.cells #[.slice B m.length d] 24)).out.block _ (blk_lt (heap_alloc_new w _))).trans (heap_alloc_new w _)
  have h1 : ((w.alloc (.cells #[.slice A l.length c] 24)).alloc (.cells #[.slice B m.length d] 24)).heap[w.heap.size + 1]? = some (.cells #[.slice B m.length d] 24 (0, 0)) := by rw [sz1 w (.cells #[.slice A l.length c] 24)]; exact heap_alloc_new _ _
  go_enter Tryd.func3, Tryd.ntmps3
  go_upto_region 1 with (fail)
  generalize (w.alloc (.cells #[.slice A l.length c] 24)).alloc (.cells #[.slice B m.length d] 24) = wa at hB0 h0 h1 ⊢
  obtain ⟨b0, hb0⟩ : ∃ b, w.heap.size = b := ⟨_, rfl⟩
  obtain ⟨b1, hb1⟩ : ∃ b, w.heap.size + 1 = b := ⟨_, rfl⟩
  rw [hb0] at h0
  rw [hb1] at h1
  rw [hb0] at hb1 ⊢
  rw [hb1]
  replace hb0 := Aside0.mk hb0
  replace hb1 := Aside0.mk hb1
  have z := Aside0.mk (fun W (k : Bel wa W) => And.intro (show W.cell? ⟨b0, 0, none⟩ = some (.slice A l.length c) from Bel.cell k (blk_cell h0 0)) (show W.cell? ⟨b1, 0, none⟩ = some (.slice B m.length d) from Bel.cell k (blk_cell h1 0)))
  clear h0 h1
  have hal := Aside0.mk (alive_any wa (hG.on4 hB0))
  go_upto_region 3 with (go_at_call 8; ((with_reducible refine hal.out.mono ?_); rintro e w1 ⟨rfl, hB1⟩))
  obtain ⟨z0, z1⟩ := z.out w1 hB1
  have hg0 := Aside0.mk (Great_any A c l w1 (HA.step (hB0.trans hB1)) hl)
  have hg1 := Aside0.mk (fun W (k : Bel w1 W) => Great_any B d m W (HB.step ((hB0.trans hB1).trans k)) hm)
  go_upto_if 16 with (go_at_call 9; first | ((with_reducible refine hg0.out.mono ?_); rintro e w2 ⟨g0, rfl, hf0, hB2⟩; obtain ⟨z2, z3⟩ := z.out w2 (hB1.trans hB2); cases g0) | ((with_reducible refine (hg1.out _ hB2).mono ?_); rintro e w3 ⟨g1, rfl, hf1, hB3⟩))
  · cases g1 with
    | true =>
      go_wp2
      go_ret
      exact ⟨rfl, hB0.trans (hB1.trans (hB2.trans hB3))⟩
    | false =>
      have hi0 := Aside0.mk (few_in hl.out (hf0.out (by first | rfl | trivial)))
      have hi1 := Aside0.mk (few_in hm.out (hf1.out (by first | rfl | trivial)))
      have hBw3 := hB0.trans (hB1.trans (hB2.trans hB3))
      have hBa3 := hB1.trans (hB2.trans hB3)
      clear hg0 hg1 hal hf0 hf1 z0 z1 z2 z3
      obtain ⟨z0, z1⟩ := z.out w3 hBa3
      have he0 := Aside0.mk (Encode_any A c l w3 (hG.on4 hBw3) (HA.step hBw3) hi0)
      have he1 := Aside0.mk (fun W (k : Bel w3 W) => EncodeRef_any A c l W (HA.step (hBw3.trans k)) hi0)
      have hlen := encL_len hi0.out
      obtain ⟨y, hy⟩ : ∃ y, Aside0 (encL l = y) := ⟨_, ⟨rfl⟩⟩
      obtain ⟨e0, he⟩ : ∃ e, Aside0 (encE l = e) := ⟨_, ⟨rfl⟩⟩
      rw [hy.out, he.out] at he0 he1
      rw [hy.out] at hlen
      go_upto_region 7 with (first | (go_at_call 10; (with_reducible refine he0.out.mono ?_); rintro e w4 ⟨v4, rfl, hv4, hB4⟩; have z2 := (z.out w4 (hBa3.trans hB4)).1) | (go_at_call 11; (with_reducible refine (he1.out _ hB4).mono ?_); rintro e w5 ⟨v5, rfl, hv5, hB5⟩))
      clear he0 he1 z0 z1 z2
      obtain ⟨A4, c4, rfl, _, hR4⟩ := (hv4.step hB5).reads
      obtain ⟨A5, c5, rfl, _, hR5⟩ := hv5.reads
      have hBa5 := hBa3.trans (hB4.trans hB5)
      have hBw5 := hBw3.trans (hB4.trans hB5)
      have hs := Aside0.mk (fun W (k : Bel w5 W) => (Same_any A4 A5 c4 c5 y y W (hR4.step k) (hR5.step k) (by omega)).mono (fun e w' h => (show e = .returned (.bool true) ∧ Bel w5 w' from ⟨by rw [h.1, decide_eq_true rfl], k.trans (Bel.drawn h.2)⟩)))
      have hself := Aside0.mk (fun W (k : Bel w5 W) => (cSame_any A A c c l l W True ⟨by simp⟩ (HA.step (hBw5.trans k)) (HA.step (hBw5.trans k))).mono (fun e w' h => (show e = .returned (.bool true) ∧ Bel w5 w' from ⟨(h.yes trivial).1, k.trans (h.yes trivial).2⟩)))
      obtain ⟨b2, hcc, hrc⟩ : ∃ b : Bool, Aside0 (∀ W, Bel w5 W → Calls Tryd.prog 13 #[.agg #[.slice A l.length c], .agg #[.slice B m.length d]] W fun e w' => e = .returned (.bool b) ∧ Bel w5 w') ∧ Aside0 (∀ W, Bel w5 W → Calls Tryd.prog 14 #[.agg #[.slice A l.length c], .agg #[.slice B m.length d]] W fun e w' => e = .returned (.bool b) ∧ Bel w5 w') := by
        by_cases hlm : l = m
        · exact ⟨true, ⟨fun W k => (cSame_any A B c d l m W (l = m) ⟨Iff.rfl⟩ (HA.step (hBw5.trans k)) (HB.step (hBw5.trans k))).mono fun e w' h => ⟨(h.yes hlm).1, k.trans (h.yes hlm).2⟩⟩, ⟨fun W k => (rSame_any A B c d l m W (l = m) ⟨Iff.rfl⟩ (HA.step (hBw5.trans k)) (HB.step (hBw5.trans k))).mono fun e w' h => ⟨(h.yes hlm).1, k.trans (h.yes hlm).2⟩⟩⟩
        · exact ⟨false, ⟨fun W k => (cSame_any A B c d l m W (l = m) ⟨Iff.rfl⟩ (HA.step (hBw5.trans k)) (HB.step (hBw5.trans k))).mono fun e w' h => ⟨(h.no hlm).1, k.trans (h.no hlm).2⟩⟩, ⟨fun W k => (rSame_any A B c d l m W (l = m) ⟨Iff.rfl⟩ (HA.step (hBw5.trans k)) (HB.step (hBw5.trans k))).mono fun e w' h => ⟨(h.no hlm).1, k.trans (h.no hlm).2⟩⟩⟩
      obtain ⟨z0, z1⟩ := z.out w5 hBa5
      have hBr := Bel.refl w5
      have hBd : Bel w5 w5.drew := (Bel.refl w5).drewN 1
      clear hv4 hv5 hR4 hR5
      have b4 : (b2 == b2) = true := by simp
      have b5 : (e0 == e0) = true := by simp
      go_region_held3 (fun w' => Bel w5 w' ∧ w'.cell? ⟨b0, 0, none⟩ = some (.slice A l.length c) ∧ w'.cell? ⟨b1, 0, none⟩ = some (.slice B m.length d))
        (first | exact ⟨hBd, z.out _ (hBa5.trans hBd)⟩ | exact ⟨hBr, z.out _ hBa5⟩ | exact ⟨hB9, z.out _ (hBa5.trans hB9)⟩ | go_keep)
        (first | (go_at_call 12; refine (hs.out _ ?_).mono ?_; (first | exact hBd | exact hBr | exact (‹Bel w5 _ ∧ _›).1); rintro e w6 ⟨rfl, hB9⟩) | (go_at_call 13; (first | with_reducible refine (hcc.out _ ?_).mono ?_ | with_reducible refine (hself.out _ ?_).mono ?_); (first | exact hBd | exact hBr | exact (‹Bel w5 _ ∧ _›).1); rintro e w7 ⟨rfl, hB9⟩) | (go_at_call 14; (with_reducible refine (hrc.out _ ?_).mono ?_); (first | exact hBd | exact hBr | exact (‹Bel w5 _ ∧ _›).1); rintro e w8 ⟨rfl, hB9⟩))
      go_wp2
      go_ret
      exact ⟨rfl, hBw5.trans hB9⟩
  · go_wp2
    go_ret
    exact ⟨rfl, hB0.trans (hB1.trans hB2)⟩
theorem CodeEncodes_row (A0 : Option Addr) (c0 : Nat) (l0 : List SFunc) (A1 : Option Addr) (c1 : Nat) (l1 : List SFunc) (w : World) (hG : GlobA w.heap.size w) (H0 : Rd kFunc w A0 l0) (_ : l0.length ≤ c0) (o0 : AProg l0) (H1 : Rd kFunc w A1 l1) (_ : l1.length ≤ c1) (o1 : AProg l1) :
    Calls Tryd.prog 3 #[.agg #[.slice A0 l0.length c0], .agg #[.slice A1 l1.length c1]] w fun e w' => e = .returned (.bool true) ∧ Bel w w' := CodeEncodes_walk A0 A1 c0 c1 l0 l1 w hG H0 H1 ⟨o0⟩ ⟨o1⟩
end Go.Proofs.YtijdmnjkiiemlaaDoor.H
