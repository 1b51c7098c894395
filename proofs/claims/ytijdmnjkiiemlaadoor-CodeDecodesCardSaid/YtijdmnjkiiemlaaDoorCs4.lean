/- Layer 3, walks: the same programs, as the document tells it. -/
import Derived.Test.YtijdmnjkiiemlaaDoorCs3
namespace Go.Proofs.YtijdmnjkiiemlaaDoor.H
open Go.RowKit Go.Proofs.YtijdmnjkiiemlaaDoorW.PrintWords Go.Proofs.YtijdmnjkiiemlaaDoorW.PrintLast
set_option linter.unusedVariables false
set_option linter.unusedSimpArgs false

set_option maxRecDepth 100000
set_option maxHeartbeats 8000000 in
theorem rSame_any (A B : Option Addr) (c d : Nat) (l m : List SFunc) (w : World) (P : Prop) (hP : Aside0 (P ↔ l = m)) (HA : Rd kFunc w A l) (HB : Rd kFunc w B m) :
    Calls Tryd.prog 14 #[.agg #[.slice A l.length c], .agg #[.slice B m.length d]] w (SameP P w) := by
  have hm := HA.len
  have hm1 := HB.len
  have hB0 := ((Bel.refl w).alloc (.cells #[.slice A l.length c] 24)).alloc (.cells #[.slice B m.length d] 24)
  have h0 : ((w.alloc (.cells #[.slice A l.length c] 24)).alloc (.cells #[.slice B m.length d] 24)).heap[w.heap.size]? = some (.cells #[.slice A l.length c] 24 (0, 0)) := (((Bel.refl _).alloc (.cells #[.slice B m.length d] 24)).out.block _ (blk_lt (heap_alloc_new w _))).trans (heap_alloc_new w _)
  have h1 : ((w.alloc (.cells #[.slice A l.length c] 24)).alloc (.cells #[.slice B m.length d] 24)).heap[w.heap.size + 1]? = some (.cells #[.slice B m.length d] 24 (0, 0)) := by rw [sz1 w (.cells #[.slice A l.length c] 24)]; exact heap_alloc_new _ _
  go_enter Tryd.func14, Tryd.ntmps14
  go_upto_region 1 with (fail)
  generalize (w.alloc (.cells #[.slice A l.length c] 24)).alloc (.cells #[.slice B m.length d] 24) = wa at hB0 h0 h1 ⊢
  obtain ⟨b0, hb0⟩ : ∃ b, w.heap.size = b := ⟨_, rfl⟩
  obtain ⟨b1, hb1⟩ : ∃ b, w.heap.size + 1 = b := ⟨_, rfl⟩
  rw [hb0] at h0
  rw [hb1] at h1
  rw [hb0] at hb1 ⊢
  rw [hb1]
  replace hb0 := Aside0.mk hb0
  replace hb1 := Aside0.mk hb1
  have z := Aside0.mk (fun W (k : Bel wa W) => And.intro (show W.cell? ⟨b0, 0, none⟩ = some (.slice A l.length c) from Bel.cell k (blk_cell h0 0)) (show W.cell? ⟨b1, 0, none⟩ = some (.slice B m.length d) from Bel.cell k (blk_cell h1 0)))
  clear h0 h1
  obtain ⟨z0, z1⟩ := z.out wa (Bel.refl _)
  by_cases hl : l.length = m.length
  case neg =>
    have c4 : ((l.length : Int) != (m.length : Int)) = true := by simp; omega
    have c5 : (l.length == m.length) = false := by simpa using hl
    have hnp : Aside0 (¬ P) := ⟨fun h => hl (by rw [hP.out.1 h])⟩
    clear hl
    go_wp2
    go_ret
    exact SameP.mk0 hnp.out hB0
  have c4 : ((l.length : Int) != (m.length : Int)) = false := by simp; omega
  have c5 : (l.length == m.length) = true := by simpa using hl
  replace hl := Aside0.mk hl
  go_upto_region 3 with (fail)
  clear z0 z1
  go_wp2
  go_loopw [5] (fun i W => ∃ k : Nat, k ≤ l.length ∧ i = .int .i64 k ∧ Aside0 (∀ j (hj : j < l.length) (hj1 : j < m.length), j < k → l[j] = m[j]) ∧ Bel wa W) (fun i _ => l.length - (intOf i).toNat)
  case atStart => exact ⟨0, by omega, rfl, ⟨fun j _ _ h => by omega⟩, Bel.refl _⟩
  case round =>
    obtain ⟨k, hk, rfl, hs, hB⟩ := hrel
    obtain ⟨z0, z1⟩ := z.out wr hB
    have hBw := hB0.trans hB
    by_cases hlt : k < l.length
    · have hlt1 : k < m.length := by have := hl.out; omega
      obtain ⟨ad, A0', A1', A4', c0', c1', c4', rfl, h0, h1, h2, h3, h4, hR0, hR1, hR4, hc0, hc1, hc4⟩ := func_at (HA.step hBw) k hlt
      obtain ⟨ad', B0', B1', B4', d0', d1', d4', rfl, g0, g1, g2, g3, g4, gR0, gR1, gR4, gc0, gc1, gc4⟩ := func_at (HB.step hBw) k hlt1
      have hne := Aside0.mk (fun (h : ¬ l[k] = m[k]) (hp : P) => h (by have e := hP.out.1 hp; simp only [e]))
      have hsn := Aside0.mk (fun h => lists_snoc hlt hlt1 hs.out h)
      obtain ⟨x, hx⟩ : ∃ x, Aside0 (l[k] = x) := ⟨_, ⟨rfl⟩⟩
      obtain ⟨y, hy⟩ : ∃ y, Aside0 (m[k] = y) := ⟨_, ⟨rfl⟩⟩
      rw [hx.out] at h0 h1 h2 h3 h4 hR0 hR1 hR4 hc0 hc1 hc4
      rw [hy.out] at g0 g1 g2 g3 g4 gR0 gR1 gR4 gc0 gc1 gc4
      rw [hx.out, hy.out] at hne hsn
      obtain ⟨Q, hQ⟩ : ∃ Q : Prop, Aside0 (Q ↔ x = y) := ⟨_, ⟨Iff.rfl⟩⟩
      have hcall := Aside0.mk (fun W (q : Bel wr W) => rFunc_any x y A0' A1' A4' B0' B1' B4' c0' c1' c4' d0' d1' d4' W Q hQ (hR0.step q) (hR1.step q) (hR4.step q) (gR0.step q) (gR1.step q) (gR4.step q))
      unfold funcV at hcall
      clear hR0 hR1 hR4 hc0 hc1 hc4 gR0 gR1 gR4 gc0 gc1 gc4
      by_cases he : x = y
      · have hyes := Aside0.mk (fun W (q : Bel wr W) => (hcall.out W q).mono (fun e w' h => h.yes (hQ.out.2 he)))
        have hs3 := Aside0.mk (hsn.out he)
        clear hcall he hne hsn
        go_upto_region 6 with (fail)
        go_region_law (refine goes_ (f := 34) Tryd.func34 (by kernel_rfl) rfl #[.agg #[.slice A0' x.f0.length c0', .slice A1' x.f1.length c1', .int .i64 x.f2, .int .i64 x.f3, .slice A4' x.f4.length c4'], .agg #[.slice B0' y.f0.length d0', .slice B1' y.f1.length d1', .int .i64 y.f2, .int .i64 y.f3, .slice B4' y.f4.length d4']] rfl rfl rfl (by simp only [List.map_toArray, List.map_cons, List.map_nil]; rfl) ?_; refine (hyes.out _ ?_).mono ?_; (repeat (first | exact Bel.refl _ | refine Bel.drewN ?_ _)); rintro ex w6 ⟨rfl, hB6'⟩; refine ⟨_, rfl, ?_⟩; have hB6 : Bel wr w6 := (Bel.trans (Bel.drewN (Bel.refl wr) _) hB6'))
        all_goals
          go_wp2
          go_roundw
          case rel => exact ⟨k + 1, by omega, by go_num, hs3, hB.trans hB6⟩
          case measure => simp [intOf]; omega
      · have hno := Aside0.mk (fun W (q : Bel wr W) => (hcall.out W q).mono (fun e w' h => h.no (fun q => he (hQ.out.1 q))))
        have hnp := Aside0.mk (hne.out he)
        clear hcall he hne hsn
        go_upto_region 6 with (fail)
        go_region_law (refine goes_ (f := 34) Tryd.func34 (by kernel_rfl) rfl #[.agg #[.slice A0' x.f0.length c0', .slice A1' x.f1.length c1', .int .i64 x.f2, .int .i64 x.f3, .slice A4' x.f4.length c4'], .agg #[.slice B0' y.f0.length d0', .slice B1' y.f1.length d1', .int .i64 y.f2, .int .i64 y.f3, .slice B4' y.f4.length d4']] rfl rfl rfl (by simp only [List.map_toArray, List.map_cons, List.map_nil]; rfl) ?_; refine (hno.out _ ?_).mono ?_; (repeat (first | exact Bel.refl _ | refine Bel.drewN ?_ _)); rintro ex w6 ⟨rfl, hB6'⟩; refine ⟨_, rfl, ?_⟩; have hB6 : Bel wr w6 := (Bel.trans (Bel.drewN (Bel.refl wr) _) hB6'))
        all_goals
          go_wp2
          go_ret
          exact SameP.mk0 hnp.out (hBw.trans hB6)
    · have hall := Aside0.mk (hP.out.2 (lists_eq hl.out (fun j hj hj1 _ => hs.out j hj hj1 (by omega))))
      go_wp2
      go_ret
      exact SameP.mk1 hall.out hBw
end Go.Proofs.YtijdmnjkiiemlaaDoor.H
