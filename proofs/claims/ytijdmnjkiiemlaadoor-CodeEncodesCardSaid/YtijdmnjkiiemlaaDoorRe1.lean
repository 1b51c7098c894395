/- Layer 3, the reference: may a program's counts be? -/
import Derived.Test.YtijdmnjkiiemlaaDoorCg
import Derived.Test.YtijdmnjkiiemlaaDoorCs1
namespace Go.Proofs.YtijdmnjkiiemlaaDoor.H
open Go.RowKit Go.Proofs.YtijdmnjkiiemlaaDoorW.PrintWords Go.Proofs.YtijdmnjkiiemlaaDoorW.PrintLast
set_option linter.unusedVariables false
set_option linter.unusedSimpArgs false

theorem lim_iff (l : List SFunc) : limB l = false ↔ (1 ≤ l.length ∧ l.length ≤ 8) ∧ ∀ f ∈ l, countsB f = true := by
  unfold limB
  simp only [Bool.or_eq_false_iff, decide_eq_false_iff_not, List.any_eq_false, Bool.not_eq_true', Bool.not_eq_false]
  constructor
  · rintro ⟨⟨h1, h2⟩, h3⟩; exact ⟨⟨by omega, by omega⟩, h3⟩
  · rintro ⟨⟨h1, h2⟩, h3⟩; exact ⟨⟨by omega, by omega⟩, h3⟩
theorem counts_iff (f : SFunc) : countsB f = true ↔ f.f0.length ≤ 48 ∧ f.f4.length ≤ 40 ∧ ∀ b ∈ f.f4, blockB b = true := by
  unfold countsB; simp
theorem block_iff (b : SBlock) : blockB b = true ↔ b.f0.length ≤ 40 ∧ ∀ x ∈ b.f0, longB x = false := by
  unfold blockB; simp
set_option maxRecDepth 100000
set_option maxHeartbeats 8000000 in
theorem Counts_ref (A : Option Addr) (c : Nat) (l : List SFunc) (w : World) (P : Prop) (hP : Aside0 (P ↔ limB l = false)) (HR : Rd kFunc w A l) :
    Calls Tryd.prog 24 #[.agg #[.slice A l.length c]] w (SameP P w) := by
  have hm := HR.len
  have box := heap_alloc_new w (.cells #[.slice A l.length c] 24)
  have hB0 := (Bel.refl w).alloc (.cells #[.slice A l.length c] 24)
  have hP2 := Aside0.mk (hP.out.trans (lim_iff l))
  go_enter Tryd.func24, Tryd.ntmps24
  go_upto_region 1 with (fail)
  generalize w.alloc (.cells #[.slice A l.length c] 24) = wa at box hB0 ⊢
  obtain ⟨g, hg⟩ : ∃ g, w.heap.size = g := ⟨_, rfl⟩
  rw [hg] at box ⊢
  have xa : wa.cell? ⟨g, 0, none⟩ = some (.slice A l.length c) := blk_cell box 0
  replace box := Aside0.mk box
  replace hg := Aside0.mk hg
  by_cases h1 : l.length < 1
  · have hn : Aside0 (¬ P) := ⟨fun h => by have := (hP2.out.1 h).1; omega⟩
    go_wp2
    go_ret
    exact SameP.mk0 hn.out hB0
  by_cases h2 : 8 < l.length
  · have hn : Aside0 (¬ P) := ⟨fun h => by have := (hP2.out.1 h).1; omega⟩
    go_wp2
    go_ret
    exact SameP.mk0 hn.out hB0
  go_wp2
  go_loopw [3] (fun i W => ∃ (k : Nat), k ≤ l.length ∧ i = .int .i64 k ∧ Aside0 (∀ j (hj : j < l.length), j < k → countsB l[j] = true) ∧ Bel wa W) (fun i _ => l.length - (intOf i).toNat)
  case atStart => exact ⟨0, by omega, rfl, ⟨fun j _ h => by omega⟩, Bel.refl _⟩
  case round =>
    obtain ⟨k, hk, rfl, hok, hB1⟩ := hrel
    have xr : wr.cell? ⟨g, 0, none⟩ = some (.slice A l.length c) := Bel.cell hB1 xa
    clear xa
    by_cases hlt : k < l.length
    · obtain ⟨ad, A0, A1, A4, c0, c1, c4, rfl, h0, h1', h2', h3, h4, hR0, hR1, hR4, hc0, hc1, hc4⟩ := func_at HR k hlt
      have hBr := hB0.trans hB1
      replace h0 := Bel.cell hBr h0
      replace h1' := Bel.cell hBr h1'
      replace h2' := Bel.cell hBr h2'
      replace h3 := Bel.cell hBr h3
      replace h4 := Bel.cell hBr h4
      have hsn := Aside0.mk (fun h => snoc_lt (p := fun f => countsB f = true) hlt hok.out h)
      have hno := Aside0.mk (fun (h : ¬ countsB l[k] = true) (hp : P) => h ((hP2.out.1 hp).2 _ (List.getElem_mem hlt)))
      obtain ⟨x, hx⟩ : ∃ x, Aside0 (l[k] = x) := ⟨_, ⟨rfl⟩⟩
      rw [hx.out] at h0 h1' h2' h3 h4 hR0 hR1 hR4 hsn hno
      have hm0 := hR0.len
      have hm4 := hR4.len
      have hR4r := hR4.step hBr
      clear hR0 hR1 hR4
      go_upto_region 7 with (fail)
      have hBb := (Bel.refl wr).alloc (.cells #[.slice A0 x.f0.length c0, .slice A1 x.f1.length c1, .int .i64 x.f2, .int .i64 x.f3, .slice A4 x.f4.length c4] 43)
      have bx := heap_alloc_new wr (.cells #[.slice A0 x.f0.length c0, .slice A1 x.f1.length c1, .int .i64 x.f2, .int .i64 x.f3, .slice A4 x.f4.length c4] 43)
      generalize wr.alloc (.cells #[.slice A0 x.f0.length c0, .slice A1 x.f1.length c1, .int .i64 x.f2, .int .i64 x.f3, .slice A4 x.f4.length c4] 43) = wb at hBb bx ⊢
      obtain ⟨b, hb⟩ : ∃ b, wr.heap.size = b := ⟨_, rfl⟩
      rw [hb] at bx ⊢
      have y0 : wb.cell? ⟨b, 0, none⟩ = some (.slice A0 x.f0.length c0) := blk_cell bx 0
      have y4 : wb.cell? ⟨b, 4, none⟩ = some (.slice A4 x.f4.length c4) := blk_cell bx 4
      have hR4b := hR4r.step hBb
      have hBw := hBr.trans hBb
      replace bx := Aside0.mk bx
      replace hb := Aside0.mk hb
      clear h0 h1' h2' h3 h4
      by_cases q1 : 48 < x.f0.length
      · have hn : Aside0 (¬ P) := ⟨hno.out (fun h => by have := (counts_iff x).1 h; omega)⟩
        go_wp2
        go_ret
        exact SameP.mk0 hn.out hBw
      by_cases q2 : 40 < x.f4.length
      · have hn : Aside0 (¬ P) := ⟨hno.out (fun h => by have := (counts_iff x).1 h; omega)⟩
        go_wp2
        go_ret
        exact SameP.mk0 hn.out hBw
      go_wp2
      go_loopw [5] (fun i W => ∃ (m : Nat), m ≤ x.f4.length ∧ i = .int .i64 m ∧ Aside0 (∀ j (hj : j < x.f4.length), j < m → blockB x.f4[j] = true) ∧ Bel wb W) (fun i _ => x.f4.length - (intOf i).toNat)
      case atStart => exact ⟨0, by omega, rfl, ⟨fun j _ h => by omega⟩, Bel.refl _⟩
      case round =>
        obtain ⟨m, hmk, rfl, hok3, hB2⟩ := hrel
        clear y0
        replace y4 := Bel.cell hB2 y4
        by_cases hlt2 : m < x.f4.length
        · obtain ⟨ad4, A6, c6, rfl, h5, hc6, hR6⟩ := block_at (hR4b.step hB2) m hlt2
          have hsn2 := Aside0.mk (fun h => snoc_lt (p := fun b => blockB b = true) hlt2 hok3.out h)
          have hno2 := Aside0.mk (fun (h : ¬ blockB x.f4[m] = true) => hno.out (fun q => h (((counts_iff x).1 q).2.2 _ (List.getElem_mem hlt2))))
          obtain ⟨z, hz⟩ : ∃ z, Aside0 (x.f4[m] = z) := ⟨_, ⟨rfl⟩⟩
          rw [hz.out] at h5 hc6 hR6 hsn2 hno2
          have hm6 := hR6.len
          by_cases q3 : 40 < z.f0.length
          · have hn : Aside0 (¬ P) := ⟨hno2.out (fun h => by have := (block_iff z).1 h; omega)⟩
            go_wp2
            go_ret
            exact SameP.mk0 hn.out (hBw.trans hB2)
          go_upto_region 14 with (fail)
          obtain ⟨W0, hW0⟩ : ∃ W, W = wr := ⟨_, rfl⟩
          have h5w := Aside0.mk (fun W (k : Bel W0 W) => Bel.cell k (show W0.cell? (ad4.add m) = _ from hW0 ▸ h5))
          have y4w := Aside0.mk (fun W (k : Bel W0 W) => Bel.cell k (show W0.cell? ⟨b, 4, none⟩ = _ from hW0 ▸ y4))
          have hR6w : Rd kIns W0 A6 z.f0 := hW0 ▸ hR6
          have hB2w : Bel wb W0 := hW0 ▸ hB2
          rw [← hW0]
          clear hW0 h5 y4 hR6 hB2
          go_wp2
          go_loopw [6] (fun i W => ∃ (q : Nat), q ≤ z.f0.length ∧ i = .int .i64 q ∧ Aside0 (∀ j (hj : j < z.f0.length), j < q → longB z.f0[j] = false) ∧ Bel W0 W) (fun i _ => z.f0.length - (intOf i).toNat)
          case atStart => exact ⟨0, by omega, rfl, ⟨fun j _ h => by omega⟩, Bel.refl _⟩
          case round =>
            obtain ⟨q, hq, rfl, hok5, hB3⟩ := hrel
            have h5 := h5w.out wr hB3
            have y4 := y4w.out wr hB3
            by_cases hlt3 : q < z.f0.length
            · obtain ⟨ad6, A7, c7, rfl, i0, i1, i2, i3, i4, i5, i6, hc7, hR7⟩ := ins_at (hR6w.step hB3) q hlt3
              have hm7 := hR7.len
              have hsn3 := Aside0.mk (fun h => snoc_lt (p := fun x => longB x = false) hlt3 hok5.out h)
              have hno3 := Aside0.mk (fun (h : ¬ longB z.f0[q] = false) => hno2.out (fun t => h (((block_iff z).1 t).2 _ (List.getElem_mem hlt3))))
              obtain ⟨y, hy⟩ : ∃ y, Aside0 (z.f0[q] = y) := ⟨_, ⟨rfl⟩⟩
              rw [hy.out] at i0 i1 i2 i3 i4 i5 i6 hm7 hsn3 hno3
              clear hR7 hc7
              by_cases hop : y.f0 = 19
              · have b1 : (y.f0 == 19) = true := by simpa using hop
                by_cases hfew : 4 < y.f6.length
                · have hn : Aside0 (¬ P) := ⟨hno3.out (by unfold longB; rw [b1, decide_eq_true hfew]; simp)⟩
                  clear hop
                  go_wp2
                  go_ret
                  exact SameP.mk0 hn.out ((hBw.trans hB2w).trans (hB3.alloc _))
                · have hnext := Aside0.mk (hsn3.out (by unfold longB; rw [decide_eq_false hfew]; simp))
                  clear hop
                  go_wp2
                  go_roundw
                  case rel => exact ⟨q + 1, by omega, by go_num, hnext, hB3.alloc _⟩
                  case measure => simp [intOf]; omega
              · have b1 : (y.f0 == 19) = false := by simpa using hop
                have hnext := Aside0.mk (hsn3.out (by unfold longB; rw [b1]; rfl))
                clear hop
                go_wp2
                go_roundw
                case rel => exact ⟨q + 1, by omega, by go_num, hnext, hB3.alloc _⟩
                case measure => simp [intOf]; omega
            · have hall := Aside0.mk (hsn2.out ((block_iff z).2 ⟨by omega, mem_lt (by omega) hok5.out⟩))
              go_wp2
              go_roundw
              case rel => exact ⟨m + 1, by omega, by go_num, hall, hB2w.trans hB3⟩
              case measure => simp [intOf]; omega
        · have hall := Aside0.mk (hsn.out ((counts_iff x).2 ⟨by omega, by omega, mem_lt (by omega) hok3.out⟩))
          go_wp2
          go_roundw
          case rel => exact ⟨k + 1, by omega, by go_num, hall, hB1.trans (hBb.trans hB2)⟩
          case measure => simp [intOf]; omega
    · have hall := Aside0.mk (hP2.out.2 ⟨⟨by omega, by omega⟩, mem_lt (by omega) hok.out⟩)
      go_wp2
      go_ret
      exact SameP.mk1 hall.out (hB0.trans hB1)
end Go.Proofs.YtijdmnjkiiemlaaDoor.H
