/- Layer 3, walks: is a program a greater one than is looked at? -/
import Derived.Test.YtijdmnjkiiemlaaDoorCx
import Derived.Test.YtijdmnjkiiemlaaDoorCw7
namespace Go.Proofs.YtijdmnjkiiemlaaDoor.H
open Go.RowKit Go.Proofs.YtijdmnjkiiemlaaDoorW.PrintWords Go.Proofs.YtijdmnjkiiemlaaDoorW.PrintLast
set_option linter.unusedVariables false
set_option linter.unusedSimpArgs false

/-- its arguments are few -/
def fewB (b : SBlock) : Prop := ∀ x ∈ b.f0, x.f6.length ≤ 3000
def fewF (f : SFunc) : Prop := ∀ b ∈ f.f4, fewB b
theorem few_in {l : List SFunc} (h : AProg l) (hf : ∀ f ∈ l, fewF f) : ∀ f ∈ l, FuncIn f := fun f hm => by
  have h1 := h.f0 f hm
  refine ⟨fun a ha => (h1.f0.2 a ha).ok, fun a ha => (h1.f1.2 a ha).ok, h1.f2.ok, h1.f3.ok, fun b hb x hx => ?_⟩
  have h2 := (h1.f4 b hb).f0 x hx
  exact ⟨h2.f0.ok, h2.f1.ok, h2.f2.ok, h2.f3.ok, h2.f4.ok, h2.f5.ok, fun a ha => (h2.f6.2 a ha).ok, hf f hm b hb x hx⟩
theorem mem_lt {α : Type} {l : List α} {p : α → Prop} {k : Nat} (hk : l.length ≤ k) (h : ∀ j (hj : j < l.length), j < k → p l[j]) : ∀ x ∈ l, p x := fun x hx => by
  obtain ⟨j, hj, rfl⟩ := List.mem_iff_getElem.1 hx
  exact h j hj (by omega)
theorem snoc_lt {α : Type} {l : List α} {p : α → Prop} {k : Nat} (hk : k < l.length) (h : ∀ j (hj : j < l.length), j < k → p l[j]) (h1 : p l[k]) : ∀ j (hj : j < l.length), j < k + 1 → p l[j] := fun j hj hjk => by
  rcases Nat.lt_or_ge j k with h2 | h2
  · exact h j hj h2
  · obtain rfl : j = k := by omega
    exact h1

def NotGreat (l : List SFunc) (w : World) (e : Ending) (w' : World) : Prop := ∃ g, e = .returned (.bool g) ∧ Aside0 (g = false → ∀ f ∈ l, fewF f) ∧ Bel w w'
theorem notGreat_mk {l : List SFunc} {w w' : World} {s : Int} (h : s ≤ 3000 → ∀ f ∈ l, fewF f) (hB : Bel w w') : NotGreat l w (.returned (.bool (decide (3000 < s)))) w' := ⟨_, rfl, ⟨fun q => h (by simpa using q)⟩, hB⟩
theorem notGreat_true {l : List SFunc} {w w' : World} (hB : Bel w w') : NotGreat l w (.returned (.bool true)) w' := ⟨_, rfl, ⟨fun q => by cases q⟩, hB⟩
set_option maxRecDepth 100000
set_option maxHeartbeats 4000000 in
theorem Great_raw (A : Option Addr) (c : Nat) (l : List SFunc) (w : World) (HR : Rd kFunc w A l) (hin : Aside0 (AProg l)) :
    Calls Tryd.prog 9 #[.agg #[.slice A l.length c]] w (NotGreat l w) := by
  have hm : l.length ≤ 140737488351232 := by have := hin.out.l0; omega
  have box := heap_alloc_new w (.cells #[.slice A l.length c] 24)
  have hB0 := (Bel.refl w).alloc (.cells #[.slice A l.length c] 24)
  go_enter Tryd.func9, Tryd.ntmps9
  go_upto_region 2 with (fail)
  generalize w.alloc (.cells #[.slice A l.length c] 24) = wa at box hB0 ⊢
  obtain ⟨g, hg⟩ : ∃ g, w.heap.size = g := ⟨_, rfl⟩
  rw [hg] at box ⊢
  have xa : wa.cell? ⟨g, 0, none⟩ = some (.slice A l.length c) := blk_cell box 0
  replace box := Aside0.mk box
  replace hg := Aside0.mk hg
  go_wp2
  go_loopw [3, 4] (fun n i W => ∃ (k : Nat) (s : Int), k ≤ l.length ∧ i = .int .i64 k ∧ n = .int .i64 s ∧ 0 ≤ s ∧ s ≤ 1000000000000000 ∧ Aside0 (s ≤ 3000 → ∀ j (hj : j < l.length), j < k → fewF l[j]) ∧ Bel wa W) (fun _ i _ => l.length - (intOf i).toNat)
  case atStart => exact ⟨0, _, by omega, rfl, rfl, by omega, by omega, ⟨fun _ j _ h => by omega⟩, Bel.refl _⟩
  case round =>
    obtain ⟨k, s, hk, rfl, rfl, hs0, hs1, hok, hB1⟩ := hrel
    have xr : wr.cell? ⟨g, 0, none⟩ = some (.slice A l.length c) := Bel.cell hB1 xa
    by_cases hlt : k < l.length
    · by_cases hs : s ≤ 3000
      · obtain ⟨ad, A0, A1, A4, c0, c1, c4, rfl, h0, h1, h2, h3, h4, hR0, hR1, hR4, hc0, hc1, hc4⟩ := func_at HR k hlt
        have hBr := hB0.trans hB1
        replace h0 := Bel.cell hBr h0
        replace h1 := Bel.cell hBr h1
        replace h2 := Bel.cell hBr h2
        replace h3 := Bel.cell hBr h3
        replace h4 := Bel.cell hBr h4
        have hok2 := hok.out hs
        have hin1 := hin.out.f0 l[k] (List.getElem_mem hlt)
        obtain ⟨x, hx⟩ : ∃ x, Aside0 (l[k] = x) := ⟨_, ⟨rfl⟩⟩
        rw [hx.out] at h0 h1 h2 h3 h4 hR4 hin1
        have hm0 : x.f0.length ≤ 140737488351232 := by have := hin1.f0.1; omega
        have hm1 : x.f1.length ≤ 140737488351232 := by have := hin1.f1.1; omega
        have hm4 : x.f4.length ≤ 140737488351232 := by have := hin1.l4; omega
        have hR4r := hR4.step hBr
        replace hin1 := Aside0.mk hin1
        replace hok2 := Aside0.mk hok2
        clear hR0 hR1 hR4
        go_upto_region 6 with (fail)
        have hBb := (Bel.refl wr).alloc (.cells #[.slice A0 x.f0.length c0, .slice A1 x.f1.length c1, .int .i64 x.f2, .int .i64 x.f3, .slice A4 x.f4.length c4] 43)
        have bx := heap_alloc_new wr (.cells #[.slice A0 x.f0.length c0, .slice A1 x.f1.length c1, .int .i64 x.f2, .int .i64 x.f3, .slice A4 x.f4.length c4] 43)
        generalize wr.alloc (.cells #[.slice A0 x.f0.length c0, .slice A1 x.f1.length c1, .int .i64 x.f2, .int .i64 x.f3, .slice A4 x.f4.length c4] 43) = wb at hBb bx ⊢
        obtain ⟨b, hb⟩ : ∃ b, wr.heap.size = b := ⟨_, rfl⟩
        rw [hb] at bx ⊢
        have y0 : wb.cell? ⟨b, 0, none⟩ = some (.slice A0 x.f0.length c0) := blk_cell bx 0
        have y1 : wb.cell? ⟨b, 1, none⟩ = some (.slice A1 x.f1.length c1) := blk_cell bx 1
        have y4 : wb.cell? ⟨b, 4, none⟩ = some (.slice A4 x.f4.length c4) := blk_cell bx 4
        have hR4b := hR4r.step hBb
        replace bx := Aside0.mk bx
        replace hb := Aside0.mk hb
        clear h0 h1 h2 h3 h4
        go_wp2
        go_loopw [3, 6] (fun n i W => ∃ (m : Nat) (s2 : Int), m ≤ x.f4.length ∧ i = .int .i64 m ∧ n = .int .i64 s2 ∧ 0 ≤ s2 ∧ s2 ≤ 800000000000000 + 3000 ∧ Aside0 (s2 ≤ 3000 → ∀ j (hj : j < x.f4.length), j < m → fewB x.f4[j]) ∧ Bel wb W) (fun _ i _ => x.f4.length - (intOf i).toNat)
        case atStart => exact ⟨0, _, by omega, rfl, rfl, by omega, by omega, ⟨fun _ j _ h => by omega⟩, Bel.refl _⟩
        case round =>
          obtain ⟨m, s2, hmk, rfl, rfl, hs20, hs21, hok3, hB2⟩ := hrel
          clear y0 y1
          replace y4 := Bel.cell hB2 y4
          by_cases hlt2 : m < x.f4.length
          · by_cases hs2 : s2 ≤ 3000
            · obtain ⟨ad4, A6, c6, rfl, h5, hc6, hR6⟩ := block_at (hR4b.step hB2) m hlt2
              have hok4 := hok3.out hs2
              have hin2 := hin1.out.f4 x.f4[m] (List.getElem_mem hlt2)
              obtain ⟨z, hz⟩ : ∃ z, Aside0 (x.f4[m] = z) := ⟨_, ⟨rfl⟩⟩
              rw [hz.out] at h5 hc6 hR6 hin2
              have hm6 : z.f0.length ≤ 140737488351232 := by have := hin2.l0; omega
              replace hin2 := Aside0.mk hin2
              replace hok4 := Aside0.mk hok4
              go_upto_region 11 with (fail)
              go_wp2
              go_loopw [3, 7] (fun n i W => ∃ (q : Nat) (s3 : Int), q ≤ z.f0.length ∧ i = .int .i64 q ∧ n = .int .i64 s3 ∧ 0 ≤ s3 ∧ s3 ≤ 800000000000000 + 3000 ∧ Aside0 (s3 ≤ 3000 → ∀ j (hj : j < z.f0.length), j < q → (z.f0[j]).f6.length ≤ 3000) ∧ wr = W) (fun _ i _ => z.f0.length - (intOf i).toNat)
              case atStart => exact ⟨0, _, by omega, rfl, rfl, by omega, by omega, ⟨fun _ j _ h => by omega⟩, rfl⟩
              case round =>
                obtain ⟨q, s3, hq, rfl, rfl, hs30, hs31, hok5, rfl⟩ := hrel
                by_cases hlt3 : q < z.f0.length
                · by_cases hs3 : s3 ≤ 3000
                  · obtain ⟨ad6, A7, c7, rfl, i0, i1, i2, i3, i4, i5, i6, hc7, hR7⟩ := ins_at hR6 q hlt3
                    have hok6 := hok5.out hs3
                    have hin3 := hin2.out.f0 z.f0[q] (List.getElem_mem hlt3)
                    have hm7 : (z.f0[q]).f6.length ≤ 140737488351232 := by have := hin3.f6.1; omega
                    have hsn := Aside0.mk (fun h => snoc_lt (p := fun x => x.f6.length ≤ 3000) hlt3 hok6 h)
                    obtain ⟨y, hy⟩ : ∃ y, Aside0 (z.f0[q] = y) := ⟨_, ⟨rfl⟩⟩
                    rw [hy.out] at i6 hm7 hsn
                    clear hin3 hok6 i0 i1 i2 i3 i4 i5
                    go_wp2
                    go_roundw
                    case rel => exact ⟨q + 1, _, by omega, by go_num, rfl, by omega, by omega, ⟨fun h => hsn.out (by omega)⟩, by trivial⟩
                    case measure => simp [intOf]; omega
                  · go_wp2
                    go_roundw
                    case rel => exact ⟨m + 1, _, by omega, by go_num, rfl, by omega, by omega, ⟨fun h => absurd h hs3⟩, hB2⟩
                    case measure => simp [intOf]; omega
                · have hall := Aside0.mk (fun h => snoc_lt (p := fewB) hlt2 hok4.out (by rw [hz.out]; exact mem_lt (by omega) (hok5.out h)))
                  go_wp2
                  go_roundw
                  case rel => exact ⟨m + 1, _, by omega, by go_num, rfl, by omega, by omega, hall, hB2⟩
                  case measure => simp [intOf]; omega
            · go_wp2
              go_roundw
              case rel => exact ⟨k + 1, _, by omega, by go_num, rfl, by omega, by omega, ⟨fun h => absurd h hs2⟩, hB1.trans (hBb.trans hB2)⟩
              case measure => simp [intOf]; omega
          · have hall := Aside0.mk (fun h => snoc_lt (p := fewF) hlt hok2.out (by rw [hx.out]; exact mem_lt (by omega) (hok3.out h)))
            go_wp2
            go_roundw
            case rel => exact ⟨k + 1, _, by omega, by go_num, rfl, by omega, by omega, hall, hB1.trans (hBb.trans hB2)⟩
            case measure => simp [intOf]; omega
      · go_wp2
        go_ret
        exact notGreat_true (hB0.trans hB1)
    · go_wp2
      go_ret
      exact notGreat_mk (fun h => mem_lt (by omega) (hok.out h)) (hB0.trans hB1)
theorem Great_any (A : Option Addr) (c : Nat) (l : List SFunc) (w : World) (HR : Rd kFunc w A l) (hin : Aside0 (AProg l)) :
    Calls Tryd.prog 9 #[.agg #[.slice A l.length c]] w fun e w' => ∃ g, e = .returned (.bool g) ∧ Aside0 (g = false → ∀ f ∈ l, fewF f) ∧ Bel w w' := Great_raw A c l w HR hin
end Go.Proofs.YtijdmnjkiiemlaaDoor.H
