/- What the listed variable gives: the table of parts, as it is laid. -/
import Derived.Test.YtceibabhmomfiaaDoorRows
import Derived.Test.YtceibabhmomfiaaDoorPr3
import Derived.ProofKit
import Derived.LaidMore
import Derived.OpenShut
import Derived.Stop.Joined
namespace Go.Proofs.YtceibabhmomfiaaDoor.H
open Go.ChangeShapes Go.WideShapes Go.ChangeAt Go.WideElems Go.RowKit
set_option linter.unusedVariables false
set_option linter.unusedSimpArgs false
set_option maxRecDepth 100000

abbrev laidParts {H : Type} : List (String × DataW H) := [("math/bits.deBruijn32tab", Rows.laid_math_bits_deBruijn32tab)]
theorem gParts : Tryd.prog.globalNamed "math/bits.deBruijn32tab" = some 0 := by kernel_rfl
theorem tParts : (Tryd.prog.globals[0]?).map (·.type) = some 130 := by kernel_rfl
theorem door_met (os : Os) (args : Array Value) : laidMetH Tryd.prog laidParts ((World.doorLaid Tryd.prog 4000 os).forCall (fun _ _ => 0) ⟨#[], args, []⟩).memory :=
  laidMetH_of_parts3 (fuel := 8) (laidMet_of_run' 8 (by kernel_rfl) (by kernel_rfl)) (by kernel_rfl) (by kernel_rfl)
theorem laid_rows : (Rows.laid_math_bits_deBruijn32tab : DataW Unit) = .agg ((List.range 32).map fun i => .lit (.int .u8 (dbN i))) := by kernel_rfl
theorem of_laid {W : World} (h : laidMetH Tryd.prog laidParts W) : GlobA W.heap.size W := by
  rw [MakeChecks.laidMetH_plain _ _ _ (by kernel_rfl)] at h
  obtain ⟨ps, ⟨g0, t0, cs0, f0, p0, q0, hg0, ht0, hv0, hd0, _, _⟩, _, _⟩ := h
  obtain rfl := Option.some.inj (gParts.symm.trans hg0)
  obtain rfl := Option.some.inj (tParts.symm.trans ht0)
  obtain ⟨xs, m1, rfl, hx1, hlen, hn3, hel⟩ := DataW.trod_array Tryd.underlying130 hd0
  have c1 : Tryd.prog.cellsOf 5 = 1 := by kernel_rfl
  rw [laid_rows] at hx1
  simp only [Prod.mk.injEq, DataW.agg.injEq] at hx1
  have hcell : ∀ i : Nat, i < 32 → W.cell? ⟨0, i, none⟩ = some (.int .u8 (dbN i)) := by
    intro i hi
    have h1 := hel i hi
    rw [c1, Nat.mul_one] at h1
    have h2 : xs[i]? = some (xs[i]'(by omega)) := List.getElem?_eq_getElem (by omega)
    rw [h2] at h1
    obtain ⟨n, e1, e2, _⟩ := DataW.trod_int Tryd.underlying5 h1
    have h3 : (xs[i]'(by omega)).1 = .lit (.int .u8 (dbN i)) := by
      have q : ((List.range 32).map (fun i => (DataW.lit (.int .u8 (dbN i)) : DataW Unit)))[i]? = some (.lit (.int .u8 (dbN i))) := by rw [List.getElem?_map, List.getElem?_range hi]; rfl
      rw [hx1.1, List.getElem?_map, h2] at q
      exact Option.some.inj q
    rw [e2] at h3
    have h4 : n = (dbN i : Int) := by injection h3 with h3; injection h3
    rw [World.var?_cell hg0 hv0 i]
    have h6 : cs0.toList[i]? = some (.int .u8 n) := by
      have h7 : (cs0.toList.drop i).head? = some (.int .u8 n) := by
        rw [List.take_one] at e1
        cases hh : (cs0.toList.drop i).head? with
        | none => rw [hh] at e1; simp at e1
        | some v => rw [hh] at e1; simpa using e1
      rwa [List.head?_drop] at h7
    rw [Array.getElem?_toList] at h6
    rw [h6, h4]
  have hpos : 0 < W.heap.size := by
    refine Nat.pos_of_ne_zero fun e => ?_
    have hc := hcell 0 (by decide)
    have hn : W.heap[0]? = none := by rw [Array.getElem?_eq_none]; omega
    simp [World.cell?, hn] at hc
  exact ⟨⟨hpos, hcell⟩⟩
end Go.Proofs.YtceibabhmomfiaaDoor.H
