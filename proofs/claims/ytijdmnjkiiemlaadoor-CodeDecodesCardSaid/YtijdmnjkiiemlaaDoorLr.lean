/- What the listed variable gives: the table of parts, as it is laid. -/
import Derived.Test.YtijdmnjkiiemlaaDoorRows
import Derived.Test.YtijdmnjkiiemlaaDoorCw1
import Derived.ProofKit
import Derived.LaidMore
import Derived.OpenShut
import Derived.Stop.Joined
namespace Go.Proofs.YtijdmnjkiiemlaaDoor.H
open Go.ChangeShapes Go.WideShapes Go.ChangeAt Go.WideElems Go.RowKit
set_option linter.unusedVariables false
set_option linter.unusedSimpArgs false
set_option maxRecDepth 100000

abbrev laidParts {H : Type} : List (String × DataW H) := [("portolan/code.parts", Rows.laid_portolan_code_parts)]
theorem gParts : Tryd.prog.globalNamed "portolan/code.parts" = some 0 := by kernel_rfl
theorem tParts : (Tryd.prog.globals[0]?).map (·.type) = some 76 := by kernel_rfl
theorem door_met (os : Os) (args : Array Value) : laidMetH Tryd.prog laidParts ((World.doorLaid Tryd.prog 4000 os).forCall (fun _ _ => 0) ⟨#[], args, []⟩).memory :=
  laidMetH_of_parts3 (fuel := 8) (laidMet_of_run' 8 (by kernel_rfl) (by kernel_rfl)) (by kernel_rfl) (by kernel_rfl)
/-- the letters of operation i, as the datum has them -/
def laidRow (i : Nat) : List UInt8 := (partsN i).map fun x => UInt8.ofNat x.toNat
theorem laid_rows : (Rows.laid_portolan_code_parts : DataW Unit) = .agg ((List.range 24).map fun i => .lit (.string (laidRow i))) := by
  have e : (List.range 24).map laidRow = [[], [68, 110], [68, 65], [68, 65, 66], [68, 65, 66], [68, 65, 66], [68, 65, 66], [68], [68, 65], [68, 65, 66], [68, 78, 77], [68, 65, 78], [65, 78, 66], [68, 65, 78], [65, 78, 66], [68, 65, 78], [68, 65, 110], [68, 65], [65, 66], [68, 78, 76], [65], [78], [65, 78, 77], [65]] := by kernel_rfl
  have e2 : (List.range 24).map (fun i => (DataW.lit (.string (laidRow i)) : DataW Unit)) = ((List.range 24).map laidRow).map fun s => DataW.lit (.string s) := by rw [List.map_map]; rfl
  rw [e2, e]
  rfl
theorem of_laid {W : World} (h : laidMetH Tryd.prog laidParts W) : GlobA W.heap.size W := by
  rw [MakeChecks.laidMetH_plain _ _ _ (by kernel_rfl)] at h
  obtain ⟨ps, ⟨g0, t0, cs0, f0, p0, q0, hg0, ht0, hv0, hd0, _, _⟩, _, _⟩ := h
  obtain rfl := Option.some.inj (gParts.symm.trans hg0)
  obtain rfl := Option.some.inj (tParts.symm.trans ht0)
  obtain ⟨xs, m1, rfl, hx1, hlen, hn3, hel⟩ := DataW.trod_array Tryd.underlying76 hd0
  have c1 : Tryd.prog.cellsOf 9 = 1 := by kernel_rfl
  rw [laid_rows] at hx1
  simp only [Prod.mk.injEq, DataW.agg.injEq] at hx1
  have hcell : ∀ i : Nat, i < 24 → W.cell? ⟨0, i, none⟩ = some (.string (strOf (partsN i))) := by
    intro i hi
    have h1 := hel i hi
    rw [c1, Nat.mul_one] at h1
    have h2 : xs[i]? = some (xs[i]'(by omega)) := List.getElem?_eq_getElem (by omega)
    rw [h2] at h1
    obtain ⟨s, e1, e2, _⟩ := DataW.trod_string Tryd.underlying9 h1
    have h3 : (xs[i]'(by omega)).1 = .lit (.string (laidRow i)) := by
      have q : ((List.range 24).map (fun i => (DataW.lit (.string (laidRow i)) : DataW Unit)))[i]? = some (.lit (.string (laidRow i))) := by rw [List.getElem?_map, List.getElem?_range hi]; rfl
      rw [hx1.1, List.getElem?_map, h2] at q
      exact Option.some.inj q
    rw [e2] at h3
    have h4 : s.data.toList = laidRow i := by injection h3 with h3; injection h3
    have h5 : s = strOf (partsN i) := by
      obtain ⟨d⟩ := s
      unfold strOf
      congr 1
      rw [← Array.toList_inj]
      simpa [laidRow] using h4
    rw [World.var?_cell hg0 hv0 i]
    have h6 : cs0.toList[i]? = some (.string s) := by
      have h7 : (cs0.toList.drop i).head? = some (.string s) := by
        rw [List.take_one] at e1
        cases hh : (cs0.toList.drop i).head? with
        | none => rw [hh] at e1; simp at e1
        | some v => rw [hh] at e1; simpa using e1
      rwa [List.head?_drop] at h7
    rw [Array.getElem?_toList] at h6
    rw [h6, h5]
  refine ⟨⟨?_, hcell⟩⟩
  refine Nat.pos_of_ne_zero fun e => ?_
  have hc := hcell 0 (by decide)
  have hn : W.heap[0]? = none := by rw [Array.getElem?_eq_none]; omega
  simp [World.cell?, hn] at hc
end Go.Proofs.YtijdmnjkiiemlaaDoor.H
