/- The plain side of layer 3: the parts of an operation. -/
import Derived.Test.YtijdmnjkiiemlaaDoorCk
namespace Go.Proofs.YtijdmnjkiiemlaaDoor.H
open Go Go.RowKit Go.Proofs.YtijdmnjkiiemlaaDoorW.PrintWords
set_option linter.unusedVariables false

/-- the parts of each operation, as letters -/
def partsT : List (List Int) := [[], [68, 110], [68, 65], [68, 65, 66], [68, 65, 66], [68, 65, 66], [68, 65, 66], [68], [68, 65], [68, 65, 66], [68, 78, 77], [68, 65, 78], [65, 78, 66], [68, 65, 78], [65, 78, 66], [68, 65, 78], [68, 65, 110], [68, 65], [65, 66], [68, 78, 76], [65], [78], [65, 78, 77], [65]]
def partsN (k : Nat) : List Int := partsT.getD k []
def partsL (op : Int) : List Int := if 0 ≤ op ∧ op < 24 then partsN op.toNat else []
def strOf (l : List Int) : ByteArray := ⟨(l.map fun x => UInt8.ofNat x.toNat).toArray⟩
def partsB (op : Int) : ByteArray := strOf (partsL op)
theorem strOf_size (l : List Int) : (strOf l).size = l.length := by simp [strOf, ByteArray.size]
theorem strOf_at (l : List Int) (k : Nat) (h : k < (strOf l).size) (hb : 0 ≤ rd l (k : Int) ∧ rd l (k : Int) ≤ 255) : (((strOf l)[k]'h).toNat : Int) = rd l (k : Int) := by
  have hk : k < l.length := by rwa [strOf_size] at h
  have e : rd l (k : Int) = l[k] := by simp [rd, List.getD_eq_getElem?_getD, List.getElem?_eq_getElem hk]
  rw [e] at hb ⊢
  have : (strOf l)[k]'h = UInt8.ofNat (l[k]).toNat := by
    show (strOf l).data[k]'_ = _
    simp [strOf]
  rw [this, UInt8.toNat_ofNat']
  omega
/-- a letter of the table -/
def Letter (c : Int) : Prop := c = 68 ∨ c = 65 ∨ c = 66 ∨ c = 77 ∨ c = 78 ∨ c = 110 ∨ c = 76
instance (c : Int) : Decidable (Letter c) := by unfold Letter; infer_instance
theorem partsN_ok (k : Nat) : (∀ c ∈ partsN k, Letter c) ∧ (partsN k).length ≤ 3 := by
  rcases Nat.lt_or_ge k 24 with h | h
  · have e : ∀ i : Fin 24, (∀ c ∈ partsN i.val, Letter c) ∧ (partsN i.val).length ≤ 3 := by decide +kernel
    exact e ⟨k, h⟩
  · have : partsN k = [] := by unfold partsN; rw [List.getD_eq_getElem?_getD, List.getElem?_eq_none (by simpa [partsT] using h)]; rfl
    rw [this]; simp
theorem partsL_ok (op : Int) : (∀ c ∈ partsL op, Letter c) ∧ (partsL op).length ≤ 3 := by
  unfold partsL
  split
  · exact partsN_ok _
  · simp
theorem partsL_at (op : Int) (k : Nat) (h : k < (partsL op).length) : Letter (rd (partsL op) (k : Int)) := by
  refine (partsL_ok op).1 _ ?_
  rw [rd, List.getD_eq_getElem?_getD, List.getElem?_eq_getElem (by simpa using h)]
  exact List.getElem_mem _
/-- an instruction's field, by its letter -/
def fld (x : SIns) (c : Int) : Int := if c = 68 then x.f1 else if c = 65 then x.f2 else if c = 66 then x.f3 else if c = 77 then x.f5 else x.f4
/-- its place -/
def fldN (c : Int) : Nat := if c = 68 then 1 else if c = 65 then 2 else if c = 66 then 3 else if c = 77 then 5 else 4
/-- an instruction without a part -/
def clr (x : SIns) (c : Int) : SIns :=
  if c = 76 then { x with f6 := [] } else if c = 68 then { x with f1 := 0 } else if c = 65 then { x with f2 := 0 } else if c = 66 then { x with f3 := 0 } else if c = 77 then { x with f5 := 0 } else { x with f4 := 0 }
def bareL (x : SIns) : SIns := (partsL x.f0).foldl clr x
def bareB (x : SIns) : Bool := (bareL x).f1 == 0 && ((bareL x).f2 == 0 && ((bareL x).f3 == 0 && ((bareL x).f4 == 0 && ((bareL x).f5 == 0 && decide ((bareL x).f6.length = 0)))))
end Go.Proofs.YtijdmnjkiiemlaaDoor.H
