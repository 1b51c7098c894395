/- Arguments that are bytes or charts, opened. -/
import Derived.Test.YtceibabhmomfiaaDoorOp
import Derived.Test.YtceibabhmomfiaaDoorPk
namespace Go.Proofs.YtceibabhmomfiaaDoor.H
open Go.RowKit Go.Proofs.YtceibabhmomfiaaDoorW.PrintWords
set_option linter.unusedVariables false

section
variable {H : Type} {enc : TypeId × Value → H} {W : World}
def I64 (n : Int) : Prop := (Lit.int .i64 n).wf = true
theorem I64.ok {n : Int} (h : I64 n) : -9223372036854775808 ≤ n ∧ n ≤ 9223372036854775807 := by
  have h1 : IntKind.i64.min = -9223372036854775808 := by decide
  have h2 : IntKind.i64.max = 9223372036854775807 := by decide
  unfold I64 at h
  simp [Lit.wf] at h
  omega
theorem opens_int : Opens enc Tryd.prog W (Kd.int .i64) 3 I64 := Opens.int Tryd.underlying3
def AInts (l : List Int) : Prop := l.length * 8 ≤ 140737488351232 ∧ ∀ x ∈ l, I64 x
theorem opens_ints : Opens enc Tryd.prog W (Kd.slice 3 (Kd.int .i64)) 52 AInts := Opens.slice Tryd.underlying52 (by kernel_rfl) (by kernel_rfl) opens_int
def U8 (n : Int) : Prop := (Lit.int .u8 n).wf = true
theorem U8.ok {n : Int} (h : U8 n) : 0 ≤ n ∧ n ≤ 255 := by
  have h1 : IntKind.u8.min = 0 := by decide
  have h2 : IntKind.u8.max = 255 := by decide
  unfold U8 at h
  simp [Lit.wf] at h
  omega
def ABytes (l : List Int) : Prop := l.length * 1 ≤ 140737488351232 ∧ ∀ x ∈ l, U8 x
theorem opens_bytes : Opens enc Tryd.prog W (Kd.slice 5 (Kd.int .u8)) 22 ABytes := Opens.slice Tryd.underlying22 (by kernel_rfl) (by kernel_rfl) (Opens.int Tryd.underlying5)
structure ALoc (x : SLoc) : Prop where
  f0 : I64 x.f0
  f1 : I64 x.f1
theorem opens_loc : Opens enc Tryd.prog W kLoc 50 ALoc :=
  (Opens.struct Tryd.underlying50 (by kernel_rfl) (OpensF.cons rfl (by kernel_rfl) (by decide) opens_int <| OpensF.last rfl (by kernel_rfl) opens_int) (fun x : SLoc => (x.f0, x.f1)) (fun y => ⟨y.1, y.2⟩) (fun _ => rfl)).mono fun x h => ⟨h.1, h.2⟩
structure APair (x : SPair) : Prop where
  f0 : ALoc x.f0
  f1 : ALoc x.f1
theorem opens_pair : Opens enc Tryd.prog W kPair 73 APair :=
  (Opens.struct Tryd.underlying73 (by kernel_rfl) (OpensF.cons rfl (by kernel_rfl) (by decide) opens_loc <| OpensF.last rfl (by kernel_rfl) opens_loc) (fun x : SPair => (x.f0, x.f1)) (fun y => ⟨y.1, y.2⟩) (fun _ => rfl)).mono fun x h => ⟨h.1, h.2⟩
structure AChart (x : SChart) : Prop where
  f0 : I64 x.f0
  l1 : x.f1.length * 16 ≤ 140737488351232
  f1 : ∀ y ∈ x.f1, ALoc y
  l2 : x.f2.length * 32 ≤ 140737488351232
  f2 : ∀ y ∈ x.f2, APair y
theorem opens_chart : Opens enc Tryd.prog W kChart 36 AChart :=
  (Opens.struct Tryd.underlying36 (by kernel_rfl) (OpensF.cons rfl (by kernel_rfl) (by decide) opens_int <| OpensF.cons rfl (by kernel_rfl) (by decide) (Opens.slice Tryd.underlying33 (by kernel_rfl) (by kernel_rfl) opens_loc) <| OpensF.last rfl (by kernel_rfl) (Opens.slice Tryd.underlying34 (by kernel_rfl) (by kernel_rfl) opens_pair)) (fun x : SChart => (x.f0, x.f1, x.f2)) (fun y => ⟨y.1, y.2.1, y.2.2⟩) (fun _ => rfl)).mono fun x h => ⟨h.1, h.2.1.1, h.2.1.2, h.2.2.1, h.2.2.2⟩
def ACharts (l : List SChart) : Prop := l.length * 56 ≤ 140737488351232 ∧ ∀ x ∈ l, AChart x
theorem opens_charts : Opens enc Tryd.prog W (Kd.slice 36 kChart) 24 ACharts := Opens.slice Tryd.underlying24 (by kernel_rfl) (by kernel_rfl) opens_chart
end
end Go.Proofs.YtceibabhmomfiaaDoor.H
