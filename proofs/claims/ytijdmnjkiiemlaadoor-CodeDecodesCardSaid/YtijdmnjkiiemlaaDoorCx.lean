/- An argument that is a program, opened. -/
import Derived.Test.YtijdmnjkiiemlaaDoorOp
import Derived.Test.YtijdmnjkiiemlaaDoorCk
namespace Go.Proofs.YtijdmnjkiiemlaaDoor.H
open Go.RowKit Go.Proofs.YtijdmnjkiiemlaaDoorW.PrintWords
set_option linter.unusedVariables false

section
variable {H : Type} {enc : TypeId × Value → H} {W : World}
def I64 (n : Int) : Prop := (Lit.int .i64 n).wf = true
theorem I64.ok {n : Int} (h : I64 n) : -9223372036854775808 ≤ n ∧ n ≤ 9223372036854775807 := by
  have h1 : IntKind.i64.min = -9223372036854775808 := by decide
  have h2 : IntKind.i64.max = 9223372036854775807 := by decide
  unfold I64 at h
  simp [Lit.wf] at h
  omega
theorem opens_int : Opens enc Tryd.prog W (Kd.int .i64) 3 I64 := Opens.int Tryd.underlying3
def AInts (l : List Int) : Prop := l.length * 8 ≤ 140737488351232 ∧ ∀ x ∈ l, I64 x
theorem opens_ints : Opens enc Tryd.prog W (Kd.slice 3 (Kd.int .i64)) 40 AInts := Opens.slice Tryd.underlying40 (by kernel_rfl) (by kernel_rfl) opens_int
def U8 (n : Int) : Prop := (Lit.int .u8 n).wf = true
theorem U8.ok {n : Int} (h : U8 n) : 0 ≤ n ∧ n ≤ 255 := by
  have h1 : IntKind.u8.min = 0 := by decide
  have h2 : IntKind.u8.max = 255 := by decide
  unfold U8 at h
  simp [Lit.wf] at h
  omega
def ABytes (l : List Int) : Prop := l.length * 1 ≤ 140737488351232 ∧ ∀ x ∈ l, U8 x
theorem opens_bytes : Opens enc Tryd.prog W (Kd.slice 5 (Kd.int .u8)) 27 ABytes := Opens.slice Tryd.underlying27 (by kernel_rfl) (by kernel_rfl) (Opens.int Tryd.underlying5)
structure AIns (x : SIns) : Prop where
  f0 : I64 x.f0
  f1 : I64 x.f1
  f2 : I64 x.f2
  f3 : I64 x.f3
  f4 : I64 x.f4
  f5 : I64 x.f5
  f6 : AInts x.f6
theorem opens_ins : Opens enc Tryd.prog W kIns 45 AIns :=
  (Opens.struct Tryd.underlying45 (by kernel_rfl) (OpensF.cons rfl (by kernel_rfl) (by decide) opens_int <| OpensF.cons rfl (by kernel_rfl) (by decide) opens_int <| OpensF.cons rfl (by kernel_rfl) (by decide) opens_int <| OpensF.cons rfl (by kernel_rfl) (by decide) opens_int <| OpensF.cons rfl (by kernel_rfl) (by decide) opens_int <| OpensF.cons rfl (by kernel_rfl) (by decide) opens_int <| OpensF.last rfl (by kernel_rfl) opens_ints)
    (fun x : SIns => (x.f0, x.f1, x.f2, x.f3, x.f4, x.f5, x.f6)) (fun y => ⟨y.1, y.2.1, y.2.2.1, y.2.2.2.1, y.2.2.2.2.1, y.2.2.2.2.2.1, y.2.2.2.2.2.2⟩) (fun _ => rfl)).mono fun x h => ⟨h.1, h.2.1, h.2.2.1, h.2.2.2.1, h.2.2.2.2.1, h.2.2.2.2.2.1, h.2.2.2.2.2.2⟩
structure ABlock (b : SBlock) : Prop where
  l0 : b.f0.length * 72 ≤ 140737488351232
  f0 : ∀ x ∈ b.f0, AIns x
theorem opens_block : Opens enc Tryd.prog W kBlock 48 ABlock :=
  (Opens.struct Tryd.underlying48 (by kernel_rfl) (OpensF.last rfl (by kernel_rfl) (Opens.slice Tryd.underlying46 (by kernel_rfl) (by kernel_rfl) opens_ins)) (fun x : SBlock => x.f0) (fun y => ⟨y⟩) (fun _ => rfl)).mono fun x h => ⟨h.1, h.2⟩
structure AFunc (f : SFunc) : Prop where
  f0 : AInts f.f0
  f1 : AInts f.f1
  f2 : I64 f.f2
  f3 : I64 f.f3
  l4 : f.f4.length * 24 ≤ 140737488351232
  f4 : ∀ b ∈ f.f4, ABlock b
theorem opens_func : Opens enc Tryd.prog W kFunc 43 AFunc :=
  (Opens.struct Tryd.underlying43 (by kernel_rfl) (OpensF.cons rfl (by kernel_rfl) (by decide) opens_ints <| OpensF.cons rfl (by kernel_rfl) (by decide) opens_ints <| OpensF.cons rfl (by kernel_rfl) (by decide) opens_int <| OpensF.cons rfl (by kernel_rfl) (by decide) opens_int <| OpensF.last rfl (by kernel_rfl) (Opens.slice Tryd.underlying41 (by kernel_rfl) (by kernel_rfl) opens_block))
    (fun x : SFunc => (x.f0, x.f1, x.f2, x.f3, x.f4)) (fun y => ⟨y.1, y.2.1, y.2.2.1, y.2.2.2.1, y.2.2.2.2⟩) (fun _ => rfl)).mono fun x h => ⟨h.1, h.2.1, h.2.2.1, h.2.2.2.1, h.2.2.2.2.1, h.2.2.2.2.2⟩
structure AProg (l : List SFunc) : Prop where
  l0 : l.length * 88 ≤ 140737488351232
  f0 : ∀ f ∈ l, AFunc f
theorem opens_prog : Opens enc Tryd.prog W kProg 24 (fun p => AProg p.f0) :=
  (Opens.struct Tryd.underlying24 (by kernel_rfl) (OpensF.last rfl (by kernel_rfl) (Opens.slice Tryd.underlying22 (by kernel_rfl) (by kernel_rfl) opens_func)) (fun x : SProg => x.f0) (fun y => ⟨y⟩) (fun _ => rfl)).mono fun x h => ⟨h.1, h.2⟩
end
end Go.Proofs.YtijdmnjkiiemlaaDoor.H
