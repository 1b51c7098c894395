/-
  NARROWER THAN 'FOR EVERY INPUT', by the rows' own cells (each row's printed sentence says how): CodeEncodes: laid · CodeOnce: laid · CodeDecodes: laid · CodeBack: laid · CodeEnds: laid.
  DERIVED. THE GIVEN ROWS OF THIS SEAT. 5 by the template 'for every input the law returns true; each argument reads behind the call as it read before'; 0 by the template 'total and deterministic' (their statements: YtijdmnjkiiemlaaDoorTotals.lean).
  GIVEN WITH THE SEED: the statements are not yours to turn. If you find one false, say at which input.
  Laid BY PROGRAM, IN A SANDBOX (cutbox-rows.mjs): the forced cells as the released guide's own fill.sh prints them over the translation 082316b346df8db2… (all of the seat's roots in one cut). By AI agents, Wed Nov 11 2026. No macro, syntax, notation, axiom, sorry.
-/
import Derived.Test.YtijdmnjkiiemlaaDoorChecked
import GoSem.Claim
import GoSem.ClaimJoined
import GoSem.ClaimMapViews
import Derived.JoinedTies
import Derived.KernelRfl
namespace Go.Proofs.YtijdmnjkiiemlaaDoor
/- THE CELL 'sum', in the pinned program and in every row, IS THE sha256 OF THE DUMP (.gsa) THAT YtijdmnjkiiemlaaDoorProg.lean LOADS. Nothing in Lean hashes anything: it is a label: what it is worth is what the hold of that sum in a sandbox is worth. -/
noncomputable def Tryd.pinned : Pinned := { name := "ytijdmnjkiiemlaadoor", sum := "082316b346df8db2db1dd97f0941d2fa50f82e25906d5a598d83c57dfb959b5c", checked := Tryd.checked }
namespace Rows
def none {H : Type} : Left H := { results := [], args := [] }

/- WHAT THE LISTED PACKAGE-LEVEL VARIABLES READ AS WHEN THE CALL BEGINS. Each datum BY PROGRAM (the guide's laid-datum.mjs) off the statement by which the dump's own 'gosem.cut.vars' lays the variable. In a bare row this is a premise. The card (YtijdmnjkiiemlaaDoorCards.lean) ties it to the program's text. -/
def laid_portolan_code_parts {H : Type} : DataW H := .agg [.lit (.string []), .lit (.string [68, 110]), .lit (.string [68, 65]), .lit (.string [68, 65, 66]), .lit (.string [68, 65, 66]), .lit (.string [68, 65, 66]), .lit (.string [68, 65, 66]), .lit (.string [68]), .lit (.string [68, 65]), .lit (.string [68, 65, 66]), .lit (.string [68, 78, 77]), .lit (.string [68, 65, 78]), .lit (.string [65, 78, 66]), .lit (.string [68, 65, 78]), .lit (.string [65, 78, 66]), .lit (.string [68, 65, 78]), .lit (.string [68, 65, 110]), .lit (.string [68, 65]), .lit (.string [65, 66]), .lit (.string [68, 78, 76]), .lit (.string [65]), .lit (.string [78]), .lit (.string [65, 78, 77]), .lit (.string [65])]

/-- 'portolanlaw03.CodeEncodes': WHATEVER THE INPUT: true; the input reads as it did. -/
def codeEncodesSpec : ChangeSpec := { name := "codeEncodes", fn := fun _ => fun
  | [d1, d2] => { results := [.lit (.bool true)], args := [d1, d2] }
  | _ => none }
def codeEncodesRow : OpenClaim := { program := "ytijdmnjkiiemlaadoor", sum := "082316b346df8db2db1dd97f0941d2fa50f82e25906d5a598d83c57dfb959b5c", func := "portolan/portolanlaw03.CodeEncodes", spec := "codeEncodes", unfollowed := true, recurses := true, named := ["portolan/code.parts"], apart := false, laid := [("portolan/code.parts", laid_portolan_code_parts)] }
def CodeEncodesSaid : Prop := codeEncodesRow.holds Tryd.pinned (OpenSpec.ofChange codeEncodesSpec)

/-- ITS FALSE NEIGHBOUR: 'it returns false'. Refute it at one input. -/
def codeEncodesWrong : ChangeSpec := { name := "codeEncodes", fn := fun _ => fun
  | [d1, d2] => { results := [.lit (.bool false)], args := [d1, d2] }
  | _ => none }
def CodeEncodesWrongFalsely : Prop := codeEncodesRow.holds Tryd.pinned (OpenSpec.ofChange codeEncodesWrong)

/-- 'portolanlaw03.CodeOnce': WHATEVER THE INPUT: true; the input reads as it did. -/
def codeOnceSpec : ChangeSpec := { name := "codeOnce", fn := fun _ => fun
  | [d1, d2] => { results := [.lit (.bool true)], args := [d1, d2] }
  | _ => none }
def codeOnceRow : OpenClaim := { program := "ytijdmnjkiiemlaadoor", sum := "082316b346df8db2db1dd97f0941d2fa50f82e25906d5a598d83c57dfb959b5c", func := "portolan/portolanlaw03.CodeOnce", spec := "codeOnce", unfollowed := true, recurses := true, named := ["portolan/code.parts"], apart := false, laid := [("portolan/code.parts", laid_portolan_code_parts)] }
def CodeOnceSaid : Prop := codeOnceRow.holds Tryd.pinned (OpenSpec.ofChange codeOnceSpec)

/-- ITS FALSE NEIGHBOUR: 'it returns false'. Refute it at one input. -/
def codeOnceWrong : ChangeSpec := { name := "codeOnce", fn := fun _ => fun
  | [d1, d2] => { results := [.lit (.bool false)], args := [d1, d2] }
  | _ => none }
def CodeOnceWrongFalsely : Prop := codeOnceRow.holds Tryd.pinned (OpenSpec.ofChange codeOnceWrong)

/-- 'portolanlaw03.CodeDecodes': WHATEVER THE INPUT: true; the input reads as it did. -/
def codeDecodesSpec : ChangeSpec := { name := "codeDecodes", fn := fun _ => fun
  | [d1, d2] => { results := [.lit (.bool true)], args := [d1, d2] }
  | _ => none }
def codeDecodesRow : OpenClaim := { program := "ytijdmnjkiiemlaadoor", sum := "082316b346df8db2db1dd97f0941d2fa50f82e25906d5a598d83c57dfb959b5c", func := "portolan/portolanlaw03.CodeDecodes", spec := "codeDecodes", unfollowed := true, recurses := true, named := ["portolan/code.parts"], apart := false, laid := [("portolan/code.parts", laid_portolan_code_parts)] }
def CodeDecodesSaid : Prop := codeDecodesRow.holds Tryd.pinned (OpenSpec.ofChange codeDecodesSpec)

/-- ITS FALSE NEIGHBOUR: 'it returns false'. Refute it at one input. -/
def codeDecodesWrong : ChangeSpec := { name := "codeDecodes", fn := fun _ => fun
  | [d1, d2] => { results := [.lit (.bool false)], args := [d1, d2] }
  | _ => none }
def CodeDecodesWrongFalsely : Prop := codeDecodesRow.holds Tryd.pinned (OpenSpec.ofChange codeDecodesWrong)

/-- 'portolanlaw03.CodeBack': WHATEVER THE INPUT: true; the input reads as it did. -/
def codeBackSpec : ChangeSpec := { name := "codeBack", fn := fun _ => fun
  | [d1, d2] => { results := [.lit (.bool true)], args := [d1, d2] }
  | _ => none }
def codeBackRow : OpenClaim := { program := "ytijdmnjkiiemlaadoor", sum := "082316b346df8db2db1dd97f0941d2fa50f82e25906d5a598d83c57dfb959b5c", func := "portolan/portolanlaw03.CodeBack", spec := "codeBack", unfollowed := true, recurses := true, named := ["portolan/code.parts"], apart := false, laid := [("portolan/code.parts", laid_portolan_code_parts)] }
def CodeBackSaid : Prop := codeBackRow.holds Tryd.pinned (OpenSpec.ofChange codeBackSpec)

/-- ITS FALSE NEIGHBOUR: 'it returns false'. Refute it at one input. -/
def codeBackWrong : ChangeSpec := { name := "codeBack", fn := fun _ => fun
  | [d1, d2] => { results := [.lit (.bool false)], args := [d1, d2] }
  | _ => none }
def CodeBackWrongFalsely : Prop := codeBackRow.holds Tryd.pinned (OpenSpec.ofChange codeBackWrong)

/-- 'portolanlaw03.CodeEnds': WHATEVER THE INPUT: true; the input reads as it did. -/
def codeEndsSpec : ChangeSpec := { name := "codeEnds", fn := fun _ => fun
  | [d1, d2, d3] => { results := [.lit (.bool true)], args := [d1, d2, d3] }
  | _ => none }
def codeEndsRow : OpenClaim := { program := "ytijdmnjkiiemlaadoor", sum := "082316b346df8db2db1dd97f0941d2fa50f82e25906d5a598d83c57dfb959b5c", func := "portolan/portolanlaw03.CodeEnds", spec := "codeEnds", unfollowed := true, recurses := true, named := ["portolan/code.parts"], apart := false, laid := [("portolan/code.parts", laid_portolan_code_parts)] }
def CodeEndsSaid : Prop := codeEndsRow.holds Tryd.pinned (OpenSpec.ofChange codeEndsSpec)

/-- ITS FALSE NEIGHBOUR: 'it returns false'. Refute it at one input. -/
def codeEndsWrong : ChangeSpec := { name := "codeEnds", fn := fun _ => fun
  | [d1, d2, d3] => { results := [.lit (.bool false)], args := [d1, d2, d3] }
  | _ => none }
def CodeEndsWrongFalsely : Prop := codeEndsRow.holds Tryd.pinned (OpenSpec.ofChange codeEndsWrong)

/- THE SECOND FORM. 'bulk': how many values and letters a reading holds, each counted each time it is reached (what is shared counts as often as it is met; a slice's spare places count too). A statement '..UptoSaid' is the law's where the arguments, and the package variables that the reading takes, are together of bulk at most 1048576: NARROWER than '..Said'. Prove '..Said' where nothing that the law and all that it calls make is longer than what came in: it says more and counts as full. Else prove '..UptoSaid'. A law counts once. -/
mutual
def uptoBulk {H : Type} : DataW H → Nat
  | .lit (.string bytes) => bytes.length + 1
  | .lit _ => 1
  | .nil => 1
  | .ptr d => uptoBulk d + 1
  | .slice elems spare => uptoBulkAll elems + uptoBulkAll spare + 1
  | .agg parts => uptoBulkAll parts + 1
  | .iface _ d => uptoBulk d + 1
  | .map entries => uptoBulkEntries entries + 1
  | .held _ => 1
def uptoBulkAll {H : Type} : List (DataW H) → Nat
  | [] => 0
  | d :: r => uptoBulk d + uptoBulkAll r
def uptoBulkEntries {H : Type} : List (Lit × DataW H) → Nat
  | [] => 0
  | x :: r => uptoBulkEntry x + uptoBulkEntries r
def uptoBulkEntry {H : Type} : Lit × DataW H → Nat
  | (.string bytes, d) => bytes.length + uptoBulk d + 1
  | (_, d) => uptoBulk d + 1
 end
def uptoSmall : (H : Type) → List (DataW H) → Bool := fun _ ds => decide (uptoBulkAll ds ≤ 1048576)
def OpenSpec.upto (s : _root_.Go.ChangeSpec) : _root_.Go.OpenSpec := { _root_.Go.OpenSpec.ofChange s with cond := some uptoSmall }

/-- 'portolanlaw03.CodeEncodes', WHERE WHAT IT READS IS OF BULK AT MOST 1048576: true; the input reads as it did. -/
def codeEncodesUptoRow : OpenClaim := { program := "ytijdmnjkiiemlaadoor", sum := "082316b346df8db2db1dd97f0941d2fa50f82e25906d5a598d83c57dfb959b5c", func := "portolan/portolanlaw03.CodeEncodes", spec := "codeEncodes", unfollowed := true, recurses := true, named := ["portolan/code.parts"], apart := false, laid := [("portolan/code.parts", laid_portolan_code_parts)], narrowed := true }
def CodeEncodesUptoSaid : Prop := codeEncodesUptoRow.holds Tryd.pinned (OpenSpec.upto codeEncodesSpec)

/-- 'portolanlaw03.CodeOnce', WHERE WHAT IT READS IS OF BULK AT MOST 1048576: true; the input reads as it did. -/
def codeOnceUptoRow : OpenClaim := { program := "ytijdmnjkiiemlaadoor", sum := "082316b346df8db2db1dd97f0941d2fa50f82e25906d5a598d83c57dfb959b5c", func := "portolan/portolanlaw03.CodeOnce", spec := "codeOnce", unfollowed := true, recurses := true, named := ["portolan/code.parts"], apart := false, laid := [("portolan/code.parts", laid_portolan_code_parts)], narrowed := true }
def CodeOnceUptoSaid : Prop := codeOnceUptoRow.holds Tryd.pinned (OpenSpec.upto codeOnceSpec)

/-- 'portolanlaw03.CodeDecodes', WHERE WHAT IT READS IS OF BULK AT MOST 1048576: true; the input reads as it did. -/
def codeDecodesUptoRow : OpenClaim := { program := "ytijdmnjkiiemlaadoor", sum := "082316b346df8db2db1dd97f0941d2fa50f82e25906d5a598d83c57dfb959b5c", func := "portolan/portolanlaw03.CodeDecodes", spec := "codeDecodes", unfollowed := true, recurses := true, named := ["portolan/code.parts"], apart := false, laid := [("portolan/code.parts", laid_portolan_code_parts)], narrowed := true }
def CodeDecodesUptoSaid : Prop := codeDecodesUptoRow.holds Tryd.pinned (OpenSpec.upto codeDecodesSpec)

/-- 'portolanlaw03.CodeBack', WHERE WHAT IT READS IS OF BULK AT MOST 1048576: true; the input reads as it did. -/
def codeBackUptoRow : OpenClaim := { program := "ytijdmnjkiiemlaadoor", sum := "082316b346df8db2db1dd97f0941d2fa50f82e25906d5a598d83c57dfb959b5c", func := "portolan/portolanlaw03.CodeBack", spec := "codeBack", unfollowed := true, recurses := true, named := ["portolan/code.parts"], apart := false, laid := [("portolan/code.parts", laid_portolan_code_parts)], narrowed := true }
def CodeBackUptoSaid : Prop := codeBackUptoRow.holds Tryd.pinned (OpenSpec.upto codeBackSpec)

/-- 'portolanlaw03.CodeEnds', WHERE WHAT IT READS IS OF BULK AT MOST 1048576: true; the input reads as it did. -/
def codeEndsUptoRow : OpenClaim := { program := "ytijdmnjkiiemlaadoor", sum := "082316b346df8db2db1dd97f0941d2fa50f82e25906d5a598d83c57dfb959b5c", func := "portolan/portolanlaw03.CodeEnds", spec := "codeEnds", unfollowed := true, recurses := true, named := ["portolan/code.parts"], apart := false, laid := [("portolan/code.parts", laid_portolan_code_parts)], narrowed := true }
def CodeEndsUptoSaid : Prop := codeEndsUptoRow.holds Tryd.pinned (OpenSpec.upto codeEndsSpec)

end Rows
end Go.Proofs.YtijdmnjkiiemlaaDoor
