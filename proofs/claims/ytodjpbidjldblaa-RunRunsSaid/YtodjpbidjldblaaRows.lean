/-
  No cell of these rows narrows 'for every input' (looked for: loops, veiled, ifaces, maps, wideKeys, modest, calm, conditions, laid).
  DERIVED. THE GIVEN ROWS OF THIS SEAT. 5 by the template 'for every input the law returns true; each argument reads behind the call as it read before'; 0 by the template 'total and deterministic' (their statements: YtodjpbidjldblaaTotals.lean).
  GIVEN WITH THE SEED: the statements are not yours to turn. If you find one false, say at which input.
  Laid BY PROGRAM, IN A SANDBOX (cutbox-rows.mjs): the forced cells as the released guide's own fill.sh prints them over the translation 0594ca7e3e64d138… (all of the seat's roots in one cut). By AI agents, Wed Nov 11 2026. No macro, syntax, notation, axiom, sorry.
-/
import Derived.Test.YtodjpbidjldblaaChecked
import GoSem.Claim
import GoSem.ClaimJoined
import GoSem.ClaimMapViews
import Derived.JoinedTies
import Derived.KernelRfl
namespace Go.Proofs.Ytodjpbidjldblaa
/- THE CELL 'sum', in the pinned program and in every row, IS THE sha256 OF THE DUMP (.gsa) THAT YtodjpbidjldblaaProg.lean LOADS. Nothing in Lean hashes anything: it is a label: what it is worth is what the hold of that sum in a sandbox is worth. -/
noncomputable def Try.pinned : Pinned := { name := "ytodjpbidjldblaa", sum := "0594ca7e3e64d1389f7d993ae94eba7d018e1f6eab1f0f2756b23f76d896c040", checked := Try.checked }
namespace Rows
def none {H : Type} : Left H := { results := [], args := [] }

/-- 'portolanlaw10.RunEdges': WHATEVER THE INPUT: true; the input reads as it did. -/
def runEdgesSpec : ChangeSpec := { name := "runEdges", fn := fun _ => fun
  | [d1, d2] => { results := [.lit (.bool true)], args := [d1, d2] }
  | _ => none }
def runEdgesRow : OpenClaim := { program := "ytodjpbidjldblaa", sum := "0594ca7e3e64d1389f7d993ae94eba7d018e1f6eab1f0f2756b23f76d896c040", func := "portolan/portolanlaw10.RunEdges", spec := "runEdges", unfollowed := true, recurses := true, apart := false }
def RunEdgesSaid : Prop := runEdgesRow.holds Try.pinned (OpenSpec.ofChange runEdgesSpec)

/-- ITS FALSE NEIGHBOUR: 'it returns false'. Refute it at one input. -/
def runEdgesWrong : ChangeSpec := { name := "runEdges", fn := fun _ => fun
  | [d1, d2] => { results := [.lit (.bool false)], args := [d1, d2] }
  | _ => none }
def RunEdgesWrongFalsely : Prop := runEdgesRow.holds Try.pinned (OpenSpec.ofChange runEdgesWrong)

/-- 'portolanlaw10.RunRuns': WHATEVER THE INPUT: true; the input reads as it did. -/
def runRunsSpec : ChangeSpec := { name := "runRuns", fn := fun _ => fun
  | [d1, d2] => { results := [.lit (.bool true)], args := [d1, d2] }
  | _ => none }
def runRunsRow : OpenClaim := { program := "ytodjpbidjldblaa", sum := "0594ca7e3e64d1389f7d993ae94eba7d018e1f6eab1f0f2756b23f76d896c040", func := "portolan/portolanlaw10.RunRuns", spec := "runRuns", unfollowed := true, recurses := true, apart := false }
def RunRunsSaid : Prop := runRunsRow.holds Try.pinned (OpenSpec.ofChange runRunsSpec)

/-- ITS FALSE NEIGHBOUR: 'it returns false'. Refute it at one input. -/
def runRunsWrong : ChangeSpec := { name := "runRuns", fn := fun _ => fun
  | [d1, d2] => { results := [.lit (.bool false)], args := [d1, d2] }
  | _ => none }
def RunRunsWrongFalsely : Prop := runRunsRow.holds Try.pinned (OpenSpec.ofChange runRunsWrong)

/-- 'portolanlaw10.RunBegins': WHATEVER THE INPUT: true; the input reads as it did. -/
def runBeginsSpec : ChangeSpec := { name := "runBegins", fn := fun _ => fun
  | [d1, d2] => { results := [.lit (.bool true)], args := [d1, d2] }
  | _ => none }
def runBeginsRow : OpenClaim := { program := "ytodjpbidjldblaa", sum := "0594ca7e3e64d1389f7d993ae94eba7d018e1f6eab1f0f2756b23f76d896c040", func := "portolan/portolanlaw10.RunBegins", spec := "runBegins", unfollowed := true, recurses := true, apart := false }
def RunBeginsSaid : Prop := runBeginsRow.holds Try.pinned (OpenSpec.ofChange runBeginsSpec)

/-- ITS FALSE NEIGHBOUR: 'it returns false'. Refute it at one input. -/
def runBeginsWrong : ChangeSpec := { name := "runBegins", fn := fun _ => fun
  | [d1, d2] => { results := [.lit (.bool false)], args := [d1, d2] }
  | _ => none }
def RunBeginsWrongFalsely : Prop := runBeginsRow.holds Try.pinned (OpenSpec.ofChange runBeginsWrong)

/-- 'portolanlaw10.RunHeap': WHATEVER THE INPUT: true; the input reads as it did. -/
def runHeapSpec : ChangeSpec := { name := "runHeap", fn := fun _ => fun
  | [d1, d2] => { results := [.lit (.bool true)], args := [d1, d2] }
  | _ => none }
def runHeapRow : OpenClaim := { program := "ytodjpbidjldblaa", sum := "0594ca7e3e64d1389f7d993ae94eba7d018e1f6eab1f0f2756b23f76d896c040", func := "portolan/portolanlaw10.RunHeap", spec := "runHeap", unfollowed := true, recurses := true, apart := false }
def RunHeapSaid : Prop := runHeapRow.holds Try.pinned (OpenSpec.ofChange runHeapSpec)

/-- ITS FALSE NEIGHBOUR: 'it returns false'. Refute it at one input. -/
def runHeapWrong : ChangeSpec := { name := "runHeap", fn := fun _ => fun
  | [d1, d2] => { results := [.lit (.bool false)], args := [d1, d2] }
  | _ => none }
def RunHeapWrongFalsely : Prop := runHeapRow.holds Try.pinned (OpenSpec.ofChange runHeapWrong)

/-- 'portolanlaw10.RunPrints': WHATEVER THE INPUT: true; the input reads as it did. -/
def runPrintsSpec : ChangeSpec := { name := "runPrints", fn := fun _ => fun
  | [d1, d2] => { results := [.lit (.bool true)], args := [d1, d2] }
  | _ => none }
def runPrintsRow : OpenClaim := { program := "ytodjpbidjldblaa", sum := "0594ca7e3e64d1389f7d993ae94eba7d018e1f6eab1f0f2756b23f76d896c040", func := "portolan/portolanlaw10.RunPrints", spec := "runPrints", unfollowed := true, recurses := true, apart := false }
def RunPrintsSaid : Prop := runPrintsRow.holds Try.pinned (OpenSpec.ofChange runPrintsSpec)

/-- ITS FALSE NEIGHBOUR: 'it returns false'. Refute it at one input. -/
def runPrintsWrong : ChangeSpec := { name := "runPrints", fn := fun _ => fun
  | [d1, d2] => { results := [.lit (.bool false)], args := [d1, d2] }
  | _ => none }
def RunPrintsWrongFalsely : Prop := runPrintsRow.holds Try.pinned (OpenSpec.ofChange runPrintsWrong)

/- THE SECOND FORM. 'bulk': how many values and letters a reading holds, each counted each time it is reached (what is shared counts as often as it is met; a slice's spare places count too). A statement '..UptoSaid' is the law's where the arguments, and the package variables that the reading takes, are together of bulk at most 1048576: NARROWER than '..Said'. Prove '..Said' where nothing that the law and all that it calls make is longer than what came in: it says more and counts as full. Else prove '..UptoSaid'. A law counts once. -/
mutual
def uptoBulk {H : Type} : DataW H → Nat
  | .lit (.string bytes) => bytes.length + 1
  | .lit _ => 1
  | .nil => 1
  | .ptr d => uptoBulk d + 1
  | .slice elems spare => uptoBulkAll elems + uptoBulkAll spare + 1
  | .agg parts => uptoBulkAll parts + 1
  | .iface _ d => uptoBulk d + 1
  | .map entries => uptoBulkEntries entries + 1
  | .held _ => 1
def uptoBulkAll {H : Type} : List (DataW H) → Nat
  | [] => 0
  | d :: r => uptoBulk d + uptoBulkAll r
def uptoBulkEntries {H : Type} : List (Lit × DataW H) → Nat
  | [] => 0
  | x :: r => uptoBulkEntry x + uptoBulkEntries r
def uptoBulkEntry {H : Type} : Lit × DataW H → Nat
  | (.string bytes, d) => bytes.length + uptoBulk d + 1
  | (_, d) => uptoBulk d + 1
 end
def uptoSmall : (H : Type) → List (DataW H) → Bool := fun _ ds => decide (uptoBulkAll ds ≤ 1048576)
def OpenSpec.upto (s : _root_.Go.ChangeSpec) : _root_.Go.OpenSpec := { _root_.Go.OpenSpec.ofChange s with cond := some uptoSmall }

/-- 'portolanlaw10.RunEdges', WHERE WHAT IT READS IS OF BULK AT MOST 1048576: true; the input reads as it did. -/
def runEdgesUptoRow : OpenClaim := { program := "ytodjpbidjldblaa", sum := "0594ca7e3e64d1389f7d993ae94eba7d018e1f6eab1f0f2756b23f76d896c040", func := "portolan/portolanlaw10.RunEdges", spec := "runEdges", unfollowed := true, recurses := true, apart := false, narrowed := true }
def RunEdgesUptoSaid : Prop := runEdgesUptoRow.holds Try.pinned (OpenSpec.upto runEdgesSpec)

/-- 'portolanlaw10.RunRuns', WHERE WHAT IT READS IS OF BULK AT MOST 1048576: true; the input reads as it did. -/
def runRunsUptoRow : OpenClaim := { program := "ytodjpbidjldblaa", sum := "0594ca7e3e64d1389f7d993ae94eba7d018e1f6eab1f0f2756b23f76d896c040", func := "portolan/portolanlaw10.RunRuns", spec := "runRuns", unfollowed := true, recurses := true, apart := false, narrowed := true }
def RunRunsUptoSaid : Prop := runRunsUptoRow.holds Try.pinned (OpenSpec.upto runRunsSpec)

/-- 'portolanlaw10.RunBegins', WHERE WHAT IT READS IS OF BULK AT MOST 1048576: true; the input reads as it did. -/
def runBeginsUptoRow : OpenClaim := { program := "ytodjpbidjldblaa", sum := "0594ca7e3e64d1389f7d993ae94eba7d018e1f6eab1f0f2756b23f76d896c040", func := "portolan/portolanlaw10.RunBegins", spec := "runBegins", unfollowed := true, recurses := true, apart := false, narrowed := true }
def RunBeginsUptoSaid : Prop := runBeginsUptoRow.holds Try.pinned (OpenSpec.upto runBeginsSpec)

/-- 'portolanlaw10.RunHeap', WHERE WHAT IT READS IS OF BULK AT MOST 1048576: true; the input reads as it did. -/
def runHeapUptoRow : OpenClaim := { program := "ytodjpbidjldblaa", sum := "0594ca7e3e64d1389f7d993ae94eba7d018e1f6eab1f0f2756b23f76d896c040", func := "portolan/portolanlaw10.RunHeap", spec := "runHeap", unfollowed := true, recurses := true, apart := false, narrowed := true }
def RunHeapUptoSaid : Prop := runHeapUptoRow.holds Try.pinned (OpenSpec.upto runHeapSpec)

/-- 'portolanlaw10.RunPrints', WHERE WHAT IT READS IS OF BULK AT MOST 1048576: true; the input reads as it did. -/
def runPrintsUptoRow : OpenClaim := { program := "ytodjpbidjldblaa", sum := "0594ca7e3e64d1389f7d993ae94eba7d018e1f6eab1f0f2756b23f76d896c040", func := "portolan/portolanlaw10.RunPrints", spec := "runPrints", unfollowed := true, recurses := true, apart := false, narrowed := true }
def RunPrintsUptoSaid : Prop := runPrintsUptoRow.holds Try.pinned (OpenSpec.upto runPrintsSpec)

end Rows
end Go.Proofs.Ytodjpbidjldblaa
