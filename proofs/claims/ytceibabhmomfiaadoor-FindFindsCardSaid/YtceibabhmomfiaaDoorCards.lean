/-
  DERIVED. GIVEN WITH THE SEED: THE CARDS: each row of YtceibabhmomfiaaDoorRows.lean that lists a variable, with what it lists TIED to the program's text (the seventh form; the later family's looks); each row that meets fmt, with fmt's text TOLD by the authors' own Lean function (tested against real Go, not proved from fmt's source: count such statements apart). THE CARD IS WHAT COUNTS. Prove the row's statement (the work); the ties are given (YtceibabhmomfiaaDoorTie.lean); close each card by the builder's one call (the guide's Derived/Test/ToyasCard.lean, 'card_holds'). Laid BY PROGRAM, IN A SANDBOX (cutbox-door.mjs). By AI agents, Wed Nov 11 2026. No macro, syntax, notation, axiom, sorry.
-/
import Derived.Test.YtceibabhmomfiaaDoorRows
import GoSem.ClaimSeven
namespace Go.Proofs.YtceibabhmomfiaaDoor
namespace Rows

/-- THE TIED CARD OF 'portolanlaw22.PackDecodes'. -/
def packDecodesCard : Claim7 := { stood := { row := packDecodesRow, standIns := [], harness := (true, "acd119869e5e489ee6fae109a5320ac85dbf3d51c674438599b49b00fbbba29d"), looks := false }, kinds := [], alts := [], laidByText := true, laidKinds := [.data], laidTests := true, laidLooks := .later }
def PackDecodesCardSaid : Prop := Claim7.holds Tryd.pinned (.plain (OpenSpec.ofChange packDecodesSpec)) packDecodesCard

/-- THE TIED CARD OF 'portolanlaw22.PackBack'. -/
def packBackCard : Claim7 := { stood := { row := packBackRow, standIns := [], harness := (true, "acd119869e5e489ee6fae109a5320ac85dbf3d51c674438599b49b00fbbba29d"), looks := false }, kinds := [], alts := [], laidByText := true, laidKinds := [.data], laidTests := true, laidLooks := .later }
def PackBackCardSaid : Prop := Claim7.holds Tryd.pinned (.plain (OpenSpec.ofChange packBackSpec)) packBackCard

/-- THE TIED CARD OF 'portolanlaw22.PackOnce'. -/
def packOnceCard : Claim7 := { stood := { row := packOnceRow, standIns := [], harness := (true, "acd119869e5e489ee6fae109a5320ac85dbf3d51c674438599b49b00fbbba29d"), looks := false }, kinds := [], alts := [], laidByText := true, laidKinds := [.data], laidTests := true, laidLooks := .later }
def PackOnceCardSaid : Prop := Claim7.holds Tryd.pinned (.plain (OpenSpec.ofChange packOnceSpec)) packOnceCard

/-- THE TIED CARD OF 'portolanlaw22.PackTurned'. -/
def packTurnedCard : Claim7 := { stood := { row := packTurnedRow, standIns := [], harness := (true, "acd119869e5e489ee6fae109a5320ac85dbf3d51c674438599b49b00fbbba29d"), looks := false }, kinds := [], alts := [], laidByText := true, laidKinds := [.data], laidTests := true, laidLooks := .later }
def PackTurnedCardSaid : Prop := Claim7.holds Tryd.pinned (.plain (OpenSpec.ofChange packTurnedSpec)) packTurnedCard

/-- THE TIED CARD OF 'portolanlaw22.PackEncodes'. -/
def packEncodesCard : Claim7 := { stood := { row := packEncodesRow, standIns := [], harness := (true, "acd119869e5e489ee6fae109a5320ac85dbf3d51c674438599b49b00fbbba29d"), looks := false }, kinds := [], alts := [], laidByText := true, laidKinds := [.data], laidTests := true, laidLooks := .later }
def PackEncodesCardSaid : Prop := Claim7.holds Tryd.pinned (.plain (OpenSpec.ofChange packEncodesSpec)) packEncodesCard

/-- THE TIED CARD OF 'portolanlaw23.FindEach'. -/
def findEachCard : Claim7 := { stood := { row := findEachRow, standIns := [], harness := (true, "acd119869e5e489ee6fae109a5320ac85dbf3d51c674438599b49b00fbbba29d"), looks := false }, kinds := [], alts := [], laidByText := true, laidKinds := [.data], laidTests := true, laidLooks := .later }
def FindEachCardSaid : Prop := Claim7.holds Tryd.pinned (.plain (OpenSpec.ofChange findEachSpec)) findEachCard

/-- THE TIED CARD OF 'portolanlaw23.FindFinds'. -/
def findFindsCard : Claim7 := { stood := { row := findFindsRow, standIns := [], harness := (true, "acd119869e5e489ee6fae109a5320ac85dbf3d51c674438599b49b00fbbba29d"), looks := false }, kinds := [], alts := [], laidByText := true, laidKinds := [.data], laidTests := true, laidLooks := .later }
def FindFindsCardSaid : Prop := Claim7.holds Tryd.pinned (.plain (OpenSpec.ofChange findFindsSpec)) findFindsCard

/-- THE TIED CARD OF 'portolanlaw23.FindAsks'. -/
def findAsksCard : Claim7 := { stood := { row := findAsksRow, standIns := [], harness := (true, "acd119869e5e489ee6fae109a5320ac85dbf3d51c674438599b49b00fbbba29d"), looks := false }, kinds := [], alts := [], laidByText := true, laidKinds := [.data], laidTests := true, laidLooks := .later }
def FindAsksCardSaid : Prop := Claim7.holds Tryd.pinned (.plain (OpenSpec.ofChange findAsksSpec)) findAsksCard

/-- THE TIED CARD OF 'portolanlaw23.FindJust'. -/
def findJustCard : Claim7 := { stood := { row := findJustRow, standIns := [], harness := (true, "acd119869e5e489ee6fae109a5320ac85dbf3d51c674438599b49b00fbbba29d"), looks := false }, kinds := [], alts := [], laidByText := true, laidKinds := [.data], laidTests := true, laidLooks := .later }
def FindJustCardSaid : Prop := Claim7.holds Tryd.pinned (.plain (OpenSpec.ofChange findJustSpec)) findJustCard

/-- THE SECOND FORM's CARD OF 'portolanlaw22.PackDecodes'. -/
def packDecodesUptoCard : Claim7 := { stood := { row := packDecodesUptoRow, standIns := [], harness := (true, "acd119869e5e489ee6fae109a5320ac85dbf3d51c674438599b49b00fbbba29d"), looks := false }, kinds := [], alts := [], laidByText := true, laidKinds := [.data], laidTests := true, laidLooks := .later }
def PackDecodesUptoCardSaid : Prop := Claim7.holds Tryd.pinned (.plain (OpenSpec.upto packDecodesSpec)) packDecodesUptoCard

/-- THE SECOND FORM's CARD OF 'portolanlaw22.PackBack'. -/
def packBackUptoCard : Claim7 := { stood := { row := packBackUptoRow, standIns := [], harness := (true, "acd119869e5e489ee6fae109a5320ac85dbf3d51c674438599b49b00fbbba29d"), looks := false }, kinds := [], alts := [], laidByText := true, laidKinds := [.data], laidTests := true, laidLooks := .later }
def PackBackUptoCardSaid : Prop := Claim7.holds Tryd.pinned (.plain (OpenSpec.upto packBackSpec)) packBackUptoCard

/-- THE SECOND FORM's CARD OF 'portolanlaw22.PackOnce'. -/
def packOnceUptoCard : Claim7 := { stood := { row := packOnceUptoRow, standIns := [], harness := (true, "acd119869e5e489ee6fae109a5320ac85dbf3d51c674438599b49b00fbbba29d"), looks := false }, kinds := [], alts := [], laidByText := true, laidKinds := [.data], laidTests := true, laidLooks := .later }
def PackOnceUptoCardSaid : Prop := Claim7.holds Tryd.pinned (.plain (OpenSpec.upto packOnceSpec)) packOnceUptoCard

/-- THE SECOND FORM's CARD OF 'portolanlaw22.PackTurned'. -/
def packTurnedUptoCard : Claim7 := { stood := { row := packTurnedUptoRow, standIns := [], harness := (true, "acd119869e5e489ee6fae109a5320ac85dbf3d51c674438599b49b00fbbba29d"), looks := false }, kinds := [], alts := [], laidByText := true, laidKinds := [.data], laidTests := true, laidLooks := .later }
def PackTurnedUptoCardSaid : Prop := Claim7.holds Tryd.pinned (.plain (OpenSpec.upto packTurnedSpec)) packTurnedUptoCard

/-- THE SECOND FORM's CARD OF 'portolanlaw22.PackEncodes'. -/
def packEncodesUptoCard : Claim7 := { stood := { row := packEncodesUptoRow, standIns := [], harness := (true, "acd119869e5e489ee6fae109a5320ac85dbf3d51c674438599b49b00fbbba29d"), looks := false }, kinds := [], alts := [], laidByText := true, laidKinds := [.data], laidTests := true, laidLooks := .later }
def PackEncodesUptoCardSaid : Prop := Claim7.holds Tryd.pinned (.plain (OpenSpec.upto packEncodesSpec)) packEncodesUptoCard

/-- THE SECOND FORM's CARD OF 'portolanlaw23.FindEach'. -/
def findEachUptoCard : Claim7 := { stood := { row := findEachUptoRow, standIns := [], harness := (true, "acd119869e5e489ee6fae109a5320ac85dbf3d51c674438599b49b00fbbba29d"), looks := false }, kinds := [], alts := [], laidByText := true, laidKinds := [.data], laidTests := true, laidLooks := .later }
def FindEachUptoCardSaid : Prop := Claim7.holds Tryd.pinned (.plain (OpenSpec.upto findEachSpec)) findEachUptoCard

/-- THE SECOND FORM's CARD OF 'portolanlaw23.FindFinds'. -/
def findFindsUptoCard : Claim7 := { stood := { row := findFindsUptoRow, standIns := [], harness := (true, "acd119869e5e489ee6fae109a5320ac85dbf3d51c674438599b49b00fbbba29d"), looks := false }, kinds := [], alts := [], laidByText := true, laidKinds := [.data], laidTests := true, laidLooks := .later }
def FindFindsUptoCardSaid : Prop := Claim7.holds Tryd.pinned (.plain (OpenSpec.upto findFindsSpec)) findFindsUptoCard

/-- THE SECOND FORM's CARD OF 'portolanlaw23.FindAsks'. -/
def findAsksUptoCard : Claim7 := { stood := { row := findAsksUptoRow, standIns := [], harness := (true, "acd119869e5e489ee6fae109a5320ac85dbf3d51c674438599b49b00fbbba29d"), looks := false }, kinds := [], alts := [], laidByText := true, laidKinds := [.data], laidTests := true, laidLooks := .later }
def FindAsksUptoCardSaid : Prop := Claim7.holds Tryd.pinned (.plain (OpenSpec.upto findAsksSpec)) findAsksUptoCard

/-- THE SECOND FORM's CARD OF 'portolanlaw23.FindJust'. -/
def findJustUptoCard : Claim7 := { stood := { row := findJustUptoRow, standIns := [], harness := (true, "acd119869e5e489ee6fae109a5320ac85dbf3d51c674438599b49b00fbbba29d"), looks := false }, kinds := [], alts := [], laidByText := true, laidKinds := [.data], laidTests := true, laidLooks := .later }
def FindJustUptoCardSaid : Prop := Claim7.holds Tryd.pinned (.plain (OpenSpec.upto findJustSpec)) findJustUptoCard
end Rows
end Go.Proofs.YtceibabhmomfiaaDoor
