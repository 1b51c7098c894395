/- Plain: a program out of bytes. -/
import Derived.Test.YtijdmnjkiiemlaaDoorCr4
namespace Go.Proofs.YtijdmnjkiiemlaaDoor.H
open Go.RowKit Go.Proofs.YtijdmnjkiiemlaaDoorW.PrintWords Go.Proofs.YtijdmnjkiiemlaaDoorW.PrintLast
set_option linter.unusedVariables false
set_option linter.unusedSimpArgs false

/-- an error, if so -/
def pChk (b : Bool) (er : Int) (l : List Int) : PR Unit := if b = true then .error er else .ok ((), l)
def pEnd (l : List Int) : PR Unit := if l = [] then .ok ((), l) else .error 11
def pProg : List Int → PR (List SFunc) := pBind (pUp 8 9) fun n => pBind (pChk (n == 0) 9) fun _ => pBind (pRep pFn n.toNat) fun fs => pBind pEnd fun _ => pRet fs
def decE (l : List Int) : Int := match pProg l with | .ok _ => 0 | .error q => q
def decL (l : List Int) : List SFunc := match pProg l with | .ok x => x.1 | .error _ => []
theorem Ran.chk (b : Bool) {er : Int} (her : er ≠ 0) (l : List Int) (e : Int) : Ran (pChk b er) l e () l (if b = true ∧ e = 0 then er else e) := by
  refine ⟨fun h => by rw [if_neg (fun q => h q.2)], fun h y r hp => ?_, fun h q hp => ?_⟩ <;> unfold pChk at hp <;> split at hp
  · injection hp
  · rename_i hne; injection hp with hp; injection hp with h1 h2; rw [if_neg (fun q => hne q.1)]; exact ⟨h, h1, h2⟩
  · rename_i heq; injection hp with hp; rw [if_pos ⟨heq, h⟩]; exact ⟨hp, by rw [← hp]; exact her⟩
  · injection hp
theorem Ran.fin (l : List Int) (e : Int) : Ran pEnd l e () l (if e = 0 ∧ 0 < l.length then 11 else e) := by
  refine ⟨fun h => by rw [if_neg (fun q => h q.1)], fun h y r hp => ?_, fun h q hp => ?_⟩ <;> unfold pEnd at hp <;> split at hp
  · rename_i heq; injection hp with hp; injection hp with h1 h2; rw [if_neg (fun q => by rw [heq] at q; exact absurd q.2 (by decide))]; exact ⟨h, h1, h2⟩
  · injection hp
  · injection hp
  · rename_i hne; injection hp with hp; rw [if_pos ⟨h, List.length_pos_iff.2 hne⟩]; exact ⟨hp, by rw [← hp]; decide⟩
/-- what the whole reading came to -/
theorem Ran.whole {l l' : List Int} {fs : List SFunc} {e' : Int} (h : Ran pProg l 0 fs l' e') : e' = decE l ∧ (e' = 0 → fs = decL l) ∧ (e' ≠ 0 → decL l = []) := by
  unfold decE decL
  cases hp : pProg l with
  | ok x =>
    obtain ⟨a, b⟩ := x
    obtain ⟨h1, h2, h3⟩ := h.ok rfl a b hp
    exact ⟨h1, fun _ => h2, fun hn => absurd h1 hn⟩
  | error q =>
    obtain ⟨h1, h2⟩ := h.er rfl q hp
    exact ⟨h1, fun h0 => absurd (h1.symm.trans h0) h2, fun _ => rfl⟩
end Go.Proofs.YtijdmnjkiiemlaaDoor.H
