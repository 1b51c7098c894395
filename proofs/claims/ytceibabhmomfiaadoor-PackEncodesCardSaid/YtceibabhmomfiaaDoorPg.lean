/- Plain: tests within a parser, the end of the bytes, errors that are no zero. -/
import Derived.Test.YtceibabhmomfiaaDoorCc
namespace Go.Proofs.YtceibabhmomfiaaDoor.H
open Go.RowKit
set_option linter.unusedVariables false
set_option linter.unusedSimpArgs false

/-- an error, if so -/
def pChk (b : Bool) (er : Int) (l : List Int) : PR Unit := if b = true then .error er else .ok ((), l)
def pEnd (l : List Int) : PR Unit := if l = [] then .ok ((), l) else .error 11
theorem Ran.chk (b : Bool) {er : Int} (her : er ≠ 0) (l : List Int) (e : Int) : Ran (pChk b er) l e () l (if b = true ∧ e = 0 then er else e) := by
  refine ⟨fun h => by rw [if_neg (fun q => h q.2)], fun h y r hp => ?_, fun h q hp => ?_⟩ <;> unfold pChk at hp <;> split at hp
  · injection hp
  · rename_i hne; injection hp with hp; injection hp with h1 h2; rw [if_neg (fun q => hne q.1)]; exact ⟨h, h1, h2⟩
  · rename_i heq; injection hp with hp; rw [if_pos ⟨heq, h⟩]; exact ⟨hp, by rw [← hp]; exact her⟩
  · injection hp
theorem Ran.fin (l : List Int) (e : Int) : Ran pEnd l e () l (if e = 0 ∧ 0 < l.length then 11 else e) := by
  refine ⟨fun h => by rw [if_neg (fun q => h q.1)], fun h y r hp => ?_, fun h q hp => ?_⟩ <;> unfold pEnd at hp <;> split at hp
  · rename_i heq; injection hp with hp; injection hp with h1 h2; rw [if_neg (fun q => by rw [heq] at q; exact absurd q.2 (by decide))]; exact ⟨h, h1, h2⟩
  · injection hp
  · injection hp
  · rename_i hne; injection hp with hp; rw [if_pos ⟨h, List.length_pos_iff.2 hne⟩]; exact ⟨hp, by rw [← hp]; decide⟩
theorem Cod.bind' {α β : Type} {p : List Int → PR α} {s : α → List Int} {P : α → Prop} {f : α → List Int → PR β} {t : α → β → List Int} {Q : α → β → Prop} (h : Cod p s P) (π : β → α) (hπ : ∀ x y, P x → Q x y → π y = x) (hf : ∀ x, P x → Cod (f x) (t x) (Q x)) :
    Cod (pBind p f) (fun y => s (π y) ++ t (π y) y) (fun y => P (π y) ∧ Q (π y) y) :=
  h.bind π (fun x hx => (hf x hx).congr (fun _ _ => rfl) (fun y => ⟨fun hy => ⟨hy, hπ x y hx hy⟩, fun hy => hy.1⟩))

def NZ {α : Type} (p : List Int → PR α) : Prop := ∀ l q, p l = .error q → q ≠ 0
theorem NZ.bind {α β : Type} {p : List Int → PR α} {f : α → List Int → PR β} (h : NZ p) (hf : ∀ x, NZ (f x)) : NZ (pBind p f) := by
  intro l q hp
  unfold pBind at hp
  cases hpl : p l with
  | error q' => rw [hpl] at hp; injection hp with hp; subst hp; exact h l _ hpl
  | ok z => obtain ⟨x, r⟩ := z; rw [hpl] at hp; exact hf x r q hp
theorem NZ.ret {α : Type} (x : α) : NZ (pRet x) := fun l q hp => by unfold pRet at hp; injection hp
theorem NZ.rep {α : Type} {p : List Int → PR α} (h : NZ p) (n : Nat) : NZ (pRep p n) := by
  induction n with
  | zero => exact fun l q hp => by unfold pRep at hp; injection hp
  | succ n ih => exact ih.bind fun xs => h.bind fun x => NZ.ret _
theorem nz_num : NZ pNum := fun l q hp => by
  unfold pNum at hp
  split at hp
  · injection hp
  · rename_i h; injection hp with hp; exact hp ▸ h
theorem nz_up (most er : Int) (h : er ≠ 0) : NZ (pUp most er) := nz_num.bind fun n l q hp => by
  split at hp
  · injection hp with hp; exact hp ▸ h
  · injection hp
theorem ByL.app {a b : List Int} (h : ByL a) (k : ByL b) : ByL (a ++ b) := fun x hx => (List.mem_append.1 hx).elim (h x) (k x)
theorem ByL.flat {α : Type} {l : List α} {f : α → List Int} (h : ∀ a ∈ l, ByL (f a)) : ByL (l.flatMap f) := fun x hx => by
  obtain ⟨a, ha, hx⟩ := List.mem_flatMap.1 hx
  exact h a ha x hx
end Go.Proofs.YtceibabhmomfiaaDoor.H
