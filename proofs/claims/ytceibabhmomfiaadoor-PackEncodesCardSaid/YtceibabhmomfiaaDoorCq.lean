/- Plain: numbers, instructions, functions, programs out of bytes. -/
import Derived.Test.YtceibabhmomfiaaDoorBa
import Derived.Test.YtceibabhmomfiaaDoorVp
namespace Go.Proofs.YtceibabhmomfiaaDoor.H
open Go.RowKit
set_option linter.unusedVariables false

/-- what is read, and what is left of the bytes; or an error's number -/
abbrev PR (α : Type) := Except Int (α × List Int)
def pBind {α β : Type} (p : List Int → PR α) (f : α → List Int → PR β) (l : List Int) : PR β := match p l with | .ok (x, r) => f x r | .error q => .error q
def pRet {α : Type} (x : α) (l : List Int) : PR α := .ok (x, l)
def pNum (l : List Int) : PR Int := if (getL 9 l).2.2 = 0 then .ok ((getL 9 l).1, l.drop (getL 9 l).2.1.toNat) else .error (getL 9 l).2.2
def pSig (l : List Int) : PR Int := if (getL 10 l).2.2 = 0 then .ok (unzz (getL 10 l).1, l.drop (getL 10 l).2.1.toNat) else .error (getL 10 l).2.2
def pUp (most er : Int) : List Int → PR Int := pBind pNum fun n l => if most < n then .error er else .ok (n, l)
def pRep {α : Type} (p : List Int → PR α) : Nat → List Int → PR (List α)
  | 0, l => .ok ([], l)
  | k + 1, l => pBind (pRep p k) (fun xs => pBind p fun x => pRet (xs ++ [x])) l

/-- A reader at l, the error so far e, came to x, at l', the error so far e'. -/
structure Ran {α : Type} (p : List Int → PR α) (l : List Int) (e : Int) (x : α) (l' : List Int) (e' : Int) : Prop where
  bad : e ≠ 0 → e' = e
  ok : e = 0 → ∀ y r, p l = .ok (y, r) → e' = 0 ∧ x = y ∧ l' = r
  er : e = 0 → ∀ q, p l = .error q → e' = q ∧ q ≠ 0
section
variable {α β : Type} {p : List Int → PR α} {f : α → List Int → PR β} {l l1 l2 : List Int} {e e1 e2 : Int} {x : α} {y : β}
theorem Ran.ret (x : α) (l : List Int) (e : Int) : Ran (pRet x) l e x l e :=
  ⟨fun _ => rfl, fun h y r hp => by
    unfold pRet at hp
    injection hp with hp
    injection hp with h1 h2
    exact ⟨h, h1, h2⟩, fun _ q hp => by unfold pRet at hp; injection hp⟩
theorem Ran.bind (h1 : Ran p l e x l1 e1) (h2 : Ran (f x) l1 e1 y l2 e2) : Ran (pBind p f) l e y l2 e2 := by
  refine ⟨fun h => ?_, fun h z r hp => ?_, fun h q hp => ?_⟩
  · have := h1.bad h
    rw [h2.bad (by rw [this]; exact h), this]
  · unfold pBind at hp
    cases hpl : p l with
    | error q => rw [hpl] at hp; injection hp
    | ok z1 =>
      obtain ⟨a, b⟩ := z1
      rw [hpl] at hp
      obtain ⟨e0, rfl, rfl⟩ := h1.ok h a b hpl
      exact h2.ok e0 z r hp
  · unfold pBind at hp
    cases hpl : p l with
    | error q' =>
      rw [hpl] at hp
      injection hp with hp
      subst hp
      obtain ⟨e0, e00⟩ := h1.er h q' hpl
      exact ⟨by rw [h2.bad (by rw [e0]; exact e00), e0], e00⟩
    | ok z1 =>
      obtain ⟨a, b⟩ := z1
      rw [hpl] at hp
      obtain ⟨e0, rfl, rfl⟩ := h1.ok h a b hpl
      exact h2.er e0 q hp
/-- the error has come: whatever follows -/
theorem Ran.err (h1 : Ran p l e x l1 e1) (he : e1 ≠ 0) (y : β) : Ran (pBind p f) l e y l1 e1 := h1.bind ⟨fun _ => rfl, fun h => absurd h he, fun h => absurd h he⟩
theorem Ran.imp {p' : List Int → PR α} (h : Ran p l e x l1 e1) (hp : p l = p' l) : Ran p' l e x l1 e1 := ⟨h.bad, by rw [← hp]; exact h.ok, by rw [← hp]; exact h.er⟩
theorem Ran.rep0 (p : List Int → PR α) (l : List Int) (e : Int) : Ran (pRep p 0) l e [] l e := Ran.ret [] l e
theorem Ran.rep1 {k : Nat} {xs : List α} (h1 : Ran (pRep p k) l e xs l1 e1) (h2 : Ran p l1 e1 x l2 e2) : Ran (pRep p (k + 1)) l e (xs ++ [x]) l2 e2 := h1.bind (h2.bind (Ran.ret _ _ _))
/-- the error has come: no more rounds -/
theorem Ran.early {k n : Nat} {xs : List α} (h1 : Ran (pRep p k) l e xs l1 e1) (he : e1 ≠ 0) (hk : k ≤ n) (ys : List α) : Ran (pRep p n) l e ys l1 e1 := by
  induction n with
  | zero =>
    have : k = 0 := by omega
    subst this
    refine ⟨h1.bad, fun h => ?_, h1.er⟩
    intro y r hp
    exact absurd (h1.ok h y r hp).1 he
  | succ n ih =>
    by_cases hkn : k ≤ n
    · exact (ih hkn).err he ys
    · have : k = n + 1 := by omega
      subst this
      exact ⟨h1.bad, fun h y r hp => absurd (h1.ok h y r hp).1 he, h1.er⟩
/-- any two agree -/
theorem Ran.agree {x' : α} {l1' : List Int} {e1' : Int} (h1 : Ran p l e x l1 e1) (h2 : Ran p l e x' l1' e1') : e1 = e1' ∧ (e1 = 0 → x = x' ∧ l1 = l1') := by
  by_cases h : e = 0
  · cases hpl : p l with
    | error q => obtain ⟨a, b⟩ := h1.er h q hpl; obtain ⟨c, d⟩ := h2.er h q hpl; exact ⟨by rw [a, c], fun h0 => absurd (a.symm.trans h0) b⟩
    | ok z =>
      obtain ⟨a, b⟩ := z
      obtain ⟨c1, c2, c3⟩ := h1.ok h a b hpl
      obtain ⟨d1, d2, d3⟩ := h2.ok h a b hpl
      exact ⟨by rw [c1, d1], fun _ => ⟨by rw [c2, d2], by rw [c3, d3]⟩⟩
  · have a := h1.bad h
    have b := h2.bad h
    exact ⟨by rw [a, b], fun h0 => absurd (a.symm.trans h0) h⟩
end
/-- a number that was read or not -/
theorem Ran.num_ok {l : List Int} (h : (getL 9 l).2.2 = 0) : Ran pNum l 0 (getL 9 l).1 (l.drop (getL 9 l).2.1.toNat) 0 :=
  ⟨fun h => absurd rfl h, fun _ y r hp => by unfold pNum at hp; rw [if_pos h] at hp; injection hp with hp; injection hp with h1 h2; exact ⟨rfl, h1, h2⟩, fun _ q hp => by unfold pNum at hp; rw [if_pos h] at hp; injection hp⟩
theorem Ran.num_er {l : List Int} (h : (getL 9 l).2.2 ≠ 0) (x : Int) : Ran pNum l 0 x l (getL 9 l).2.2 :=
  ⟨fun h => absurd rfl h, fun _ y r hp => by unfold pNum at hp; rw [if_neg h] at hp; injection hp, fun _ q hp => by unfold pNum at hp; rw [if_neg h] at hp; injection hp with hp; exact ⟨hp, hp ▸ h⟩⟩
theorem Ran.sig_ok {l : List Int} (h : (getL 10 l).2.2 = 0) : Ran pSig l 0 (unzz (getL 10 l).1) (l.drop (getL 10 l).2.1.toNat) 0 :=
  ⟨fun h => absurd rfl h, fun _ y r hp => by unfold pSig at hp; rw [if_pos h] at hp; injection hp with hp; injection hp with h1 h2; exact ⟨rfl, h1, h2⟩, fun _ q hp => by unfold pSig at hp; rw [if_pos h] at hp; injection hp⟩
theorem Ran.sig_er {l : List Int} (h : (getL 10 l).2.2 ≠ 0) (x : Int) : Ran pSig l 0 x l (getL 10 l).2.2 :=
  ⟨fun h => absurd rfl h, fun _ y r hp => by unfold pSig at hp; rw [if_neg h] at hp; injection hp, fun _ q hp => by unfold pSig at hp; rw [if_neg h] at hp; injection hp with hp; exact ⟨hp, hp ▸ h⟩⟩
theorem Ran.bad_ {α : Type} (p : List Int → PR α) (l : List Int) {e : Int} (he : e ≠ 0) (x : α) (l' : List Int) : Ran p l e x l' e := ⟨fun _ => rfl, fun h => absurd h he, fun h => absurd h he⟩
/-- a number up to another, or the error -/
theorem Ran.up {most er : Int} {l l1 : List Int} {e e1 n : Int} (h : Ran pNum l e n l1 e1) (her : er ≠ 0) (h0 : e1 ≠ 0 → n = 0) (hm : 0 ≤ most) :
    Ran (pUp most er) l e (if most < n then 0 else n) l1 (if most < n then er else e1) := by
  by_cases h1 : most < n
  · rw [if_pos h1, if_pos h1]
    have he1 : e1 = 0 := Classical.byContradiction fun hc => by have := h0 hc; omega
    subst he1
    exact h.bind ⟨fun h => absurd rfl h, fun _ y r hp => by rw [if_pos h1] at hp; injection hp, fun _ q hp => by rw [if_pos h1] at hp; injection hp with hp; exact ⟨hp, hp ▸ her⟩⟩
  · rw [if_neg h1, if_neg h1]
    exact h.bind ⟨fun _ => rfl, fun h y r hp => by rw [if_neg h1] at hp; injection hp with hp; injection hp with h2 h3; exact ⟨h, h2, h3⟩, fun _ q hp => by rw [if_neg h1] at hp; injection hp⟩
end Go.Proofs.YtceibabhmomfiaaDoor.H
