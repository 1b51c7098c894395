/- Texts of this work, joined: Vp, Cq, Va. Conditions: each stands with its theorem. -/
import Derived.Test.YtceibabhmomfiaaDoorProg
import Derived.Laws.BitsLemmas
import Derived.Laws.Bits64
import Derived.Laws.Bits64b
import Derived.Test.YtceibabhmomfiaaDoorX00
/- The plain side of layer 1: a number's bytes, and a number out of bytes. -/
namespace Go.Proofs.YtceibabhmomfiaaDoor.H
open Go

/-- seven bits each, the lowest first; at most n + 1 bytes -/
def digs : Nat → Int → List Int
  | 0, u => [u]
  | n + 1, u => if 128 ≤ u then (u % 128 + 128) :: digs n (u / 128) else [u]
/-- a signed number's place among 0, -1, 1, -2, .. -/
def zz (n : Int) : Int := if n < 0 then -(n + 1) * 2 + 1 else n * 2
/-- a number's bytes, of Put -/
def putL (n : Int) : List Int := if n < 0 then [] else digs 9 n

theorem digs_small (n : Nat) (u : Int) (h : u < 128) : digs n u = [u] := by
  cases n with
  | zero => rfl
  | succ n => rw [digs, if_neg (by omega)]
theorem digs_great (n : Nat) (u : Int) (h : 128 ≤ u) : digs (n + 1) u = (u % 128 + 128) :: digs n (u / 128) := by rw [digs, if_pos h]
theorem digs_len (n : Nat) : ∀ u : Int, 1 ≤ (digs n u).length ∧ (digs n u).length ≤ n + 1 := by
  induction n with
  | zero => intro u; simp [digs]
  | succ n ih =>
    intro u
    by_cases h : 128 ≤ u
    · rw [digs_great n u h]; have := ih (u / 128); simp; omega
    · rw [digs_small _ u (by omega)]; simp
set_option maxRecDepth 100000 in
theorem byte_or (x : Int) : bits .or .u8 (x % 256) 128 = x % 128 + 128 := by
  have k : ∀ n : Fin 256, bits .or .u8 ((n.val : Nat) : Int) 128 = ((n.val : Nat) : Int) % 128 + 128 := by decide +kernel
  have := k ⟨(x % 256).toNat, by omega⟩
  simp only [] at this
  rw [Int.toNat_of_nonneg (by omega)] at this
  rw [this]; omega
set_option maxRecDepth 100000 in
theorem byte_low (x : Int) (h0 : 0 ≤ x) (h1 : x ≤ 255) : bits .andNot .u8 x 128 = x % 128 := by
  have k : ∀ n : Fin 256, bits .andNot .u8 ((n.val : Nat) : Int) 128 = ((n.val : Nat) : Int) % 128 := by decide +kernel
  have := k ⟨x.toNat, by omega⟩
  simp only [] at this
  rwa [Int.toNat_of_nonneg (by omega)] at this
set_option maxRecDepth 100000 in
theorem byte_high (x : Int) (h0 : 0 ≤ x) (h1 : x ≤ 255) : bits .and .u8 x 128 = if 128 ≤ x then 128 else 0 := by
  have k : ∀ n : Fin 256, bits .and .u8 ((n.val : Nat) : Int) 128 = if 128 ≤ ((n.val : Nat) : Int) then 128 else 0 := by decide +kernel
  have := k ⟨x.toNat, by omega⟩
  simp only [] at this
  rwa [Int.toNat_of_nonneg (by omega)] at this
theorem zz_ge (n : Int) : 0 ≤ zz n := by unfold zz; split <;> omega
theorem zz_le (n : Int) (h0 : -9223372036854775808 ≤ n) (h1 : n ≤ 9223372036854775807) : zz n ≤ 18446744073709551615 := by unfold zz; split <;> omega
theorem zz_neg (n : Int) (h : n < 0) : zz n = -(n + 1) * 2 + 1 := if_pos h
theorem zz_pos (n : Int) (h : 0 ≤ n) : zz n = n * 2 := if_neg (by omega)
theorem xor_pos (n : Int) (h0 : 0 ≤ n) (h1 : n ≤ 9223372036854775807) : bits .xor .u64 (n * 2) (n / 9223372036854775808) = zz n := by
  have e : n / 9223372036854775808 = 0 := by omega
  obtain ⟨m, hm⟩ := Int.eq_ofNat_of_zero_le (show 0 ≤ n * 2 by omega)
  have := bits_xor_u64_nat m 0 (by omega) (by omega)
  rw [e, zz_pos n h0, hm]
  simpa using this
theorem xor_neg (n : Int) (h0 : n < 0) (h1 : -9223372036854775808 ≤ n) : bits .xor .u64 (IntKind.u64.wrap (IntKind.u64.wrap n * 2)) (IntKind.u64.wrap (n / 9223372036854775808)) = zz n := by
  have e : IntKind.u64.wrap (n / 9223372036854775808) = 18446744073709551615 := by rw [IntKind.wrap_u64]; omega
  have e1 : IntKind.u64.wrap (IntKind.u64.wrap n * 2) = n * 2 + 18446744073709551616 := by rw [IntKind.wrap_u64, IntKind.wrap_u64]; omega
  rw [e, e1]
  have e2 : BitVec.ofInt 64 18446744073709551615 = BitVec.allOnes 64 := by decide
  show IntKind.u64.wrap ((BitVec.ofInt 64 (n * 2 + 18446744073709551616) ^^^ BitVec.ofInt 64 18446744073709551615).toNat : Int) = _
  rw [e2, BitVec.xor_allOnes, BitVec.toNat_not, BitVec.toNat_ofInt, IntKind.wrap_u64, zz_neg n h0]
  omega

/-- a number out of bytes, of so many at most: what is left of them, how many were taken, what they come to so far; the number, its size, the error -/
def getGo (most : Nat) : List Int → Nat → Int → Int × Int × Int
  | [], i, _ => if i = most then (0, 0, 3) else (0, 0, 2)
  | x :: r, i, u =>
    if i = most then (0, 0, 3)
    else if i = 9 ∧ 1 < x % 128 then (0, 0, 3)
    else if 128 ≤ x then getGo most r (i + 1) (u + x % 128 * 2 ^ (7 * i))
    else if x = 0 ∧ 0 < i then (0, 0, 4)
    else (u + x % 128 * 2 ^ (7 * i), (i : Int) + 1, 0)
def getL (most : Nat) (l : List Int) : Int × Int × Int := getGo most l 0 0
theorem or_shl (u lo : Int) (k : Nat) (hk : k ≤ 9) (h0 : 0 ≤ u) (h1 : u < 2 ^ (7 * k)) (l0 : 0 ≤ lo) (l1 : lo < 128) (l9 : k = 9 → lo ≤ 1) :
    bits .or .u64 u (IntKind.u64.wrap (lo * 2 ^ (7 * k))) = u + lo * 2 ^ (7 * k) ∧ u + lo * 2 ^ (7 * k) ≤ 18446744073709551615 ∧ u + lo * 2 ^ (7 * k) < 2 ^ (7 * (k + 1)) := by
  obtain ⟨a, rfl⟩ := Int.eq_ofNat_of_zero_le h0
  obtain ⟨b, rfl⟩ := Int.eq_ofNat_of_zero_le l0
  have ha : a < 2 ^ (7 * k) := by exact_mod_cast h1
  have hb : b < 128 := by omega
  have hb9 : k = 9 → b ≤ 1 := fun e => by have := l9 e; omega
  have hp : 2 ^ (7 * (k + 1)) = 128 * 2 ^ (7 * k) := by rw [Nat.mul_add, Nat.pow_add]; omega
  have hsum : a + b * 2 ^ (7 * k) < 2 ^ (7 * (k + 1)) := by
    rw [hp]
    have : b * 2 ^ (7 * k) ≤ 127 * 2 ^ (7 * k) := Nat.mul_le_mul_right _ (by omega)
    omega
  have hall : a + b * 2 ^ (7 * k) < 18446744073709551616 := by
    rcases Nat.lt_or_ge k 9 with h | h
    · have : 2 ^ (7 * (k + 1)) ≤ 2 ^ (7 * 9) := Nat.pow_le_pow_right (by decide) (by omega)
      omega
    · have e : k = 9 := by omega
      have := hb9 e
      subst e
      omega
  have hc : ((b : Int) * 2 ^ (7 * k)) = ((b * 2 ^ (7 * k) : Nat) : Int) := by push_cast; rfl
  have hw : IntKind.u64.wrap ((b : Int) * 2 ^ (7 * k)) = ((b * 2 ^ (7 * k) : Nat) : Int) := by rw [hc, IntKind.wrap_u64]; omega
  refine ⟨?_, by rw [hc]; omega, ?_⟩
  · rw [hw, bits_or_u64_nat _ _ (by omega) (by omega), hc, Nat.or_comm, Nat.mul_comm b, ← Nat.two_pow_add_eq_or_of_lt ha b]
    push_cast; omega
  · rw [hc]
    have h2 : ((a + b * 2 ^ (7 * k) : Nat) : Int) < ((2 ^ (7 * (k + 1)) : Nat) : Int) := by exact_mod_cast hsum
    rw [show ((2 : Int) ^ (7 * (k + 1))) = ((2 ^ (7 * (k + 1)) : Nat) : Int) by push_cast; rfl]
    omega
/-- a signed number out of its place -/
def unzz (u : Int) : Int := if u % 2 = 1 then -(u / 2) - 1 else u / 2

/-- what is told of a number that was got -/
structure Got (most : Nat) (n : Nat) (p : Int × Int × Int) : Prop where
  ge : 0 ≤ p.1
  le : p.1 ≤ 18446744073709551615
  le9 : most ≤ 9 → p.1 ≤ 9223372036854775807
  sz : 0 ≤ p.2.1 ∧ p.2.1 ≤ most ∧ p.2.1 ≤ n
  er : p.2.2 = 0 ∧ 1 ≤ p.2.1 ∨ p = (0, 0, 2) ∨ p = (0, 0, 3) ∨ p = (0, 0, 4)
theorem getGo_got (most : Nat) (hm : most ≤ 10) (r : List Int) : ∀ (i : Nat) (u : Int), i ≤ most → 0 ≤ u → u < 2 ^ (7 * i) → (∀ x ∈ r, 0 ≤ x ∧ x ≤ 255) → Got most (i + r.length) (getGo most r i u) := by
  have k2 : Got most 0 (0, 0, 2) := ⟨by decide, by decide, fun _ => by decide, ⟨by decide, by simp, by decide⟩, by simp⟩
  have k3 : Got most 0 (0, 0, 3) := ⟨by decide, by decide, fun _ => by decide, ⟨by decide, by simp, by decide⟩, by simp⟩
  have k4 : Got most 0 (0, 0, 4) := ⟨by decide, by decide, fun _ => by decide, ⟨by decide, by simp, by decide⟩, by simp⟩
  have up : ∀ {n p}, Got most 0 p → Got most n p := fun h => ⟨h.ge, h.le, h.le9, ⟨h.sz.1, h.sz.2.1, by have := h.sz.2.2; omega⟩, h.er⟩
  induction r with
  | nil => intro i u hi h0 h1 _; unfold getGo; split; exact up k3; exact up k2
  | cons x r ih =>
    intro i u hi h0 h1 hb
    have hx := hb x List.mem_cons_self
    unfold getGo
    split
    · exact up k3
    · rename_i hne
      split
      · exact up k3
      · rename_i h9
        have hs := or_shl u (x % 128) i (by omega) h0 h1 (by omega) (by omega) (by omega)
        have hp : (0 : Int) ≤ x % 128 * 2 ^ (7 * i) := Int.mul_nonneg (by omega) (Int.le_of_lt (Int.pow_pos (by decide)))
        split
        · have := ih (i + 1) (u + x % 128 * 2 ^ (7 * i)) (by omega) (by omega) hs.2.2 (fun y hy => hb y (List.mem_cons_of_mem _ hy))
          rw [List.length_cons, show i + (r.length + 1) = i + 1 + r.length by omega]
          exact this
        · split
          · exact up k4
          · refine ⟨?_, ?_, ?_, ?_, ?_⟩
            · simp only; omega
            · exact hs.2.1
            · intro h
              have h2 : (2 : Int) ^ (7 * (i + 1)) ≤ 2 ^ (7 * 9) := by
                have : 2 ^ (7 * (i + 1)) ≤ 2 ^ (7 * 9) := Nat.pow_le_pow_right (by decide) (by omega)
                exact_mod_cast this
              have := hs.2.2
              simp only
              omega
            · simp only [List.length_cons]; omega
            · left; exact ⟨rfl, by simp only; omega⟩
theorem getL_got (most : Nat) (hm : most ≤ 10) (l : List Int) (hb : ∀ x ∈ l, 0 ≤ x ∧ x ≤ 255) : Got most l.length (getL most l) := by
  have := getGo_got most hm l 0 0 (by omega) (by omega) (by omega) hb
  rwa [Nat.zero_add] at this
theorem and_one (u : Int) (h0 : 0 ≤ u) (h1 : u ≤ 18446744073709551615) : bits .and .u64 u 1 = u % 2 := by
  obtain ⟨a, rfl⟩ := Int.eq_ofNat_of_zero_le h0
  have := bits_and_u64_nat a 1 (by omega) (by omega)
  rw [Nat.and_one_is_mod] at this
  simpa using this
theorem xor_i64_0 (a : Int) (h0 : 0 ≤ a) (h1 : a ≤ 9223372036854775807) : bits .xor .i64 a 0 = a := by
  show IntKind.i64.wrap ((BitVec.ofInt 64 a ^^^ BitVec.ofInt 64 0).toNat : Int) = _
  have e2 : BitVec.ofInt 64 0 = 0#64 := by decide
  rw [e2, BitVec.xor_zero, BitVec.toNat_ofInt, IntKind.wrap_i64]
  omega
theorem xor_i64_1 (a : Int) (h0 : 0 ≤ a) (h1 : a ≤ 9223372036854775807) : bits .xor .i64 a (-1) = -a - 1 := by
  have e2 : BitVec.ofInt 64 (-1) = BitVec.allOnes 64 := by decide
  show IntKind.i64.wrap ((BitVec.ofInt 64 a ^^^ BitVec.ofInt 64 (-1)).toNat : Int) = _
  rw [e2, BitVec.xor_allOnes, BitVec.toNat_not, BitVec.toNat_ofInt, IntKind.wrap_i64]
  omega
end Go.Proofs.YtceibabhmomfiaaDoor.H

/- Plain: numbers, instructions, functions, programs out of bytes. -/
namespace Go.Proofs.YtceibabhmomfiaaDoor.H
open Go.RowKit
set_option linter.unusedVariables false

/-- what is read, and what is left of the bytes; or an error's number -/
abbrev PR (α : Type) := Except Int (α × List Int)
def pBind {α β : Type} (p : List Int → PR α) (f : α → List Int → PR β) (l : List Int) : PR β := match p l with | .ok (x, r) => f x r | .error q => .error q
def pRet {α : Type} (x : α) (l : List Int) : PR α := .ok (x, l)
def pNum (l : List Int) : PR Int := if (getL 9 l).2.2 = 0 then .ok ((getL 9 l).1, l.drop (getL 9 l).2.1.toNat) else .error (getL 9 l).2.2
def pSig (l : List Int) : PR Int := if (getL 10 l).2.2 = 0 then .ok (unzz (getL 10 l).1, l.drop (getL 10 l).2.1.toNat) else .error (getL 10 l).2.2
def pUp (most er : Int) : List Int → PR Int := pBind pNum fun n l => if most < n then .error er else .ok (n, l)
def pRep {α : Type} (p : List Int → PR α) : Nat → List Int → PR (List α)
  | 0, l => .ok ([], l)
  | k + 1, l => pBind (pRep p k) (fun xs => pBind p fun x => pRet (xs ++ [x])) l

/-- A reader at l, the error so far e, came to x, at l', the error so far e'. -/
structure Ran {α : Type} (p : List Int → PR α) (l : List Int) (e : Int) (x : α) (l' : List Int) (e' : Int) : Prop where
  bad : e ≠ 0 → e' = e
  ok : e = 0 → ∀ y r, p l = .ok (y, r) → e' = 0 ∧ x = y ∧ l' = r
  er : e = 0 → ∀ q, p l = .error q → e' = q ∧ q ≠ 0
section
variable {α β : Type} {p : List Int → PR α} {f : α → List Int → PR β} {l l1 l2 : List Int} {e e1 e2 : Int} {x : α} {y : β}
theorem Ran.ret (x : α) (l : List Int) (e : Int) : Ran (pRet x) l e x l e :=
  ⟨fun _ => rfl, fun h y r hp => by
    unfold pRet at hp
    injection hp with hp
    injection hp with h1 h2
    exact ⟨h, h1, h2⟩, fun _ q hp => by unfold pRet at hp; injection hp⟩
theorem Ran.bind (h1 : Ran p l e x l1 e1) (h2 : Ran (f x) l1 e1 y l2 e2) : Ran (pBind p f) l e y l2 e2 := by
  refine ⟨fun h => ?_, fun h z r hp => ?_, fun h q hp => ?_⟩
  · have := h1.bad h
    rw [h2.bad (by rw [this]; exact h), this]
  · unfold pBind at hp
    cases hpl : p l with
    | error q => rw [hpl] at hp; injection hp
    | ok z1 =>
      obtain ⟨a, b⟩ := z1
      rw [hpl] at hp
      obtain ⟨e0, rfl, rfl⟩ := h1.ok h a b hpl
      exact h2.ok e0 z r hp
  · unfold pBind at hp
    cases hpl : p l with
    | error q' =>
      rw [hpl] at hp
      injection hp with hp
      subst hp
      obtain ⟨e0, e00⟩ := h1.er h q' hpl
      exact ⟨by rw [h2.bad (by rw [e0]; exact e00), e0], e00⟩
    | ok z1 =>
      obtain ⟨a, b⟩ := z1
      rw [hpl] at hp
      obtain ⟨e0, rfl, rfl⟩ := h1.ok h a b hpl
      exact h2.er e0 q hp
/-- the error has come: whatever follows -/
theorem Ran.err (h1 : Ran p l e x l1 e1) (he : e1 ≠ 0) (y : β) : Ran (pBind p f) l e y l1 e1 := h1.bind ⟨fun _ => rfl, fun h => absurd h he, fun h => absurd h he⟩
theorem Ran.imp {p' : List Int → PR α} (h : Ran p l e x l1 e1) (hp : p l = p' l) : Ran p' l e x l1 e1 := ⟨h.bad, by rw [← hp]; exact h.ok, by rw [← hp]; exact h.er⟩
theorem Ran.rep0 (p : List Int → PR α) (l : List Int) (e : Int) : Ran (pRep p 0) l e [] l e := Ran.ret [] l e
theorem Ran.rep1 {k : Nat} {xs : List α} (h1 : Ran (pRep p k) l e xs l1 e1) (h2 : Ran p l1 e1 x l2 e2) : Ran (pRep p (k + 1)) l e (xs ++ [x]) l2 e2 := h1.bind (h2.bind (Ran.ret _ _ _))
/-- the error has come: no more rounds -/
theorem Ran.early {k n : Nat} {xs : List α} (h1 : Ran (pRep p k) l e xs l1 e1) (he : e1 ≠ 0) (hk : k ≤ n) (ys : List α) : Ran (pRep p n) l e ys l1 e1 := by
  induction n with
  | zero =>
    have : k = 0 := by omega
    subst this
    refine ⟨h1.bad, fun h => ?_, h1.er⟩
    intro y r hp
    exact absurd (h1.ok h y r hp).1 he
  | succ n ih =>
    by_cases hkn : k ≤ n
    · exact (ih hkn).err he ys
    · have : k = n + 1 := by omega
      subst this
      exact ⟨h1.bad, fun h y r hp => absurd (h1.ok h y r hp).1 he, h1.er⟩
/-- any two agree -/
theorem Ran.agree {x' : α} {l1' : List Int} {e1' : Int} (h1 : Ran p l e x l1 e1) (h2 : Ran p l e x' l1' e1') : e1 = e1' ∧ (e1 = 0 → x = x' ∧ l1 = l1') := by
  by_cases h : e = 0
  · cases hpl : p l with
    | error q => obtain ⟨a, b⟩ := h1.er h q hpl; obtain ⟨c, d⟩ := h2.er h q hpl; exact ⟨by rw [a, c], fun h0 => absurd (a.symm.trans h0) b⟩
    | ok z =>
      obtain ⟨a, b⟩ := z
      obtain ⟨c1, c2, c3⟩ := h1.ok h a b hpl
      obtain ⟨d1, d2, d3⟩ := h2.ok h a b hpl
      exact ⟨by rw [c1, d1], fun _ => ⟨by rw [c2, d2], by rw [c3, d3]⟩⟩
  · have a := h1.bad h
    have b := h2.bad h
    exact ⟨by rw [a, b], fun h0 => absurd (a.symm.trans h0) h⟩
end
/-- a number that was read or not -/
theorem Ran.num_ok {l : List Int} (h : (getL 9 l).2.2 = 0) : Ran pNum l 0 (getL 9 l).1 (l.drop (getL 9 l).2.1.toNat) 0 :=
  ⟨fun h => absurd rfl h, fun _ y r hp => by unfold pNum at hp; rw [if_pos h] at hp; injection hp with hp; injection hp with h1 h2; exact ⟨rfl, h1, h2⟩, fun _ q hp => by unfold pNum at hp; rw [if_pos h] at hp; injection hp⟩
theorem Ran.num_er {l : List Int} (h : (getL 9 l).2.2 ≠ 0) (x : Int) : Ran pNum l 0 x l (getL 9 l).2.2 :=
  ⟨fun h => absurd rfl h, fun _ y r hp => by unfold pNum at hp; rw [if_neg h] at hp; injection hp, fun _ q hp => by unfold pNum at hp; rw [if_neg h] at hp; injection hp with hp; exact ⟨hp, hp ▸ h⟩⟩
theorem Ran.sig_ok {l : List Int} (h : (getL 10 l).2.2 = 0) : Ran pSig l 0 (unzz (getL 10 l).1) (l.drop (getL 10 l).2.1.toNat) 0 :=
  ⟨fun h => absurd rfl h, fun _ y r hp => by unfold pSig at hp; rw [if_pos h] at hp; injection hp with hp; injection hp with h1 h2; exact ⟨rfl, h1, h2⟩, fun _ q hp => by unfold pSig at hp; rw [if_pos h] at hp; injection hp⟩
theorem Ran.sig_er {l : List Int} (h : (getL 10 l).2.2 ≠ 0) (x : Int) : Ran pSig l 0 x l (getL 10 l).2.2 :=
  ⟨fun h => absurd rfl h, fun _ y r hp => by unfold pSig at hp; rw [if_neg h] at hp; injection hp, fun _ q hp => by unfold pSig at hp; rw [if_neg h] at hp; injection hp with hp; exact ⟨hp, hp ▸ h⟩⟩
theorem Ran.bad_ {α : Type} (p : List Int → PR α) (l : List Int) {e : Int} (he : e ≠ 0) (x : α) (l' : List Int) : Ran p l e x l' e := ⟨fun _ => rfl, fun h => absurd h he, fun h => absurd h he⟩
/-- a number up to another, or the error -/
theorem Ran.up {most er : Int} {l l1 : List Int} {e e1 n : Int} (h : Ran pNum l e n l1 e1) (her : er ≠ 0) (h0 : e1 ≠ 0 → n = 0) (hm : 0 ≤ most) :
    Ran (pUp most er) l e (if most < n then 0 else n) l1 (if most < n then er else e1) := by
  by_cases h1 : most < n
  · rw [if_pos h1, if_pos h1]
    have he1 : e1 = 0 := Classical.byContradiction fun hc => by have := h0 hc; omega
    subst he1
    exact h.bind ⟨fun h => absurd rfl h, fun _ y r hp => by rw [if_pos h1] at hp; injection hp, fun _ q hp => by rw [if_pos h1] at hp; injection hp with hp; exact ⟨hp, hp ▸ her⟩⟩
  · rw [if_neg h1, if_neg h1]
    exact h.bind ⟨fun _ => rfl, fun h y r hp => by rw [if_neg h1] at hp; injection hp with hp; injection hp with h2 h3; exact ⟨h, h2, h3⟩, fun _ q hp => by rw [if_neg h1] at hp; injection hp⟩
end Go.Proofs.YtceibabhmomfiaaDoor.H

/- Layer 1, the walks of what puts: each function comes to its plain answer. -/
namespace Go.Proofs.YtceibabhmomfiaaDoor.H
open Go.RowKit Go.Proofs.YtceibabhmomfiaaDoorW.PrintWords
set_option linter.unusedVariables false
set_option linter.unusedSimpArgs false

set_option maxHeartbeats 1000000 in
theorem digits_any (u : Int) (w : World) (h0 : 0 ≤ u) (h1 : u ≤ 18446744073709551615) :
    Calls Tryd.prog 94 #[.int .u64 u] w fun e w' => ∃ v : Value, e = .returned v ∧ OwnB w w' v (digs 9 u) ∧ Bel w w' := by
  go_enter Tryd.func94, Tryd.ntmps94
  go_wp2
  go_loopw [0, 3] (fun a v W => ∃ (n : Nat) (x : Int) (xs : List Int), n ≤ 9 ∧ a = .int .u64 x ∧ 0 ≤ x ∧ x ≤ 18446744073709551615 ∧ Aside0 (x < 128 ^ (n + 1)) ∧ Aside0 (xs.length = 9 - n) ∧ Aside0 (xs ++ digs n x = digs 9 u) ∧ OwnB w W v xs ∧ Bel w W) (fun a _ _ => (intOf a).toNat)
  case atStart => exact ⟨9, u, [], by omega, rfl, h0, h1, ⟨by omega⟩, ⟨rfl⟩, ⟨rfl⟩, Own.nil _ _ _ _, Bel.refl _⟩
  case round =>
    obtain ⟨n, x, xs, hn, rfl, hx0, hx1, hx2, hl, hd, hR, hB⟩ := hrel
    by_cases hc : 128 ≤ x
    · go_wp2_with ((with_reducible refine gate_b (b := .append) rfl ?_); (refine app_byte hR hB rfl _ _ (x % 128 + 128) rfl ?hl1 rfl rfl ?_); (case hl1 => have := hl.out; omega); clear hR hB; intro v1 w1 hR hB)
      go_roundw
      case rel =>
        obtain ⟨m, rfl⟩ : ∃ m, n = m + 1 := ⟨n - 1, by have := hx2.out; cases n with | zero => omega | succ n => omega⟩
        exact ⟨m, x / 128, xs ++ [x % 128 + 128], by omega, rfl, by omega, by omega, ⟨by have := hx2.out; rw [Int.pow_succ] at this; omega⟩, ⟨by have := hl.out; simp; omega⟩, ⟨by rw [← hd.out, digs_great m x hc]; simp⟩, hR, hB⟩
      case measure => simp [intOf]; omega
    · have hc' : decide (128 ≤ x) = false := decide_eq_false hc
      have hc2 : x < 128 := by omega
      go_wp2_with ((with_reducible refine gate_b (b := .append) rfl ?_); (refine app_byte hR hB rfl _ _ x rfl ?hl1 rfl rfl ?_); (case hl1 => have := hl.out; omega); clear hR hB; intro v1 w1 hR hB)
      go_ret
      exact ⟨v1, rfl, by rw [← hd.out, digs_small n x hc2]; exact hR, hB⟩

set_option maxHeartbeats 400000 in
theorem clip_any (A : Option Addr) (n c : Nat) (w : World) (h : n ≤ c) (hm : n ≤ 9223372036854775807) :
    Calls Tryd.prog 99 #[.slice A n c] w fun e w' => e = .returned (.slice A n n) ∧ w = w' := by
  go_enter Tryd.func99, Tryd.ntmps99
  go_wp2
  go_ret
  exact ⟨rfl, rfl⟩

set_option maxHeartbeats 1000000 in
theorem put_any (A : Option Addr) (c : Nat) (l : List Int) (u : Int) (w : World) (h0 : 0 ≤ u) (h1 : u ≤ 18446744073709551615) (hc : l.length ≤ c) (hA : A = none → l = []) (HR : RdB w A l) (hl : l.length ≤ 140737488355000) :
    Calls Tryd.prog 90 #[.slice A l.length c, .int .u64 u] w fun e w' => ∃ v : Value, e = .returned v ∧ OwnB w w' v (l ++ digs 9 u) ∧ Bel w w' := by
  have hAs := Aside0.mk hA
  clear hA
  go_enter Tryd.func90, Tryd.ntmps90
  go_wp2_with (go_at_call 99; refine (clip_any _ _ _ _ hc (by omega)).mono ?_; rintro e w' ⟨rfl, rfl⟩)
  go_loopw [0, 1] (fun v a W => ∃ (n : Nat) (x : Int) (xs : List Int), n ≤ 9 ∧ a = .int .u64 x ∧ 0 ≤ x ∧ x ≤ 18446744073709551615 ∧ Aside0 (x < 128 ^ (n + 1)) ∧ Aside0 (xs.length = l.length + (9 - n)) ∧ Aside0 (xs ++ digs n x = l ++ digs 9 u) ∧ FullB w W v xs ∧ Bel w W) (fun _ a _ => (intOf a).toNat)
  case atStart => exact ⟨9, u, l, by omega, rfl, h0, h1, ⟨by omega⟩, ⟨by omega⟩, ⟨rfl⟩, ⟨.inr ⟨A, rfl, hAs.out, HR⟩⟩, Bel.refl _⟩
  case round =>
    obtain ⟨n, x, xs, hn, rfl, hx0, hx1, hx2, hl, hd, hR, hB⟩ := hrel
    by_cases hc : 128 ≤ x
    · go_wp2_with ((with_reducible refine gate_b (b := .append) rfl ?_); (refine app_full hR hB rfl _ _ (bits .or .u8 (x % 256) 128) rfl ?hl1 rfl rfl ?_); (case hl1 => have := hl.out; omega); clear hR hB; intro v1 w1 hR hB)
      go_roundw
      case rel =>
        rw [byte_or] at hR
        obtain ⟨m, rfl⟩ : ∃ m, n = m + 1 := ⟨n - 1, by have := hx2.out; cases n with | zero => omega | succ n => omega⟩
        exact ⟨m, x / 128, xs ++ [x % 128 + 128], by omega, rfl, by omega, by omega, ⟨by have := hx2.out; rw [Int.pow_succ] at this; omega⟩, ⟨by have := hl.out; simp; omega⟩, ⟨by rw [← hd.out, digs_great m x hc]; simp⟩, ⟨.inl hR⟩, hB⟩
      case measure => simp [intOf]; omega
    · have hc' : decide (128 ≤ x) = false := decide_eq_false hc
      have hc2 : x < 128 := by omega
      go_wp2_with ((with_reducible refine gate_b (b := .append) rfl ?_); (refine app_full hR hB rfl _ _ x rfl ?hl1 rfl rfl ?_); (case hl1 => have := hl.out; omega); clear hR hB; intro v1 w1 hR hB)
      go_ret
      exact ⟨v1, rfl, by rw [← hd.out, digs_small n x hc2]; exact hR, hB⟩

set_option maxHeartbeats 400000 in
theorem clone_any (A : Option Addr) (c : Nat) (l : List Int) (w : World) (HR : RdB w A l) (hA : A = none → l = []) (hl : l.length ≤ 140737488355000) :
    Calls Tryd.prog 89 #[.slice A l.length c] w fun e w' => ∃ v : Value, e = .returned v ∧ OwnB w w' v l ∧ Bel w w' := by
  cases A with
  | none =>
    obtain rfl := hA rfl
    clear hA
    have hq := fun w => Lib.run_eql_slice_nil (P := Tryd.prog) w 22 5 none 0 c 0 0 Tryd.underlying22
    go_enter Tryd.func89, Tryd.ntmps89
    go_wp2
    go_ret
    exact ⟨_, rfl, Own.nil _ _ _ _, Bel.refl _⟩
  | some ad =>
    clear hA
    have hq := fun w => Lib.run_eql_slice_nil (P := Tryd.prog) w 22 5 (some ad) l.length c 0 0 Tryd.underlying22
    go_enter Tryd.func89, Tryd.ntmps89
    go_wp2_with ((with_reducible refine gate_b (b := .append) rfl ?_); refine app_bytes (Own.lit .u8 5 (Bel.refl _) [] (by decide)) ((Bel.refl _).alloc _) (HR.alloc _) rfl _ _ rfl (by simp; omega) rfl rfl ?_; intro v1 w1 hR hB)
    go_ret
    exact ⟨_, rfl, hR, hB⟩

set_option maxHeartbeats 400000 in
theorem refPut_any (A : Option Addr) (c : Nat) (l : List Int) (n : Int) (w : World) (HR : RdB w A l) (hl : l.length ≤ 140737488355000) (h0 : n ≤ 9223372036854775807) :
    Calls Tryd.prog 80 #[.slice A l.length c, .int .i64 n] w fun e w' => ∃ v : Value, e = .returned v ∧ OwnB w w' v (l ++ putL n) ∧ Bel w w' := by
  by_cases h : n < 0
  · go_enter Tryd.func80, Tryd.ntmps80
    go_wp2_with ((with_reducible refine gate_b (b := .append) rfl ?_); refine app_bytes (Own.lit .u8 5 (Bel.refl _) [] (by decide)) ((Bel.refl _).alloc _) (HR.alloc _) rfl _ _ rfl (by simp; omega) rfl rfl ?_; intro v1 w1 hR hB)
    go_ret
    exact ⟨_, rfl, by simpa [putL, h] using hR, hB⟩
  · have h1 : 0 ≤ n := by omega
    go_enter Tryd.func80, Tryd.ntmps80
    go_wp2_with (first | ((with_reducible refine gate_b (b := .append) (xs := #[.tmp 6, .tmp 7]) rfl ?_); refine app_bytes (Own.lit .u8 5 (Bel.refl _) [] (by decide)) ((Bel.refl _).alloc _) (HR.alloc _) rfl _ _ rfl (by simp; omega) rfl rfl ?_; intro v1 w1 hR hB) | (go_at_call 94; refine (digits_any n _ h1 (by omega)).mono ?_; rintro e w' ⟨v2, rfl, hR2, hB2⟩; obtain ⟨A2, c2, rfl, hc2, hRd⟩ := hR2.reads; replace hR := hR.step hB2; replace hB := hB.trans hB2; clear hB2) | ((with_reducible refine gate_b (b := .append) (xs := #[.tmp 12, .tmp 15]) rfl ?_); refine app_bytes hR hB hRd rfl _ _ rfl (by have := digs_len 9 n; simp; omega) rfl rfl ?_; clear hR hB hRd hR2; intro v1 w1 hR hB))
    go_ret
    exact ⟨_, rfl, by first | (rw [putL, if_neg (by omega)]; simpa using hR) | simpa [putL, h] using hR, hB⟩

set_option maxHeartbeats 400000 in
theorem Put_any (A : Option Addr) (c : Nat) (l : List Int) (n : Int) (w : World) (hc : l.length ≤ c) (hA : A = none → l = []) (HR : RdB w A l) (hl : l.length ≤ 140737488355000) (h0 : n ≤ 9223372036854775807) :
    Calls Tryd.prog 68 #[.slice A l.length c, .int .i64 n] w fun e w' => ∃ v : Value, e = .returned v ∧ OwnB w w' v (l ++ putL n) ∧ Bel w w' := by
  have hAs := Aside0.mk hA
  clear hA
  by_cases h : n < 0
  · go_enter Tryd.func68, Tryd.ntmps68
    go_wp2_with (go_at_call 89; refine (clone_any _ _ l _ HR hAs.out hl).mono ?_; rintro e w' ⟨v2, rfl, hR, hB⟩)
    go_ret
    exact ⟨_, rfl, by simpa [putL, h] using hR, hB⟩
  · have h1 : 0 ≤ n := by omega
    go_enter Tryd.func68, Tryd.ntmps68
    go_wp2_with (go_at_call 90; refine (put_any _ _ l n _ h1 (by omega) hc hAs.out HR hl).mono ?_; rintro e w' ⟨v2, rfl, hR, hB⟩)
    go_ret
    exact ⟨_, rfl, by first | (rw [putL, if_neg (by omega)]; simpa using hR) | simpa [putL, h] using hR, hB⟩

end Go.Proofs.YtceibabhmomfiaaDoor.H
