/- The plain side of layer 1: a number's bytes, and a number out of bytes. -/
import Derived.Test.YtceibabhmomfiaaDoorProg
import Derived.Laws.BitsLemmas
import Derived.Laws.Bits64
import Derived.Laws.Bits64b
namespace Go.Proofs.YtceibabhmomfiaaDoor.H
open Go

/-- seven bits each, the lowest first; at most n + 1 bytes -/
def digs : Nat → Int → List Int
  | 0, u => [u]
  | n + 1, u => if 128 ≤ u then (u % 128 + 128) :: digs n (u / 128) else [u]
/-- a signed number's place among 0, -1, 1, -2, .. -/
def zz (n : Int) : Int := if n < 0 then -(n + 1) * 2 + 1 else n * 2
/-- a number's bytes, of Put -/
def putL (n : Int) : List Int := if n < 0 then [] else digs 9 n

theorem digs_small (n : Nat) (u : Int) (h : u < 128) : digs n u = [u] := by
  cases n with
  | zero => rfl
  | succ n => rw [digs, if_neg (by omega)]
theorem digs_great (n : Nat) (u : Int) (h : 128 ≤ u) : digs (n + 1) u = (u % 128 + 128) :: digs n (u / 128) := by rw [digs, if_pos h]
theorem digs_len (n : Nat) : ∀ u : Int, 1 ≤ (digs n u).length ∧ (digs n u).length ≤ n + 1 := by
  induction n with
  | zero => intro u; simp [digs]
  | succ n ih =>
    intro u
    by_cases h : 128 ≤ u
    · rw [digs_great n u h]; have := ih (u / 128); simp; omega
    · rw [digs_small _ u (by omega)]; simp
set_option maxRecDepth 100000 in
theorem byte_or (x : Int) : bits .or .u8 (x % 256) 128 = x % 128 + 128 := by
  have k : ∀ n : Fin 256, bits .or .u8 ((n.val : Nat) : Int) 128 = ((n.val : Nat) : Int) % 128 + 128 := by decide +kernel
  have := k ⟨(x % 256).toNat, by omega⟩
  simp only [] at this
  rw [Int.toNat_of_nonneg (by omega)] at this
  rw [this]; omega
set_option maxRecDepth 100000 in
theorem byte_low (x : Int) (h0 : 0 ≤ x) (h1 : x ≤ 255) : bits .andNot .u8 x 128 = x % 128 := by
  have k : ∀ n : Fin 256, bits .andNot .u8 ((n.val : Nat) : Int) 128 = ((n.val : Nat) : Int) % 128 := by decide +kernel
  have := k ⟨x.toNat, by omega⟩
  simp only [] at this
  rwa [Int.toNat_of_nonneg (by omega)] at this
set_option maxRecDepth 100000 in
theorem byte_high (x : Int) (h0 : 0 ≤ x) (h1 : x ≤ 255) : bits .and .u8 x 128 = if 128 ≤ x then 128 else 0 := by
  have k : ∀ n : Fin 256, bits .and .u8 ((n.val : Nat) : Int) 128 = if 128 ≤ ((n.val : Nat) : Int) then 128 else 0 := by decide +kernel
  have := k ⟨x.toNat, by omega⟩
  simp only [] at this
  rwa [Int.toNat_of_nonneg (by omega)] at this
theorem zz_ge (n : Int) : 0 ≤ zz n := by unfold zz; split <;> omega
theorem zz_le (n : Int) (h0 : -9223372036854775808 ≤ n) (h1 : n ≤ 9223372036854775807) : zz n ≤ 18446744073709551615 := by unfold zz; split <;> omega
theorem zz_neg (n : Int) (h : n < 0) : zz n = -(n + 1) * 2 + 1 := if_pos h
theorem zz_pos (n : Int) (h : 0 ≤ n) : zz n = n * 2 := if_neg (by omega)
theorem xor_pos (n : Int) (h0 : 0 ≤ n) (h1 : n ≤ 9223372036854775807) : bits .xor .u64 (n * 2) (n / 9223372036854775808) = zz n := by
  have e : n / 9223372036854775808 = 0 := by omega
  obtain ⟨m, hm⟩ := Int.eq_ofNat_of_zero_le (show 0 ≤ n * 2 by omega)
  have := bits_xor_u64_nat m 0 (by omega) (by omega)
  rw [e, zz_pos n h0, hm]
  simpa using this
theorem xor_neg (n : Int) (h0 : n < 0) (h1 : -9223372036854775808 ≤ n) : bits .xor .u64 (IntKind.u64.wrap (IntKind.u64.wrap n * 2)) (IntKind.u64.wrap (n / 9223372036854775808)) = zz n := by
  have e : IntKind.u64.wrap (n / 9223372036854775808) = 18446744073709551615 := by rw [IntKind.wrap_u64]; omega
  have e1 : IntKind.u64.wrap (IntKind.u64.wrap n * 2) = n * 2 + 18446744073709551616 := by rw [IntKind.wrap_u64, IntKind.wrap_u64]; omega
  rw [e, e1]
  have e2 : BitVec.ofInt 64 18446744073709551615 = BitVec.allOnes 64 := by decide
  show IntKind.u64.wrap ((BitVec.ofInt 64 (n * 2 + 18446744073709551616) ^^^ BitVec.ofInt 64 18446744073709551615).toNat : Int) = _
  rw [e2, BitVec.xor_allOnes, BitVec.toNat_not, BitVec.toNat_ofInt, IntKind.wrap_u64, zz_neg n h0]
  omega

/-- a number out of bytes, of so many at most: what is left of them, how many were taken, what they come to so far; the number, its size, the error -/
def getGo (most : Nat) : List Int → Nat → Int → Int × Int × Int
  | [], i, _ => if i = most then (0, 0, 3) else (0, 0, 2)
  | x :: r, i, u =>
    if i = most then (0, 0, 3)
    else if i = 9 ∧ 1 < x % 128 then (0, 0, 3)
    else if 128 ≤ x then getGo most r (i + 1) (u + x % 128 * 2 ^ (7 * i))
    else if x = 0 ∧ 0 < i then (0, 0, 4)
    else (u + x % 128 * 2 ^ (7 * i), (i : Int) + 1, 0)
def getL (most : Nat) (l : List Int) : Int × Int × Int := getGo most l 0 0
theorem or_shl (u lo : Int) (k : Nat) (hk : k ≤ 9) (h0 : 0 ≤ u) (h1 : u < 2 ^ (7 * k)) (l0 : 0 ≤ lo) (l1 : lo < 128) (l9 : k = 9 → lo ≤ 1) :
    bits .or .u64 u (IntKind.u64.wrap (lo * 2 ^ (7 * k))) = u + lo * 2 ^ (7 * k) ∧ u + lo * 2 ^ (7 * k) ≤ 18446744073709551615 ∧ u + lo * 2 ^ (7 * k) < 2 ^ (7 * (k + 1)) := by
  obtain ⟨a, rfl⟩ := Int.eq_ofNat_of_zero_le h0
  obtain ⟨b, rfl⟩ := Int.eq_ofNat_of_zero_le l0
  have ha : a < 2 ^ (7 * k) := by exact_mod_cast h1
  have hb : b < 128 := by omega
  have hb9 : k = 9 → b ≤ 1 := fun e => by have := l9 e; omega
  have hp : 2 ^ (7 * (k + 1)) = 128 * 2 ^ (7 * k) := by rw [Nat.mul_add, Nat.pow_add]; omega
  have hsum : a + b * 2 ^ (7 * k) < 2 ^ (7 * (k + 1)) := by
    rw [hp]
    have : b * 2 ^ (7 * k) ≤ 127 * 2 ^ (7 * k) := Nat.mul_le_mul_right _ (by omega)
    omega
  have hall : a + b * 2 ^ (7 * k) < 18446744073709551616 := by
    rcases Nat.lt_or_ge k 9 with h | h
    · have : 2 ^ (7 * (k + 1)) ≤ 2 ^ (7 * 9) := Nat.pow_le_pow_right (by decide) (by omega)
      omega
    · have e : k = 9 := by omega
      have := hb9 e
      subst e
      omega
  have hc : ((b : Int) * 2 ^ (7 * k)) = ((b * 2 ^ (7 * k) : Nat) : Int) := by push_cast; rfl
  have hw : IntKind.u64.wrap ((b : Int) * 2 ^ (7 * k)) = ((b * 2 ^ (7 * k) : Nat) : Int) := by rw [hc, IntKind.wrap_u64]; omega
  refine ⟨?_, by rw [hc]; omega, ?_⟩
  · rw [hw, bits_or_u64_nat _ _ (by omega) (by omega), hc, Nat.or_comm, Nat.mul_comm b, ← Nat.two_pow_add_eq_or_of_lt ha b]
    push_cast; omega
  · rw [hc]
    have h2 : ((a + b * 2 ^ (7 * k) : Nat) : Int) < ((2 ^ (7 * (k + 1)) : Nat) : Int) := by exact_mod_cast hsum
    rw [show ((2 : Int) ^ (7 * (k + 1))) = ((2 ^ (7 * (k + 1)) : Nat) : Int) by push_cast; rfl]
    omega
/-- a signed number out of its place -/
def unzz (u : Int) : Int := if u % 2 = 1 then -(u / 2) - 1 else u / 2

/-- what is told of a number that was got -/
structure Got (most : Nat) (n : Nat) (p : Int × Int × Int) : Prop where
  ge : 0 ≤ p.1
  le : p.1 ≤ 18446744073709551615
  le9 : most ≤ 9 → p.1 ≤ 9223372036854775807
  sz : 0 ≤ p.2.1 ∧ p.2.1 ≤ most ∧ p.2.1 ≤ n
  er : p.2.2 = 0 ∧ 1 ≤ p.2.1 ∨ p = (0, 0, 2) ∨ p = (0, 0, 3) ∨ p = (0, 0, 4)
theorem getGo_got (most : Nat) (hm : most ≤ 10) (r : List Int) : ∀ (i : Nat) (u : Int), i ≤ most → 0 ≤ u → u < 2 ^ (7 * i) → (∀ x ∈ r, 0 ≤ x ∧ x ≤ 255) → Got most (i + r.length) (getGo most r i u) := by
  have k2 : Got most 0 (0, 0, 2) := ⟨by decide, by decide, fun _ => by decide, ⟨by decide, by simp, by decide⟩, by simp⟩
  have k3 : Got most 0 (0, 0, 3) := ⟨by decide, by decide, fun _ => by decide, ⟨by decide, by simp, by decide⟩, by simp⟩
  have k4 : Got most 0 (0, 0, 4) := ⟨by decide, by decide, fun _ => by decide, ⟨by decide, by simp, by decide⟩, by simp⟩
  have up : ∀ {n p}, Got most 0 p → Got most n p := fun h => ⟨h.ge, h.le, h.le9, ⟨h.sz.1, h.sz.2.1, by have := h.sz.2.2; omega⟩, h.er⟩
  induction r with
  | nil => intro i u hi h0 h1 _; unfold getGo; split; exact up k3; exact up k2
  | cons x r ih =>
    intro i u hi h0 h1 hb
    have hx := hb x List.mem_cons_self
    unfold getGo
    split
    · exact up k3
    · rename_i hne
      split
      · exact up k3
      · rename_i h9
        have hs := or_shl u (x % 128) i (by omega) h0 h1 (by omega) (by omega) (by omega)
        have hp : (0 : Int) ≤ x % 128 * 2 ^ (7 * i) := Int.mul_nonneg (by omega) (Int.le_of_lt (Int.pow_pos (by decide)))
        split
        · have := ih (i + 1) (u + x % 128 * 2 ^ (7 * i)) (by omega) (by omega) hs.2.2 (fun y hy => hb y (List.mem_cons_of_mem _ hy))
          rw [List.length_cons, show i + (r.length + 1) = i + 1 + r.length by omega]
          exact this
        · split
          · exact up k4
          · refine ⟨?_, ?_, ?_, ?_, ?_⟩
            · simp only; omega
            · exact hs.2.1
            · intro h
              have h2 : (2 : Int) ^ (7 * (i + 1)) ≤ 2 ^ (7 * 9) := by
                have : 2 ^ (7 * (i + 1)) ≤ 2 ^ (7 * 9) := Nat.pow_le_pow_right (by decide) (by omega)
                exact_mod_cast this
              have := hs.2.2
              simp only
              omega
            · simp only [List.length_cons]; omega
            · left; exact ⟨rfl, by simp only; omega⟩
theorem getL_got (most : Nat) (hm : most ≤ 10) (l : List Int) (hb : ∀ x ∈ l, 0 ≤ x ∧ x ≤ 255) : Got most l.length (getL most l) := by
  have := getGo_got most hm l 0 0 (by omega) (by omega) (by omega) hb
  rwa [Nat.zero_add] at this
theorem and_one (u : Int) (h0 : 0 ≤ u) (h1 : u ≤ 18446744073709551615) : bits .and .u64 u 1 = u % 2 := by
  obtain ⟨a, rfl⟩ := Int.eq_ofNat_of_zero_le h0
  have := bits_and_u64_nat a 1 (by omega) (by omega)
  rw [Nat.and_one_is_mod] at this
  simpa using this
theorem xor_i64_0 (a : Int) (h0 : 0 ≤ a) (h1 : a ≤ 9223372036854775807) : bits .xor .i64 a 0 = a := by
  show IntKind.i64.wrap ((BitVec.ofInt 64 a ^^^ BitVec.ofInt 64 0).toNat : Int) = _
  have e2 : BitVec.ofInt 64 0 = 0#64 := by decide
  rw [e2, BitVec.xor_zero, BitVec.toNat_ofInt, IntKind.wrap_i64]
  omega
theorem xor_i64_1 (a : Int) (h0 : 0 ≤ a) (h1 : a ≤ 9223372036854775807) : bits .xor .i64 a (-1) = -a - 1 := by
  have e2 : BitVec.ofInt 64 (-1) = BitVec.allOnes 64 := by decide
  show IntKind.i64.wrap ((BitVec.ofInt 64 a ^^^ BitVec.ofInt 64 (-1)).toNat : Int) = _
  rw [e2, BitVec.xor_allOnes, BitVec.toNat_not, BitVec.toNat_ofInt, IntKind.wrap_i64]
  omega
end Go.Proofs.YtceibabhmomfiaaDoor.H
