/- Plain: the lowest bit of a number, and a number without it. -/
import Derived.Test.YtceibabhmomfiaaDoorPp
import Derived.Laws.Bits64b
namespace Go.Proofs.YtceibabhmomfiaaDoor.H
open Go.RowKit
set_option linter.unusedVariables false
set_option linter.unusedSimpArgs false

theorem and_u32 (a b : Nat) (ha : a < 4294967296) (hb : b < 4294967296) : bits .and .u32 a b = ((a &&& b : Nat) : Int) := by
  show IntKind.u32.wrap ((BitVec.ofInt 32 a &&& BitVec.ofInt 32 b).toNat : Int) = _
  have h : a &&& b < 2 ^ 32 := Nat.and_lt_two_pow a hb
  rw [BitVec.toNat_and, BitVec.toNat_ofInt, BitVec.toNat_ofInt, IntKind.wrap_u32]
  have e1 : ((a : Int) % ((2 ^ 32 : Nat) : Int)).toNat = a := by omega
  have e2 : ((b : Int) % ((2 ^ 32 : Nat) : Int)).toNat = b := by omega
  rw [e1, e2]
  omega
theorem tb0 (q k : Nat) : (2 * q + 1).testBit k = (if k = 0 then true else q.testBit (k - 1)) := by
  cases k with
  | zero => simp
  | succ k => simp [Nat.testBit_succ]; congr 1; omega
theorem tb1 (q k : Nat) : (2 * q).testBit k = (if k = 0 then false else q.testBit (k - 1)) := by
  cases k with
  | zero => simp
  | succ k => simp [Nat.testBit_succ]
theorem and_pred (q t : Nat) : (2 ^ t * (2 * q + 1)) &&& (2 ^ t * (2 * q + 1) - 1) = 2 ^ t * (2 * q) := by
  have hp := Nat.two_pow_pos t
  have e : 2 ^ t * (2 * q + 1) - 1 = 2 ^ t * (2 * q) + (2 ^ t - 1) := by rw [Nat.mul_add]; omega
  rw [e]
  refine Nat.eq_of_testBit_eq fun j => ?_
  rw [Nat.testBit_and, Nat.testBit_two_pow_mul_add _ (by omega : 2 ^ t - 1 < 2 ^ t), Nat.testBit_two_pow_mul, Nat.testBit_two_pow_mul, tb0, tb1]
  by_cases h : j < t
  · simp [h, Nat.not_le.2 h]
  · rw [if_neg h]
    simp only [Nat.not_lt.1 h, decide_true, Bool.true_and]
    split <;> simp
theorem and_neg (q t : Nat) (ht : t < 32) (h : 2 ^ t * (2 * q + 1) < 4294967296) : (2 ^ t * (2 * q + 1)) &&& (4294967296 - 2 ^ t * (2 * q + 1)) = 2 ^ t := by
  have hp := Nat.two_pow_pos t
  have e32 : 4294967296 = 2 ^ t * (2 * 2 ^ (31 - t)) := by
    have : (4294967296 : Nat) = 2 ^ t * 2 ^ (32 - t) := by rw [← Nat.pow_add, show t + (32 - t) = 32 by omega]
    rw [this, show 32 - t = (31 - t) + 1 by omega, Nat.pow_succ, Nat.mul_comm (2 ^ (31 - t)) 2]
  have hq : q < 2 ^ (31 - t) := by
    rw [e32] at h
    have := Nat.lt_of_mul_lt_mul_left h
    omega
  have e : 4294967296 - 2 ^ t * (2 * q + 1) = 2 ^ t * (2 * (2 ^ (31 - t) - (q + 1)) + 1) := by
    rw [e32, ← Nat.mul_sub]
    congr 1
    omega
  rw [e]
  refine Nat.eq_of_testBit_eq fun j => ?_
  rw [Nat.testBit_and, Nat.testBit_two_pow_mul, Nat.testBit_two_pow_mul, tb0, tb0, Nat.testBit_two_pow_sub_succ hq, Nat.testBit_two_pow]
  by_cases h : t ≤ j
  · simp only [h, decide_true, Bool.true_and]
    by_cases h1 : j - t = 0
    · have : t = j := by omega
      simp [h1, this]
    · have : ¬ t = j := by omega
      rw [if_neg h1, if_neg h1]
      cases q.testBit (j - t - 1) <;> simp [this]
  · have : ¬ t = j := by omega
    simp [h, this]
/-- the places of the bits below t -/
def lowB (m t : Nat) : List Nat := (List.range t).filter fun i => m.testBit i
theorem lowB_same (m t s : Nat) (hts : t ≤ s) (h : ∀ i, t ≤ i → i < s → m.testBit i = false) : lowB m s = lowB m t := by
  induction s with
  | zero => have : t = 0 := by omega
            rw [this]
  | succ s ih =>
    by_cases e : t = s + 1
    · rw [e]
    · unfold lowB
      rw [List.range_succ, List.filter_append]
      have h1 : m.testBit s = false := h s (by omega) (by omega)
      have h2 := ih (by omega) (fun i a b => h i a (by omega))
      unfold lowB at h2
      rw [h2]
      simp [h1]
theorem lowB_snoc (m t s : Nat) (hts : t ≤ s) (h : ∀ i, t ≤ i → i < s → m.testBit i = false) (hs : m.testBit s = true) : lowB m (s + 1) = lowB m t ++ [s] := by
  have h2 := lowB_same m t s hts h
  unfold lowB at h2 ⊢
  rw [List.range_succ, List.filter_append, h2]
  simp [hs]
theorem odd_part (c : Nat) (h : 0 < c) : ∃ s q, c = 2 ^ s * (2 * q + 1) := by
  induction c using Nat.strongRecOn with
  | _ c ih =>
    by_cases ho : c % 2 = 1
    · exact ⟨0, c / 2, by omega⟩
    · obtain ⟨s, q, hq⟩ := ih (c / 2) (by omega) (by omega)
      refine ⟨s + 1, q, ?_⟩
      rw [Nat.pow_succ, Nat.mul_comm (2 ^ s) 2, Nat.mul_assoc, ← hq]
      omega
/-- c is m without the bits below t -/
def Rest (m t c : Nat) : Prop := ∀ i, c.testBit i = (decide (t ≤ i) && m.testBit i)
theorem Rest.start (m : Nat) : Rest m 0 m := fun i => by simp
theorem Rest.stop {m t : Nat} (h : Rest m t 0) (hm : m < 4294967296) (ht : t ≤ 32) : lowB m 32 = lowB m t := by
  refine lowB_same m t 32 ht fun i hi _ => ?_
  have := h i
  simp [hi] at this
  exact this
theorem Rest.go {m t s q : Nat} (h : Rest m t (2 ^ s * (2 * q + 1))) (hm : m < 4294967296) :
    t ≤ s ∧ s < 32 ∧ lowB m (s + 1) = lowB m t ++ [s] ∧ Rest m (s + 1) (2 ^ s * (2 * q)) := by
  have hb : ∀ i, (2 ^ s * (2 * q + 1)).testBit i = (decide (s ≤ i) && (if i - s = 0 then true else q.testBit (i - s - 1))) := fun i => by rw [Nat.testBit_two_pow_mul, tb0]
  have hc : ∀ i, (2 ^ s * (2 * q)).testBit i = (decide (s ≤ i) && (if i - s = 0 then false else q.testBit (i - s - 1))) := fun i => by rw [Nat.testBit_two_pow_mul, tb1]
  have h1 := h s
  rw [hb s] at h1
  simp at h1
  have hs32 : s < 32 := by
    refine Classical.byContradiction fun hn => ?_
    have : m.testBit s = false := Nat.testBit_lt_two_pow (Nat.lt_of_lt_of_le hm (by
      have : 2 ^ 32 ≤ 2 ^ s := Nat.pow_le_pow_right (by decide) (by omega)
      exact this))
    rw [this] at h1
    exact absurd h1.2 (by decide)
  refine ⟨h1.1, hs32, lowB_snoc m t s h1.1 (fun i a b => ?_) h1.2, fun i => ?_⟩
  · have := h i
    rw [hb i] at this
    simp [a, Nat.not_le.2 b] at this
    exact this
  · rw [hc i]
    have h2 := h i
    rw [hb i] at h2
    by_cases hi : s + 1 ≤ i
    · have e1 : ¬ i - s = 0 := by omega
      have e2 : s ≤ i := by omega
      have e3 : t ≤ i := by omega
      simp only [e1, e2, e3, hi, decide_true, Bool.true_and, if_false] at h2 ⊢
      exact h2
    · by_cases e2 : s ≤ i
      · have e1 : i - s = 0 := by omega
        simp [e1, hi]
      · simp [e2, hi]
theorem bitsOf_low (m : Nat) : bitsOf (m : Int) = (lowB m 32).map fun (i : Nat) => (⟨1, (i : Int)⟩ : SLoc) := by
  unfold bitsOf lowB
  congr 1
  refine List.filter_congr fun i _ => ?_
  rw [Nat.testBit_eq_decide_div_mod_eq]
  refine decide_eq_decide.2 ?_
  have e : (2 : Int) ^ i = ((2 ^ i : Nat) : Int) := by push_cast; rfl
  rw [e]
  omega
theorem rest_lt {m t c : Nat} (h : Rest m t c) (hm : m < 4294967296) : c < 4294967296 := by
  have : c ≤ m := by
    refine Nat.le_of_testBit ?_
    intro i hi
    have := h i
    rw [hi] at this
    simp at this
    exact this.2.symm ▸ rfl
  omega
end Go.Proofs.YtceibabhmomfiaaDoor.H
