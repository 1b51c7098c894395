/- The plain side of layer 1: there and back. -/
import Derived.Test.YtceibabhmomfiaaDoorVp
namespace Go.Proofs.YtceibabhmomfiaaDoor.H
open Go
set_option linter.unusedVariables false

theorem pow_step (i : Nat) : (2 : Int) ^ (7 * (i + 1)) = 128 * 2 ^ (7 * i) := by
  rw [Nat.mul_add, Int.pow_add]; omega
theorem pow_pos' (i : Nat) : (0 : Int) < 2 ^ (7 * i) := Int.pow_pos (by decide)
theorem digs_len_lt (j : Nat) : ∀ (n : Nat) (u : Int), u < 128 ^ (j + 1) → (digs n u).length ≤ j + 1 := by
  induction j with
  | zero => intro n u h; rw [digs_small n u (by omega)]; simp
  | succ j ih =>
    intro n u h
    by_cases hu : 128 ≤ u
    · cases n with
      | zero => simp [digs]
      | succ n =>
        rw [digs_great n u hu, List.length_cons]
        have := ih n (u / 128) (by rw [Int.pow_succ] at h; omega)
        omega
    · rw [digs_small n u (by omega)]; simp
/-- what was put is got -/
theorem get_digs (most : Nat) (hm : most ≤ 10) (b : List Int) (k : Nat) : ∀ (u : Int) (i : Nat) (acc : Int), 0 ≤ u → u < 128 ^ (k + 1) → (0 < i → 0 < u) → i + (digs k u).length ≤ most → u * 2 ^ (7 * i) < 18446744073709551616 →
    getGo most (digs k u ++ b) i acc = (acc + u * 2 ^ (7 * i), (i : Int) + (digs k u).length, 0) := by
  have small : ∀ (u : Int) (i : Nat) (acc : Int), 0 ≤ u → u < 128 → (0 < i → 0 < u) → i + 1 ≤ most → u * 2 ^ (7 * i) < 18446744073709551616 → getGo most ([u] ++ b) i acc = (acc + u * 2 ^ (7 * i), (i : Int) + ([u] : List Int).length, 0) := by
    intro u i acc h0 h1 hp hl hv
    have e : u % 128 = u := by omega
    have h9 : ¬ (i = 9 ∧ 1 < u) := by
      rintro ⟨rfl, h⟩
      omega
    show getGo most (u :: b) i acc = _
    unfold getGo
    rw [if_neg (by omega), e, if_neg h9, if_neg (by omega), if_neg (by omega)]
    simp
  induction k with
  | zero =>
    intro u i acc h0 h1 hp hl hv
    exact small u i acc h0 (by omega) hp (by simpa [digs] using hl) hv
  | succ k ih =>
    intro u i acc h0 h1 hp hl hv
    by_cases h : 128 ≤ u
    · rw [digs_great k u h] at hl ⊢
      rw [List.length_cons] at hl ⊢
      rw [List.cons_append]
      have e : (u % 128 + 128) % 128 = u % 128 := by omega
      have hpw := pow_pos' i
      have h9 : i ≠ 9 := by
        rintro rfl
        omega
      have hm2 : u / 128 * 2 ^ (7 * (i + 1)) + u % 128 * 2 ^ (7 * i) = u * 2 ^ (7 * i) := by
        rw [pow_step, ← Int.mul_assoc, ← Int.add_mul]
        congr 1
        omega
      have hnn : 0 ≤ u % 128 * 2 ^ (7 * i) := Int.mul_nonneg (by omega) (Int.le_of_lt hpw)
      have := ih (u / 128) (i + 1) (acc + u % 128 * 2 ^ (7 * i)) (by omega) (by rw [Int.pow_succ] at h1; omega) (fun _ => by omega) (by omega) (by omega)
      unfold getGo
      rw [if_neg (by omega), e, if_neg (fun c => h9 c.1), if_pos (by omega), this, Int.add_assoc, Int.add_comm (u % 128 * _), hm2]
      simp only [Prod.mk.injEq, true_and, and_true]
      push_cast
      omega
    · rw [digs_small (k + 1) u (by omega)] at hl ⊢
      exact small u i acc h0 (by omega) hp (by simpa using hl) hv
theorem unzz_zz (n : Int) : unzz (zz n) = n := by unfold unzz zz; split <;> split <;> omega
theorem zz_unzz (u : Int) (h : 0 ≤ u) : zz (unzz u) = u := by unfold unzz zz; split <;> split <;> omega
theorem get_put (m : Int) (b : List Int) (h0 : 0 ≤ m) (h1 : m ≤ 9223372036854775807) : getL 9 (digs 9 m ++ b) = (m, ((digs 9 m).length : Int), 0) := by
  have := get_digs 9 (by decide) b 9 m 0 0 h0 (by omega) (by omega) (by have := digs_len_lt 8 9 m (by omega); omega) (by omega)
  simpa [getL] using this
theorem getSigned_put (m : Int) (b : List Int) (h0 : 0 ≤ m) (h1 : m ≤ 18446744073709551615) : getL 10 (digs 9 m ++ b) = (m, ((digs 9 m).length : Int), 0) := by
  have := get_digs 10 (by decide) b 9 m 0 0 h0 (by omega) (by omega) (by have := digs_len_lt 9 9 m (by omega); omega) (by omega)
  simpa [getL] using this
/-- what is got has just those bytes -/
theorem digs_get (most : Nat) (hm : most ≤ 10) (v s : Int) (r : List Int) : ∀ (i : Nat) (acc : Int), (∀ x ∈ r, 0 ≤ x ∧ x ≤ 255) → i ≤ most → getGo most r i acc = (v, s, 0) →
    ∃ (u : Int) (j : Nat), 0 ≤ u ∧ v = acc + u * 2 ^ (7 * i) ∧ s = i + (j + 1) ∧ (0 < i → 0 < u) ∧ i + (j + 1) ≤ most ∧ j + 1 ≤ r.length ∧ ∀ k, j ≤ k → digs k u = r.take (j + 1) := by
  induction r with
  | nil => intro i acc _ _ h; unfold getGo at h; split at h <;> simp at h
  | cons x r ih =>
    intro i acc hb hi h
    have hx := hb x List.mem_cons_self
    unfold getGo at h
    split at h
    · simp at h
    rename_i hne
    split at h
    · simp at h
    split at h
    · rename_i h128
      obtain ⟨u, j, h0, hv, hs, hp, hj, hl, hd⟩ := ih (i + 1) _ (fun y hy => hb y (List.mem_cons_of_mem _ hy)) (by omega) h
      have hu := hp (by omega)
      refine ⟨u * 128 + x % 128, j + 1, by omega, ?_, by omega, fun _ => by omega, by omega, by simp; omega, fun k hk => ?_⟩
      · rw [hv, pow_step, Int.add_mul, ← Int.mul_assoc]
        omega
      · obtain ⟨k, rfl⟩ : ∃ m, k = m + 1 := ⟨k - 1, by omega⟩
        rw [digs_great k _ (by omega), show (u * 128 + x % 128) / 128 = u by omega, hd k (by omega), show (u * 128 + x % 128) % 128 + 128 = x by omega]
        simp
    · split at h
      · simp at h
      · rename_i h128 h0
        simp only [Prod.mk.injEq, and_true] at h
        refine ⟨x, 0, hx.1, by rw [← h.1, show x % 128 = x by omega], by omega, fun hi => by omega, by omega, by simp, fun k _ => ?_⟩
        rw [digs_small k x (by omega)]
        simp
theorem put_get (most : Nat) (hm : most ≤ 10) (l : List Int) (u s : Int) (hb : ∀ x ∈ l, 0 ≤ x ∧ x ≤ 255) (h : getL most l = (u, s, 0)) : 0 ≤ u ∧ 1 ≤ s ∧ s ≤ l.length ∧ digs 9 u = l.take s.toNat := by
  obtain ⟨v, j, h0, hv, hs, _, hj, hl, hd⟩ := digs_get most hm u s l 0 0 hb (by omega) h
  simp only [Int.mul_one, Int.zero_add, Nat.mul_zero, Int.pow_zero] at hv
  subst hv
  exact ⟨h0, by omega, by omega, by rw [hd 9 (by omega)]; congr 1; omega⟩
end Go.Proofs.YtceibabhmomfiaaDoor.H
