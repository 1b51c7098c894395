/- Texts of this work, joined: Vg, Vq, Cc. Conditions: each stands with its theorem. -/
import Derived.Test.YtceibabhmomfiaaDoorX01
/- Layer 1, the walks of what gets. -/
namespace Go.Proofs.YtceibabhmomfiaaDoor.H
open Go.RowKit Go.Proofs.YtceibabhmomfiaaDoorW.PrintWords
set_option linter.unusedVariables false
set_option linter.unusedSimpArgs false

/-- bytes -/
abbrev Bytes (l : List Int) : Prop := Aside0 (∀ x ∈ l, 0 ≤ x ∧ x ≤ 255)
theorem Bytes.at_ {l : List Int} (h : Bytes l) (i : Int) (h0 : 0 ≤ i) (h1 : i < (l.length : Int)) : 0 ≤ rd l i ∧ rd l i ≤ 255 := by
  refine h.out _ ?_
  rw [rd, List.getD_eq_getElem?_getD, List.getElem?_eq_getElem (by omega)]
  exact List.getElem_mem _
theorem drop_rd (l : List Int) (k : Nat) (h : k < l.length) : l.drop k = rd l (k : Int) :: l.drop (k + 1) := by
  rw [List.drop_eq_getElem_cons h, rd, List.getD_eq_getElem?_getD, List.getElem?_eq_getElem (by simpa using h)]; rfl

theorem trip {a b c : Int} {p : Int × Int × Int} (h : (a, b, c) = p) : Ending.returned (.tuple #[.int .u64 a, .int .i64 b, .int .i64 c]) = .returned (.tuple #[.int .u64 p.1, .int .i64 p.2.1, .int .i64 p.2.2]) := by rw [← h]
theorem getGo_end (most : Nat) (l : List Int) (u : Int) (h : l.length ≤ most) : getGo most [] l.length u = (if most ≤ l.length then (0, 0, 3) else (0, 0, 2)) := by
  unfold getGo
  by_cases e : most ≤ l.length
  · rw [if_pos e, if_pos (by omega)]
  · rw [if_neg e, if_neg (by omega)]

set_option maxHeartbeats 2000000 in
theorem get_any (A : Option Addr) (c : Nat) (l : List Int) (most : Nat) (w : World) (hm0 : 1 ≤ most) (hm : most ≤ 10) (hc : l.length ≤ c) (HR : RdB w A l) (hby : Bytes l) (hl : l.length ≤ 9223372036854775807) :
    Calls Tryd.prog 85 #[.slice A l.length c, .int .i64 most] w fun e w' => e = .returned (.tuple #[.int .u64 (getL most l).1, .int .i64 (getL most l).2.1, .int .i64 (getL most l).2.2]) ∧ w = w' := by
  by_cases hml : most < l.length
  · skip
    go_enter Tryd.func85, Tryd.ntmps85
    go_wp2
    go_loop [7, 18] (fun a i => ∃ (k : Nat) (u : Int), k ≤ most ∧ a = .int .u64 u ∧ i = .int .i64 k ∧ 0 ≤ u ∧ Aside0 (u < 2 ^ (7 * k)) ∧ Aside0 (getGo most (l.drop k) k u = getL most l)) (fun _ i => most - (intOf i).toNat)
    case atStart => exact ⟨0, 0, by omega, rfl, rfl, by omega, ⟨by omega⟩, ⟨rfl⟩⟩
    case round =>
      obtain ⟨k, u, hk, rfl, rfl, hu0, hu1, hg⟩ := hrel
      by_cases hlt : k < most
      · have hkl : k < l.length := by omega
        obtain ⟨ad, rfl, hcell⟩ := rd_atN HR k (by omega)
        have hxb := hby.at_ (k : Int) (by omega) (by omega)
        have hg1 := hg.out
        rw [drop_rd l k hkl, getGo, if_neg (by omega)] at hg1
        obtain ⟨x, hx⟩ : ∃ x, rd l (k : Int) = x := ⟨_, rfl⟩
        rw [hx] at hcell hg1 hxb
        clear hx hg
        have hx0 := hxb.1
        have hx1 := hxb.2
        clear hxb
        have hlo := byte_low x hx0 hx1
        have hhi0 := byte_high x hx0 hx1
        obtain ⟨lo, hlo2⟩ : ∃ lo, x % 128 = lo := ⟨_, rfl⟩
        have hlo0 : 0 ≤ lo := by omega
        have hlo1 : lo < 128 := by omega
        rw [hlo2] at hlo hg1
        replace hlo2 := Aside0.mk hlo2
        by_cases h9 : k = 9
        · have b1 : ((k : Int) == 9) = true := by simp; omega
          by_cases hlow : 1 < lo
          · rw [if_pos ⟨h9, hlow⟩] at hg1
            replace h9 := Aside0.mk h9
            replace hg1 := Aside0.mk hg1
            clear hhi0
            go_wp2
            go_ret3
            exact ⟨trip hg1.out, rfl⟩
          · rw [if_neg (by omega)] at hg1
            obtain ⟨hor, hs2, hs3⟩ := or_shl u lo k (by omega) hu0 hu1.out hlo0 hlo1 (by omega)
            replace h9 := Aside0.mk h9
            have b2 : decide (1 < lo) = false := by simp; omega
            by_cases h128 : 128 ≤ x
            · rw [if_pos h128] at hhi0 hg1
              replace hg1 := Aside0.mk hg1
              replace hs3 := Aside0.mk hs3
              have hs0 : 0 ≤ u + lo * 2 ^ (7 * k) := by have := Int.mul_nonneg hlo0 (show (0 : Int) ≤ 2 ^ (7 * k) from Int.le_of_lt (Int.pow_pos (by decide))); omega
              go_wp2
              go_round
              case rel => exact ⟨k + 1, u + lo * 2 ^ (7 * k), by omega, rfl, by go_num, hs0, hs3, hg1⟩
              case measure => simp [intOf]; omega
            · rw [if_neg h128] at hhi0 hg1
              by_cases hx00 : x = 0
              · have b3 : (x == 0) = true := by simp [hx00]
                by_cases hk0 : 0 < k
                · have b4 : decide ((0 : Int) < (k : Int)) = true := by simp; omega
                  rw [if_pos ⟨hx00, hk0⟩] at hg1
                  replace hg1 := Aside0.mk hg1
                  replace hx00 := Aside0.mk hx00
                  go_wp2
                  go_ret3
                  exact ⟨trip hg1.out, rfl⟩
                · have b4 : decide ((0 : Int) < (k : Int)) = false := by simp; omega
                  rw [if_neg (by omega)] at hg1
                  replace hg1 := Aside0.mk hg1
                  replace hx00 := Aside0.mk hx00
                  go_wp2
                  go_ret3
                  exact ⟨trip hg1.out, rfl⟩
              · have b3 : (x == 0) = false := by simpa using hx00
                rw [if_neg (by omega)] at hg1
                replace hg1 := Aside0.mk hg1
                replace hx00 := Aside0.mk hx00
                go_wp2
                go_ret3
                exact ⟨trip hg1.out, rfl⟩
        · have b1 : ((k : Int) == 9) = false := by simp; omega
          rw [if_neg (by omega)] at hg1
          obtain ⟨hor, hs2, hs3⟩ := or_shl u lo k (by omega) hu0 hu1.out hlo0 hlo1 (by omega)
          replace h9 := Aside0.mk h9
          by_cases h128 : 128 ≤ x
          · rw [if_pos h128] at hhi0 hg1
            replace hg1 := Aside0.mk hg1
            replace hs3 := Aside0.mk hs3
            have hs0 : 0 ≤ u + lo * 2 ^ (7 * k) := by have := Int.mul_nonneg hlo0 (show (0 : Int) ≤ 2 ^ (7 * k) from Int.le_of_lt (Int.pow_pos (by decide))); omega
            go_wp2
            go_round
            case rel => exact ⟨k + 1, u + lo * 2 ^ (7 * k), by omega, rfl, by go_num, hs0, hs3, hg1⟩
            case measure => simp [intOf]; omega
          · rw [if_neg h128] at hhi0 hg1
            by_cases hx00 : x = 0
            · have b3 : (x == 0) = true := by simp [hx00]
              by_cases hk0 : 0 < k
              · have b4 : decide ((0 : Int) < (k : Int)) = true := by simp; omega
                rw [if_pos ⟨hx00, hk0⟩] at hg1
                replace hg1 := Aside0.mk hg1
                replace hx00 := Aside0.mk hx00
                go_wp2
                go_ret3
                exact ⟨trip hg1.out, rfl⟩
              · have b4 : decide ((0 : Int) < (k : Int)) = false := by simp; omega
                rw [if_neg (by omega)] at hg1
                replace hg1 := Aside0.mk hg1
                replace hx00 := Aside0.mk hx00
                go_wp2
                go_ret3
                exact ⟨trip hg1.out, rfl⟩
            · have b3 : (x == 0) = false := by simpa using hx00
              rw [if_neg (by omega)] at hg1
              replace hg1 := Aside0.mk hg1
              replace hx00 := Aside0.mk hx00
              go_wp2
              go_ret3
              exact ⟨trip hg1.out, rfl⟩
      · have hk2 : k = most := by omega
        have hg1 := hg.out
        have e2 : l.drop k = [] ∨ k = most := by rcases Nat.lt_or_ge k l.length with h | h; exact .inr (by omega); exact .inl (List.drop_eq_nil_of_le h)
        by_cases hge : most ≤ l.length
        · have b5 : decide (most ≤ l.length) = true := decide_eq_true hge
          have b6 : decide ((most : Int) ≤ (l.length : Int)) = true := decide_eq_true (by omega)
          have hv : (0, 0, 3) = getL most l := by
            rw [← hg1, show k = most by omega]
            cases l.drop most <;> simp [getGo]
          have hv' := Aside0.mk hv
          clear hv hg hg1 e2 hk2
          go_wp2
          go_ret3
          exact ⟨trip hv'.out, rfl⟩
        · have b5 : decide (most ≤ l.length) = false := decide_eq_false hge
          have b6 : decide ((most : Int) ≤ (l.length : Int)) = false := decide_eq_false (by omega)
          have hv : (0, 0, 2) = getL most l := by
            rw [← hg1, List.drop_eq_nil_of_le (show l.length ≤ k by omega)]
            simp only [getGo]
            rw [if_neg (by omega)]
          have hv' := Aside0.mk hv
          clear hv hg hg1 e2 hk2
          go_wp2
          go_ret3
          exact ⟨trip hv'.out, rfl⟩
  · skip
    go_enter Tryd.func85, Tryd.ntmps85
    go_wp2
    go_loop [7, 18] (fun a i => ∃ (k : Nat) (u : Int), k ≤ l.length ∧ a = .int .u64 u ∧ i = .int .i64 k ∧ 0 ≤ u ∧ Aside0 (u < 2 ^ (7 * k)) ∧ Aside0 (getGo most (l.drop k) k u = getL most l)) (fun _ i => l.length - (intOf i).toNat)
    case atStart => exact ⟨0, 0, by omega, rfl, rfl, by omega, ⟨by omega⟩, ⟨rfl⟩⟩
    case round =>
      obtain ⟨k, u, hk, rfl, rfl, hu0, hu1, hg⟩ := hrel
      by_cases hlt : k < l.length
      · have hkl : k < l.length := by omega
        obtain ⟨ad, rfl, hcell⟩ := rd_atN HR k (by omega)
        have hxb := hby.at_ (k : Int) (by omega) (by omega)
        have hg1 := hg.out
        rw [drop_rd l k hkl, getGo, if_neg (by omega)] at hg1
        obtain ⟨x, hx⟩ : ∃ x, rd l (k : Int) = x := ⟨_, rfl⟩
        rw [hx] at hcell hg1 hxb
        clear hx hg
        have hx0 := hxb.1
        have hx1 := hxb.2
        clear hxb
        have hlo := byte_low x hx0 hx1
        have hhi0 := byte_high x hx0 hx1
        obtain ⟨lo, hlo2⟩ : ∃ lo, x % 128 = lo := ⟨_, rfl⟩
        have hlo0 : 0 ≤ lo := by omega
        have hlo1 : lo < 128 := by omega
        rw [hlo2] at hlo hg1
        replace hlo2 := Aside0.mk hlo2
        by_cases h9 : k = 9
        · have b1 : ((k : Int) == 9) = true := by simp; omega
          by_cases hlow : 1 < lo
          · rw [if_pos ⟨h9, hlow⟩] at hg1
            replace h9 := Aside0.mk h9
            replace hg1 := Aside0.mk hg1
            clear hhi0
            go_wp2
            go_ret3
            exact ⟨trip hg1.out, rfl⟩
          · rw [if_neg (by omega)] at hg1
            obtain ⟨hor, hs2, hs3⟩ := or_shl u lo k (by omega) hu0 hu1.out hlo0 hlo1 (by omega)
            replace h9 := Aside0.mk h9
            have b2 : decide (1 < lo) = false := by simp; omega
            by_cases h128 : 128 ≤ x
            · rw [if_pos h128] at hhi0 hg1
              replace hg1 := Aside0.mk hg1
              replace hs3 := Aside0.mk hs3
              have hs0 : 0 ≤ u + lo * 2 ^ (7 * k) := by have := Int.mul_nonneg hlo0 (show (0 : Int) ≤ 2 ^ (7 * k) from Int.le_of_lt (Int.pow_pos (by decide))); omega
              go_wp2
              go_round
              case rel => exact ⟨k + 1, u + lo * 2 ^ (7 * k), by omega, rfl, by go_num, hs0, hs3, hg1⟩
              case measure => simp [intOf]; omega
            · rw [if_neg h128] at hhi0 hg1
              by_cases hx00 : x = 0
              · have b3 : (x == 0) = true := by simp [hx00]
                by_cases hk0 : 0 < k
                · have b4 : decide ((0 : Int) < (k : Int)) = true := by simp; omega
                  rw [if_pos ⟨hx00, hk0⟩] at hg1
                  replace hg1 := Aside0.mk hg1
                  replace hx00 := Aside0.mk hx00
                  go_wp2
                  go_ret3
                  exact ⟨trip hg1.out, rfl⟩
                · have b4 : decide ((0 : Int) < (k : Int)) = false := by simp; omega
                  rw [if_neg (by omega)] at hg1
                  replace hg1 := Aside0.mk hg1
                  replace hx00 := Aside0.mk hx00
                  go_wp2
                  go_ret3
                  exact ⟨trip hg1.out, rfl⟩
              · have b3 : (x == 0) = false := by simpa using hx00
                rw [if_neg (by omega)] at hg1
                replace hg1 := Aside0.mk hg1
                replace hx00 := Aside0.mk hx00
                go_wp2
                go_ret3
                exact ⟨trip hg1.out, rfl⟩
        · have b1 : ((k : Int) == 9) = false := by simp; omega
          rw [if_neg (by omega)] at hg1
          obtain ⟨hor, hs2, hs3⟩ := or_shl u lo k (by omega) hu0 hu1.out hlo0 hlo1 (by omega)
          replace h9 := Aside0.mk h9
          by_cases h128 : 128 ≤ x
          · rw [if_pos h128] at hhi0 hg1
            replace hg1 := Aside0.mk hg1
            replace hs3 := Aside0.mk hs3
            have hs0 : 0 ≤ u + lo * 2 ^ (7 * k) := by have := Int.mul_nonneg hlo0 (show (0 : Int) ≤ 2 ^ (7 * k) from Int.le_of_lt (Int.pow_pos (by decide))); omega
            go_wp2
            go_round
            case rel => exact ⟨k + 1, u + lo * 2 ^ (7 * k), by omega, rfl, by go_num, hs0, hs3, hg1⟩
            case measure => simp [intOf]; omega
          · rw [if_neg h128] at hhi0 hg1
            by_cases hx00 : x = 0
            · have b3 : (x == 0) = true := by simp [hx00]
              by_cases hk0 : 0 < k
              · have b4 : decide ((0 : Int) < (k : Int)) = true := by simp; omega
                rw [if_pos ⟨hx00, hk0⟩] at hg1
                replace hg1 := Aside0.mk hg1
                replace hx00 := Aside0.mk hx00
                go_wp2
                go_ret3
                exact ⟨trip hg1.out, rfl⟩
              · have b4 : decide ((0 : Int) < (k : Int)) = false := by simp; omega
                rw [if_neg (by omega)] at hg1
                replace hg1 := Aside0.mk hg1
                replace hx00 := Aside0.mk hx00
                go_wp2
                go_ret3
                exact ⟨trip hg1.out, rfl⟩
            · have b3 : (x == 0) = false := by simpa using hx00
              rw [if_neg (by omega)] at hg1
              replace hg1 := Aside0.mk hg1
              replace hx00 := Aside0.mk hx00
              go_wp2
              go_ret3
              exact ⟨trip hg1.out, rfl⟩
      · have hk2 : k = l.length := by omega
        have hg1 := hg.out
        have e2 : l.drop k = [] ∨ k = most := by rcases Nat.lt_or_ge k l.length with h | h; exact .inr (by omega); exact .inl (List.drop_eq_nil_of_le h)
        by_cases hge : most ≤ l.length
        · have b5 : decide (most ≤ l.length) = true := decide_eq_true hge
          have b6 : decide ((most : Int) ≤ (l.length : Int)) = true := decide_eq_true (by omega)
          have hv : (0, 0, 3) = getL most l := by
            rw [← hg1, show k = most by omega]
            cases l.drop most <;> simp [getGo]
          have hv' := Aside0.mk hv
          clear hv hg hg1 e2 hk2
          go_wp2
          go_ret3
          exact ⟨trip hv'.out, rfl⟩
        · have b5 : decide (most ≤ l.length) = false := decide_eq_false hge
          have b6 : decide ((most : Int) ≤ (l.length : Int)) = false := decide_eq_false (by omega)
          have hv : (0, 0, 2) = getL most l := by
            rw [← hg1, List.drop_eq_nil_of_le (show l.length ≤ k by omega)]
            simp only [getGo]
            rw [if_neg (by omega)]
          have hv' := Aside0.mk hv
          clear hv hg hg1 e2 hk2
          go_wp2
          go_ret3
          exact ⟨trip hv'.out, rfl⟩
end Go.Proofs.YtceibabhmomfiaaDoor.H

/- The plain side of layer 1: there and back. -/
namespace Go.Proofs.YtceibabhmomfiaaDoor.H
open Go
set_option linter.unusedVariables false

theorem pow_step (i : Nat) : (2 : Int) ^ (7 * (i + 1)) = 128 * 2 ^ (7 * i) := by
  rw [Nat.mul_add, Int.pow_add]; omega
theorem pow_pos' (i : Nat) : (0 : Int) < 2 ^ (7 * i) := Int.pow_pos (by decide)
theorem digs_len_lt (j : Nat) : ∀ (n : Nat) (u : Int), u < 128 ^ (j + 1) → (digs n u).length ≤ j + 1 := by
  induction j with
  | zero => intro n u h; rw [digs_small n u (by omega)]; simp
  | succ j ih =>
    intro n u h
    by_cases hu : 128 ≤ u
    · cases n with
      | zero => simp [digs]
      | succ n =>
        rw [digs_great n u hu, List.length_cons]
        have := ih n (u / 128) (by rw [Int.pow_succ] at h; omega)
        omega
    · rw [digs_small n u (by omega)]; simp
/-- what was put is got -/
theorem get_digs (most : Nat) (hm : most ≤ 10) (b : List Int) (k : Nat) : ∀ (u : Int) (i : Nat) (acc : Int), 0 ≤ u → u < 128 ^ (k + 1) → (0 < i → 0 < u) → i + (digs k u).length ≤ most → u * 2 ^ (7 * i) < 18446744073709551616 →
    getGo most (digs k u ++ b) i acc = (acc + u * 2 ^ (7 * i), (i : Int) + (digs k u).length, 0) := by
  have small : ∀ (u : Int) (i : Nat) (acc : Int), 0 ≤ u → u < 128 → (0 < i → 0 < u) → i + 1 ≤ most → u * 2 ^ (7 * i) < 18446744073709551616 → getGo most ([u] ++ b) i acc = (acc + u * 2 ^ (7 * i), (i : Int) + ([u] : List Int).length, 0) := by
    intro u i acc h0 h1 hp hl hv
    have e : u % 128 = u := by omega
    have h9 : ¬ (i = 9 ∧ 1 < u) := by
      rintro ⟨rfl, h⟩
      omega
    show getGo most (u :: b) i acc = _
    unfold getGo
    rw [if_neg (by omega), e, if_neg h9, if_neg (by omega), if_neg (by omega)]
    simp
  induction k with
  | zero =>
    intro u i acc h0 h1 hp hl hv
    exact small u i acc h0 (by omega) hp (by simpa [digs] using hl) hv
  | succ k ih =>
    intro u i acc h0 h1 hp hl hv
    by_cases h : 128 ≤ u
    · rw [digs_great k u h] at hl ⊢
      rw [List.length_cons] at hl ⊢
      rw [List.cons_append]
      have e : (u % 128 + 128) % 128 = u % 128 := by omega
      have hpw := pow_pos' i
      have h9 : i ≠ 9 := by
        rintro rfl
        omega
      have hm2 : u / 128 * 2 ^ (7 * (i + 1)) + u % 128 * 2 ^ (7 * i) = u * 2 ^ (7 * i) := by
        rw [pow_step, ← Int.mul_assoc, ← Int.add_mul]
        congr 1
        omega
      have hnn : 0 ≤ u % 128 * 2 ^ (7 * i) := Int.mul_nonneg (by omega) (Int.le_of_lt hpw)
      have := ih (u / 128) (i + 1) (acc + u % 128 * 2 ^ (7 * i)) (by omega) (by rw [Int.pow_succ] at h1; omega) (fun _ => by omega) (by omega) (by omega)
      unfold getGo
      rw [if_neg (by omega), e, if_neg (fun c => h9 c.1), if_pos (by omega), this, Int.add_assoc, Int.add_comm (u % 128 * _), hm2]
      simp only [Prod.mk.injEq, true_and, and_true]
      push_cast
      omega
    · rw [digs_small (k + 1) u (by omega)] at hl ⊢
      exact small u i acc h0 (by omega) hp (by simpa using hl) hv
theorem unzz_zz (n : Int) : unzz (zz n) = n := by unfold unzz zz; split <;> split <;> omega
theorem zz_unzz (u : Int) (h : 0 ≤ u) : zz (unzz u) = u := by unfold unzz zz; split <;> split <;> omega
theorem get_put (m : Int) (b : List Int) (h0 : 0 ≤ m) (h1 : m ≤ 9223372036854775807) : getL 9 (digs 9 m ++ b) = (m, ((digs 9 m).length : Int), 0) := by
  have := get_digs 9 (by decide) b 9 m 0 0 h0 (by omega) (by omega) (by have := digs_len_lt 8 9 m (by omega); omega) (by omega)
  simpa [getL] using this
theorem getSigned_put (m : Int) (b : List Int) (h0 : 0 ≤ m) (h1 : m ≤ 18446744073709551615) : getL 10 (digs 9 m ++ b) = (m, ((digs 9 m).length : Int), 0) := by
  have := get_digs 10 (by decide) b 9 m 0 0 h0 (by omega) (by omega) (by have := digs_len_lt 9 9 m (by omega); omega) (by omega)
  simpa [getL] using this
/-- what is got has just those bytes -/
theorem digs_get (most : Nat) (hm : most ≤ 10) (v s : Int) (r : List Int) : ∀ (i : Nat) (acc : Int), (∀ x ∈ r, 0 ≤ x ∧ x ≤ 255) → i ≤ most → getGo most r i acc = (v, s, 0) →
    ∃ (u : Int) (j : Nat), 0 ≤ u ∧ v = acc + u * 2 ^ (7 * i) ∧ s = i + (j + 1) ∧ (0 < i → 0 < u) ∧ i + (j + 1) ≤ most ∧ j + 1 ≤ r.length ∧ ∀ k, j ≤ k → digs k u = r.take (j + 1) := by
  induction r with
  | nil => intro i acc _ _ h; unfold getGo at h; split at h <;> simp at h
  | cons x r ih =>
    intro i acc hb hi h
    have hx := hb x List.mem_cons_self
    unfold getGo at h
    split at h
    · simp at h
    rename_i hne
    split at h
    · simp at h
    split at h
    · rename_i h128
      obtain ⟨u, j, h0, hv, hs, hp, hj, hl, hd⟩ := ih (i + 1) _ (fun y hy => hb y (List.mem_cons_of_mem _ hy)) (by omega) h
      have hu := hp (by omega)
      refine ⟨u * 128 + x % 128, j + 1, by omega, ?_, by omega, fun _ => by omega, by omega, by simp; omega, fun k hk => ?_⟩
      · rw [hv, pow_step, Int.add_mul, ← Int.mul_assoc]
        omega
      · obtain ⟨k, rfl⟩ : ∃ m, k = m + 1 := ⟨k - 1, by omega⟩
        rw [digs_great k _ (by omega), show (u * 128 + x % 128) / 128 = u by omega, hd k (by omega), show (u * 128 + x % 128) % 128 + 128 = x by omega]
        simp
    · split at h
      · simp at h
      · rename_i h128 h0
        simp only [Prod.mk.injEq, and_true] at h
        refine ⟨x, 0, hx.1, by rw [← h.1, show x % 128 = x by omega], by omega, fun hi => by omega, by omega, by simp, fun k _ => ?_⟩
        rw [digs_small k x (by omega)]
        simp
theorem put_get (most : Nat) (hm : most ≤ 10) (l : List Int) (u s : Int) (hb : ∀ x ∈ l, 0 ≤ x ∧ x ≤ 255) (h : getL most l = (u, s, 0)) : 0 ≤ u ∧ 1 ≤ s ∧ s ≤ l.length ∧ digs 9 u = l.take s.toNat := by
  obtain ⟨v, j, h0, hv, hs, _, hj, hl, hd⟩ := digs_get most hm u s l 0 0 hb (by omega) h
  simp only [Int.mul_one, Int.zero_add, Nat.mul_zero, Int.pow_zero] at hv
  subst hv
  exact ⟨h0, by omega, by omega, by rw [hd 9 (by omega)]; congr 1; omega⟩
end Go.Proofs.YtceibabhmomfiaaDoor.H

/- Plain: what is taken off bytes is what was laid, and nothing else. -/
namespace Go.Proofs.YtceibabhmomfiaaDoor.H
open Go.RowKit
set_option linter.unusedVariables false
set_option linter.unusedSimpArgs false

def ByL (l : List Int) : Prop := ∀ x ∈ l, 0 ≤ x ∧ x ≤ 255
theorem ByL.right {a b : List Int} (h : ByL (a ++ b)) : ByL b := fun x hx => h x (List.mem_append.2 (.inr hx))
theorem ByL.left {a b : List Int} (h : ByL (a ++ b)) : ByL a := fun x hx => h x (List.mem_append.2 (.inl hx))
/-- p takes off just what s lays, of what is P; what ends within it is too short -/
structure Cod {α : Type} (p : List Int → PR α) (s : α → List Int) (P : α → Prop) : Prop where
  fwd : ∀ x, P x → ∀ r, p (s x ++ r) = .ok (x, r)
  bwd : ∀ l, ByL l → ∀ x r, p l = .ok (x, r) → P x ∧ l = s x ++ r
  cut : ∀ x, P x → ∀ c t, s x = c ++ t → t ≠ [] → p c = .error 2
section
variable {α β : Type} {p : List Int → PR α} {s : α → List Int} {P : α → Prop}
theorem Cod.congr {s' : α → List Int} {P' : α → Prop} (h : Cod p s P) (hs : ∀ x, P' x → s x = s' x) (hP : ∀ x, P x ↔ P' x) : Cod p s' P' :=
  ⟨fun x hx r => by rw [← hs x hx]; exact h.fwd x ((hP x).2 hx) r, fun l hl x r hp => by
    obtain ⟨h1, h2⟩ := h.bwd l hl x r hp
    exact ⟨(hP x).1 h1, by rw [← hs x ((hP x).1 h1)]; exact h2⟩, fun x hx c t hc ht => h.cut x ((hP x).2 hx) c t (by rw [hs x hx]; exact hc) ht⟩
theorem Cod.imp {p' : List Int → PR α} (h : Cod p s P) (e : ∀ l, p' l = p l) : Cod p' s P := by
  have : p' = p := funext e
  rw [this]; exact h
theorem Cod.ret (x : α) : Cod (pRet x) (fun _ => []) (fun y => y = x) :=
  ⟨fun y hy r => by rw [hy]; rfl, fun l _ y r hp => by
    unfold pRet at hp
    injection hp with hp
    injection hp with h1 h2
    exact ⟨h1.symm, by rw [h2]; rfl⟩, fun _ _ c t h ht => by
    have := (List.append_eq_nil_iff.1 h.symm).2
    exact absurd this ht⟩
theorem app_split {a b c t : List Int} (h : a ++ b = c ++ t) : (∃ t', a = c ++ t' ∧ t' ≠ []) ∨ ∃ c', c = a ++ c' ∧ b = c' ++ t := by
  rcases List.append_eq_append_iff.1 h with ⟨a', h1, h2⟩ | ⟨c', h1, h2⟩
  · exact .inr ⟨a', h1, h2⟩
  · rcases c' with _ | ⟨y, c'⟩
    · exact .inr ⟨[], by rw [h1]; simp, by rw [h2]; rfl⟩
    · exact .inl ⟨_, h1, by simp⟩
theorem Cod.bind {f : α → List Int → PR β} {t : α → β → List Int} {Q : α → β → Prop} (h : Cod p s P) (π : β → α) (hf : ∀ x, P x → Cod (f x) (t x) (fun y => Q x y ∧ π y = x)) :
    Cod (pBind p f) (fun y => s (π y) ++ t (π y) y) (fun y => P (π y) ∧ Q (π y) y) := by
  refine ⟨fun y hy r => ?_, fun l hl y r hp => ?_, fun y hy c u hc hu => ?_⟩
  · unfold pBind
    rw [List.append_assoc, h.fwd _ hy.1]
    exact (hf _ hy.1).fwd y ⟨hy.2, rfl⟩ r
  · unfold pBind at hp
    cases hpl : p l with
    | error q => rw [hpl] at hp; injection hp
    | ok z =>
      obtain ⟨x, r1⟩ := z
      rw [hpl] at hp
      obtain ⟨h1, h2⟩ := h.bwd l hl x r1 hpl
      subst h2
      obtain ⟨⟨h3, h4⟩, h5⟩ := (hf x h1).bwd r1 hl.right y r hp
      subst h4
      exact ⟨⟨h1, h3⟩, by rw [List.append_assoc, ← h5]⟩
  · unfold pBind
    rcases app_split hc with ⟨t', h1, h2⟩ | ⟨c', h1, h2⟩
    · rw [h.cut _ hy.1 c t' h1 h2]
    · subst h1
      rw [h.fwd _ hy.1]
      exact (hf _ hy.1).cut y ⟨hy.2, rfl⟩ c' u h2 hu
/-- what is made of a thing alone -/
theorem Cod.map (h : Cod p s P) (g : α → β) (π : β → α) (hg : ∀ x, P x → π (g x) = x) : Cod (pBind p fun x => pRet (g x)) (fun y => s (π y)) (fun y => P (π y) ∧ y = g (π y)) := by
  refine (h.bind (t := fun _ _ => []) (Q := fun x y => y = g x) π (fun x hx => (Cod.ret (g x)).congr (fun _ _ => rfl) (fun y => ⟨fun hy => ⟨hy, by rw [hy]; exact hg x hx⟩, fun hy => hy.1⟩))).congr (fun y _ => by simp) (fun y => Iff.rfl)
theorem Cod.rep (h : Cod p s P) (n : Nat) : Cod (pRep p n) (fun xs => xs.flatMap s) (fun xs => xs.length = n ∧ ∀ x ∈ xs, P x) := by
  induction n with
  | zero =>
    refine (Cod.ret (α := List α) []).congr (fun x hx => ?_) (fun x => ⟨fun hx => by subst hx; simp, fun hx => List.eq_nil_of_length_eq_zero hx.1⟩)
    have : x = [] := List.eq_nil_of_length_eq_zero hx.1
    subst this
    rfl
  | succ k ih =>
    have h2 := ih.bind (β := List α) (f := fun xs => pBind p fun x => pRet (xs ++ [x])) (t := fun xs ys => ys.getLast?.elim [] s) (Q := fun xs ys => ∃ x, P x ∧ ys = xs ++ [x]) List.dropLast (fun xs hxs => by
      refine ⟨fun ys hys r => ?_, fun l hl ys r hp => ?_, fun ys hys c u hc hu => ?_⟩
      · obtain ⟨⟨x, hx, rfl⟩, _⟩ := hys
        unfold pBind
        simp only [List.getLast?_append, List.getLast?_singleton, Option.some_or, Option.elim_some]
        rw [h.fwd x hx]
        rfl
      · unfold pBind at hp
        cases hpl : p l with
        | error q => rw [hpl] at hp; injection hp
        | ok z =>
          obtain ⟨x, r1⟩ := z
          rw [hpl] at hp
          unfold pRet at hp
          injection hp with hp
          injection hp with e1 e2
          subst e1
          subst e2
          obtain ⟨h1, h2⟩ := h.bwd l hl x r1 hpl
          exact ⟨⟨⟨x, h1, rfl⟩, by simp⟩, by simpa using h2⟩
      · obtain ⟨⟨x, hx, rfl⟩, _⟩ := hys
        simp only [List.getLast?_append, List.getLast?_singleton, Option.some_or, Option.elim_some] at hc
        unfold pBind
        rw [h.cut x hx c u hc hu])
    refine (h2.imp (p' := pRep p (k + 1)) (fun l => rfl)).congr (fun ys hys => ?_) (fun ys => ⟨fun hys => ?_, fun hys => ?_⟩)
    · obtain ⟨h3, _⟩ := hys
      rcases List.eq_nil_or_concat ys with rfl | ⟨zs, z, rfl⟩
      · simp at h3
      · simp
    · obtain ⟨⟨h3, h4⟩, x, h5, h6⟩ := hys
      rw [h6]
      refine ⟨by simp [h3], fun y hy => ?_⟩
      rcases List.mem_append.1 hy with hy | hy
      · exact h4 y hy
      · rw [List.mem_singleton.1 hy]; exact h5
    · obtain ⟨h3, h4⟩ := hys
      rcases List.eq_nil_or_concat ys with rfl | ⟨zs, z, rfl⟩
      · simp at h3
      · simp only [List.concat_eq_append, List.dropLast_concat] at *
        exact ⟨⟨by simpa using h3, fun x hx => h4 x (by simp [hx])⟩, z, h4 z (by simp), rfl⟩
end

def NumP (n : Int) : Prop := 0 ≤ n ∧ n ≤ 9223372036854775807
def IntP (n : Int) : Prop := -9223372036854775808 ≤ n ∧ n ≤ 9223372036854775807
/-- a number that is cut off -/
theorem digs_cut (k : Nat) : ∀ (u : Int) (c t : List Int), digs k u = c ++ t → t ≠ [] → (∀ x ∈ c, 128 ≤ x) ∧ c.length ≤ k := by
  induction k with
  | zero =>
    intro u c t h ht
    unfold digs at h
    rcases c with _ | ⟨y, c⟩
    · simp
    · simp only [List.cons_append, List.cons.injEq] at h
      have := (List.append_eq_nil_iff.1 h.2.symm).2
      exact absurd this ht
  | succ k ih =>
    intro u c t h ht
    rcases c with _ | ⟨y, c⟩
    · simp
    · by_cases h1 : 128 ≤ u
      · rw [digs_great k u h1, List.cons_append] at h
        injection h with h2 h3
        obtain ⟨h4, h5⟩ := ih _ c t h3 ht
        refine ⟨fun x hx => ?_, by simp; omega⟩
        rcases List.mem_cons.1 hx with hx | hx
        · omega
        · exact h4 x hx
      · rw [digs_small _ u (by omega), List.cons_append] at h
        injection h with h2 h3
        have := (List.append_eq_nil_iff.1 h3.symm).2
        exact absurd this ht
theorem getGo_cut (most : Nat) (c : List Int) : ∀ (i : Nat) (u : Int), (∀ x ∈ c, 128 ≤ x) → i + c.length < most → i + c.length ≤ 9 → getGo most c i u = (0, 0, 2) := by
  induction c with
  | nil => intro i u _ h _; unfold getGo; rw [if_neg (by simp at h; omega)]
  | cons x c ih =>
    intro i u h1 h2 h3
    simp only [List.length_cons] at h2 h3
    unfold getGo
    rw [if_neg (by omega), if_neg (by omega), if_pos (h1 x (by simp))]
    exact ih (i + 1) _ (fun y hy => h1 y (by simp [hy])) (by omega) (by omega)
theorem putL_pos {n : Int} (h : 0 ≤ n) : putL n = digs 9 n := by unfold putL; rw [if_neg (by omega)]
theorem cod_num : Cod pNum putL NumP := by
  refine ⟨fun n hn r => ?_, fun l hl n r hp => ?_, fun n hn c t hc ht => ?_⟩
  · rw [putL_pos hn.1]
    unfold pNum
    rw [get_put n r hn.1 hn.2]
    simp
  · unfold pNum at hp
    split at hp
    · rename_i h0
      injection hp with hp
      injection hp with h1 h2
      have hg := getL_got 9 (by decide) l hl
      obtain ⟨h3, h4, h5, h6⟩ := put_get 9 (by decide) l (getL 9 l).1 (getL 9 l).2.1 hl (by rw [← h0])
      rw [h1] at h3 h6
      refine ⟨⟨h3, h1 ▸ hg.le9 (by decide)⟩, ?_⟩
      rw [putL_pos h3, h6, ← h2, List.take_append_drop]
    · injection hp
  · rw [putL_pos hn.1] at hc
    have hlen := digs_len_lt 8 9 n (by have := hn.2; omega)
    obtain ⟨h1, h2⟩ := digs_cut 9 n c t hc ht
    have h3 : c.length < 9 := by
      rw [hc, List.length_append] at hlen
      have := List.length_pos_iff.2 ht
      omega
    unfold pNum getL
    rw [getGo_cut 9 c 0 0 h1 (by omega) (by omega)]
    rfl
theorem cod_up (most er : Int) : Cod (pUp most er) putL (fun n => NumP n ∧ n ≤ most) := by
  have h := cod_num.bind (β := Int) (f := fun n l => if most < n then .error er else .ok (n, l)) (t := fun _ _ => []) (Q := fun x y => x ≤ most) id (fun x hx => by
    refine ⟨fun y hy r => ?_, fun l _ y r hp => ?_, fun y hy c t h ht => ?_⟩
    · obtain ⟨h1, h2⟩ := hy
      have h2 : y = x := h2
      subst h2
      rw [if_neg (by omega)]
      rfl
    · split at hp
      · injection hp
      · rename_i h1
        injection hp with hp
        injection hp with e1 e2
        exact ⟨⟨by omega, e1.symm⟩, by rw [e2]; rfl⟩
    · exact absurd (List.append_eq_nil_iff.1 h.symm).2 ht)
  exact (h.imp (fun l => rfl)).congr (fun x _ => by simp) (fun x => Iff.rfl)
end Go.Proofs.YtceibabhmomfiaaDoor.H
