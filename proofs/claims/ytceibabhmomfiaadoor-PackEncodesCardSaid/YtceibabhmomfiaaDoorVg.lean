/- Layer 1, the walks of what gets. -/
import Derived.Test.YtceibabhmomfiaaDoorVa
namespace Go.Proofs.YtceibabhmomfiaaDoor.H
open Go.RowKit Go.Proofs.YtceibabhmomfiaaDoorW.PrintWords
set_option linter.unusedVariables false
set_option linter.unusedSimpArgs false

/-- bytes -/
abbrev Bytes (l : List Int) : Prop := Aside0 (∀ x ∈ l, 0 ≤ x ∧ x ≤ 255)
theorem Bytes.at_ {l : List Int} (h : Bytes l) (i : Int) (h0 : 0 ≤ i) (h1 : i < (l.length : Int)) : 0 ≤ rd l i ∧ rd l i ≤ 255 := by
  refine h.out _ ?_
  rw [rd, List.getD_eq_getElem?_getD, List.getElem?_eq_getElem (by omega)]
  exact List.getElem_mem _
theorem drop_rd (l : List Int) (k : Nat) (h : k < l.length) : l.drop k = rd l (k : Int) :: l.drop (k + 1) := by
  rw [List.drop_eq_getElem_cons h, rd, List.getD_eq_getElem?_getD, List.getElem?_eq_getElem (by simpa using h)]; rfl

theorem trip {a b c : Int} {p : Int × Int × Int} (h : (a, b, c) = p) : Ending.returned (.tuple #[.int .u64 a, .int .i64 b, .int .i64 c]) = .returned (.tuple #[.int .u64 p.1, .int .i64 p.2.1, .int .i64 p.2.2]) := by rw [← h]
theorem getGo_end (most : Nat) (l : List Int) (u : Int) (h : l.length ≤ most) : getGo most [] l.length u = (if most ≤ l.length then (0, 0, 3) else (0, 0, 2)) := by
  unfold getGo
  by_cases e : most ≤ l.length
  · rw [if_pos e, if_pos (by omega)]
  · rw [if_neg e, if_neg (by omega)]

set_option maxHeartbeats 2000000 in
theorem get_any (A : Option Addr) (c : Nat) (l : List Int) (most : Nat) (w : World) (hm0 : 1 ≤ most) (hm : most ≤ 10) (hc : l.length ≤ c) (HR : RdB w A l) (hby : Bytes l) (hl : l.length ≤ 9223372036854775807) :
    Calls Tryd.prog 85 #[.slice A l.length c, .int .i64 most] w fun e w' => e = .returned (.tuple #[.int .u64 (getL most l).1, .int .i64 (getL most l).2.1, .int .i64 (getL most l).2.2]) ∧ w = w' := by
  by_cases hml : most < l.length
  · skip
    go_enter Tryd.func85, Tryd.ntmps85
    go_wp2
    go_loop [7, 18] (fun a i => ∃ (k : Nat) (u : Int), k ≤ most ∧ a = .int .u64 u ∧ i = .int .i64 k ∧ 0 ≤ u ∧ Aside0 (u < 2 ^ (7 * k)) ∧ Aside0 (getGo most (l.drop k) k u = getL most l)) (fun _ i => most - (intOf i).toNat)
    case atStart => exact ⟨0, 0, by omega, rfl, rfl, by omega, ⟨by omega⟩, ⟨rfl⟩⟩
    case round =>
      obtain ⟨k, u, hk, rfl, rfl, hu0, hu1, hg⟩ := hrel
      by_cases hlt : k < most
      · have hkl : k < l.length := by omega
        obtain ⟨ad, rfl, hcell⟩ := rd_atN HR k (by omega)
        have hxb := hby.at_ (k : Int) (by omega) (by omega)
        have hg1 := hg.out
        rw [drop_rd l k hkl, getGo, if_neg (by omega)] at hg1
        obtain ⟨x, hx⟩ : ∃ x, rd l (k : Int) = x := ⟨_, rfl⟩
        rw [hx] at hcell hg1 hxb
        clear hx hg
        have hx0 := hxb.1
        have hx1 := hxb.2
        clear hxb
        have hlo := byte_low x hx0 hx1
        have hhi0 := byte_high x hx0 hx1
        obtain ⟨lo, hlo2⟩ : ∃ lo, x % 128 = lo := ⟨_, rfl⟩
        have hlo0 : 0 ≤ lo := by omega
        have hlo1 : lo < 128 := by omega
        rw [hlo2] at hlo hg1
        replace hlo2 := Aside0.mk hlo2
        by_cases h9 : k = 9
        · have b1 : ((k : Int) == 9) = true := by simp; omega
          by_cases hlow : 1 < lo
          · rw [if_pos ⟨h9, hlow⟩] at hg1
            replace h9 := Aside0.mk h9
            replace hg1 := Aside0.mk hg1
            clear hhi0
            go_wp2
            go_ret3
            exact ⟨trip hg1.out, rfl⟩
          · rw [if_neg (by omega)] at hg1
            obtain ⟨hor, hs2, hs3⟩ := or_shl u lo k (by omega) hu0 hu1.out hlo0 hlo1 (by omega)
            replace h9 := Aside0.mk h9
            have b2 : decide (1 < lo) = false := by simp; omega
            by_cases h128 : 128 ≤ x
            · rw [if_pos h128] at hhi0 hg1
              replace hg1 := Aside0.mk hg1
              replace hs3 := Aside0.mk hs3
              have hs0 : 0 ≤ u + lo * 2 ^ (7 * k) := by have := Int.mul_nonneg hlo0 (show (0 : Int) ≤ 2 ^ (7 * k) from Int.le_of_lt (Int.pow_pos (by decide))); omega
              go_wp2
              go_round
              case rel => exact ⟨k + 1, u + lo * 2 ^ (7 * k), by omega, rfl, by go_num, hs0, hs3, hg1⟩
              case measure => simp [intOf]; omega
            · rw [if_neg h128] at hhi0 hg1
              by_cases hx00 : x = 0
              · have b3 : (x == 0) = true := by simp [hx00]
                by_cases hk0 : 0 < k
                · have b4 : decide ((0 : Int) < (k : Int)) = true := by simp; omega
                  rw [if_pos ⟨hx00, hk0⟩] at hg1
                  replace hg1 := Aside0.mk hg1
                  replace hx00 := Aside0.mk hx00
                  go_wp2
                  go_ret3
                  exact ⟨trip hg1.out, rfl⟩
                · have b4 : decide ((0 : Int) < (k : Int)) = false := by simp; omega
                  rw [if_neg (by omega)] at hg1
                  replace hg1 := Aside0.mk hg1
                  replace hx00 := Aside0.mk hx00
                  go_wp2
                  go_ret3
                  exact ⟨trip hg1.out, rfl⟩
              · have b3 : (x == 0) = false := by simpa using hx00
                rw [if_neg (by omega)] at hg1
                replace hg1 := Aside0.mk hg1
                replace hx00 := Aside0.mk hx00
                go_wp2
                go_ret3
                exact ⟨trip hg1.out, rfl⟩
        · have b1 : ((k : Int) == 9) = false := by simp; omega
          rw [if_neg (by omega)] at hg1
          obtain ⟨hor, hs2, hs3⟩ := or_shl u lo k (by omega) hu0 hu1.out hlo0 hlo1 (by omega)
          replace h9 := Aside0.mk h9
          by_cases h128 : 128 ≤ x
          · rw [if_pos h128] at hhi0 hg1
            replace hg1 := Aside0.mk hg1
            replace hs3 := Aside0.mk hs3
            have hs0 : 0 ≤ u + lo * 2 ^ (7 * k) := by have := Int.mul_nonneg hlo0 (show (0 : Int) ≤ 2 ^ (7 * k) from Int.le_of_lt (Int.pow_pos (by decide))); omega
            go_wp2
            go_round
            case rel => exact ⟨k + 1, u + lo * 2 ^ (7 * k), by omega, rfl, by go_num, hs0, hs3, hg1⟩
            case measure => simp [intOf]; omega
          · rw [if_neg h128] at hhi0 hg1
            by_cases hx00 : x = 0
            · have b3 : (x == 0) = true := by simp [hx00]
              by_cases hk0 : 0 < k
              · have b4 : decide ((0 : Int) < (k : Int)) = true := by simp; omega
                rw [if_pos ⟨hx00, hk0⟩] at hg1
                replace hg1 := Aside0.mk hg1
                replace hx00 := Aside0.mk hx00
                go_wp2
                go_ret3
                exact ⟨trip hg1.out, rfl⟩
              · have b4 : decide ((0 : Int) < (k : Int)) = false := by simp; omega
                rw [if_neg (by omega)] at hg1
                replace hg1 := Aside0.mk hg1
                replace hx00 := Aside0.mk hx00
                go_wp2
                go_ret3
                exact ⟨trip hg1.out, rfl⟩
            · have b3 : (x == 0) = false := by simpa using hx00
              rw [if_neg (by omega)] at hg1
              replace hg1 := Aside0.mk hg1
              replace hx00 := Aside0.mk hx00
              go_wp2
              go_ret3
              exact ⟨trip hg1.out, rfl⟩
      · have hk2 : k = most := by omega
        have hg1 := hg.out
        have e2 : l.drop k = [] ∨ k = most := by rcases Nat.lt_or_ge k l.length with h | h; exact .inr (by omega); exact .inl (List.drop_eq_nil_of_le h)
        by_cases hge : most ≤ l.length
        · have b5 : decide (most ≤ l.length) = true := decide_eq_true hge
          have b6 : decide ((most : Int) ≤ (l.length : Int)) = true := decide_eq_true (by omega)
          have hv : (0, 0, 3) = getL most l := by
            rw [← hg1, show k = most by omega]
            cases l.drop most <;> simp [getGo]
          have hv' := Aside0.mk hv
          clear hv hg hg1 e2 hk2
          go_wp2
          go_ret3
          exact ⟨trip hv'.out, rfl⟩
        · have b5 : decide (most ≤ l.length) = false := decide_eq_false hge
          have b6 : decide ((most : Int) ≤ (l.length : Int)) = false := decide_eq_false (by omega)
          have hv : (0, 0, 2) = getL most l := by
            rw [← hg1, List.drop_eq_nil_of_le (show l.length ≤ k by omega)]
            simp only [getGo]
            rw [if_neg (by omega)]
          have hv' := Aside0.mk hv
          clear hv hg hg1 e2 hk2
          go_wp2
          go_ret3
          exact ⟨trip hv'.out, rfl⟩
  · skip
    go_enter Tryd.func85, Tryd.ntmps85
    go_wp2
    go_loop [7, 18] (fun a i => ∃ (k : Nat) (u : Int), k ≤ l.length ∧ a = .int .u64 u ∧ i = .int .i64 k ∧ 0 ≤ u ∧ Aside0 (u < 2 ^ (7 * k)) ∧ Aside0 (getGo most (l.drop k) k u = getL most l)) (fun _ i => l.length - (intOf i).toNat)
    case atStart => exact ⟨0, 0, by omega, rfl, rfl, by omega, ⟨by omega⟩, ⟨rfl⟩⟩
    case round =>
      obtain ⟨k, u, hk, rfl, rfl, hu0, hu1, hg⟩ := hrel
      by_cases hlt : k < l.length
      · have hkl : k < l.length := by omega
        obtain ⟨ad, rfl, hcell⟩ := rd_atN HR k (by omega)
        have hxb := hby.at_ (k : Int) (by omega) (by omega)
        have hg1 := hg.out
        rw [drop_rd l k hkl, getGo, if_neg (by omega)] at hg1
        obtain ⟨x, hx⟩ : ∃ x, rd l (k : Int) = x := ⟨_, rfl⟩
        rw [hx] at hcell hg1 hxb
        clear hx hg
        have hx0 := hxb.1
        have hx1 := hxb.2
        clear hxb
        have hlo := byte_low x hx0 hx1
        have hhi0 := byte_high x hx0 hx1
        obtain ⟨lo, hlo2⟩ : ∃ lo, x % 128 = lo := ⟨_, rfl⟩
        have hlo0 : 0 ≤ lo := by omega
        have hlo1 : lo < 128 := by omega
        rw [hlo2] at hlo hg1
        replace hlo2 := Aside0.mk hlo2
        by_cases h9 : k = 9
        · have b1 : ((k : Int) == 9) = true := by simp; omega
          by_cases hlow : 1 < lo
          · rw [if_pos ⟨h9, hlow⟩] at hg1
            replace h9 := Aside0.mk h9
            replace hg1 := Aside0.mk hg1
            clear hhi0
            go_wp2
            go_ret3
            exact ⟨trip hg1.out, rfl⟩
          · rw [if_neg (by omega)] at hg1
            obtain ⟨hor, hs2, hs3⟩ := or_shl u lo k (by omega) hu0 hu1.out hlo0 hlo1 (by omega)
            replace h9 := Aside0.mk h9
            have b2 : decide (1 < lo) = false := by simp; omega
            by_cases h128 : 128 ≤ x
            · rw [if_pos h128] at hhi0 hg1
              replace hg1 := Aside0.mk hg1
              replace hs3 := Aside0.mk hs3
              have hs0 : 0 ≤ u + lo * 2 ^ (7 * k) := by have := Int.mul_nonneg hlo0 (show (0 : Int) ≤ 2 ^ (7 * k) from Int.le_of_lt (Int.pow_pos (by decide))); omega
              go_wp2
              go_round
              case rel => exact ⟨k + 1, u + lo * 2 ^ (7 * k), by omega, rfl, by go_num, hs0, hs3, hg1⟩
              case measure => simp [intOf]; omega
            · rw [if_neg h128] at hhi0 hg1
              by_cases hx00 : x = 0
              · have b3 : (x == 0) = true := by simp [hx00]
                by_cases hk0 : 0 < k
                · have b4 : decide ((0 : Int) < (k : Int)) = true := by simp; omega
                  rw [if_pos ⟨hx00, hk0⟩] at hg1
                  replace hg1 := Aside0.mk hg1
                  replace hx00 := Aside0.mk hx00
                  go_wp2
                  go_ret3
                  exact ⟨trip hg1.out, rfl⟩
                · have b4 : decide ((0 : Int) < (k : Int)) = false := by simp; omega
                  rw [if_neg (by omega)] at hg1
                  replace hg1 := Aside0.mk hg1
                  replace hx00 := Aside0.mk hx00
                  go_wp2
                  go_ret3
                  exact ⟨trip hg1.out, rfl⟩
              · have b3 : (x == 0) = false := by simpa using hx00
                rw [if_neg (by omega)] at hg1
                replace hg1 := Aside0.mk hg1
                replace hx00 := Aside0.mk hx00
                go_wp2
                go_ret3
                exact ⟨trip hg1.out, rfl⟩
        · have b1 : ((k : Int) == 9) = false := by simp; omega
          rw [if_neg (by omega)] at hg1
          obtain ⟨hor, hs2, hs3⟩ := or_shl u lo k (by omega) hu0 hu1.out hlo0 hlo1 (by omega)
          replace h9 := Aside0.mk h9
          by_cases h128 : 128 ≤ x
          · rw [if_pos h128] at hhi0 hg1
            replace hg1 := Aside0.mk hg1
            replace hs3 := Aside0.mk hs3
            have hs0 : 0 ≤ u + lo * 2 ^ (7 * k) := by have := Int.mul_nonneg hlo0 (show (0 : Int) ≤ 2 ^ (7 * k) from Int.le_of_lt (Int.pow_pos (by decide))); omega
            go_wp2
            go_round
            case rel => exact ⟨k + 1, u + lo * 2 ^ (7 * k), by omega, rfl, by go_num, hs0, hs3, hg1⟩
            case measure => simp [intOf]; omega
          · rw [if_neg h128] at hhi0 hg1
            by_cases hx00 : x = 0
            · have b3 : (x == 0) = true := by simp [hx00]
              by_cases hk0 : 0 < k
              · have b4 : decide ((0 : Int) < (k : Int)) = true := by simp; omega
                rw [if_pos ⟨hx00, hk0⟩] at hg1
                replace hg1 := Aside0.mk hg1
                replace hx00 := Aside0.mk hx00
                go_wp2
                go_ret3
                exact ⟨trip hg1.out, rfl⟩
              · have b4 : decide ((0 : Int) < (k : Int)) = false := by simp; omega
                rw [if_neg (by omega)] at hg1
                replace hg1 := Aside0.mk hg1
                replace hx00 := Aside0.mk hx00
                go_wp2
                go_ret3
                exact ⟨trip hg1.out, rfl⟩
            · have b3 : (x == 0) = false := by simpa using hx00
              rw [if_neg (by omega)] at hg1
              replace hg1 := Aside0.mk hg1
              replace hx00 := Aside0.mk hx00
              go_wp2
              go_ret3
              exact ⟨trip hg1.out, rfl⟩
      · have hk2 : k = l.length := by omega
        have hg1 := hg.out
        have e2 : l.drop k = [] ∨ k = most := by rcases Nat.lt_or_ge k l.length with h | h; exact .inr (by omega); exact .inl (List.drop_eq_nil_of_le h)
        by_cases hge : most ≤ l.length
        · have b5 : decide (most ≤ l.length) = true := decide_eq_true hge
          have b6 : decide ((most : Int) ≤ (l.length : Int)) = true := decide_eq_true (by omega)
          have hv : (0, 0, 3) = getL most l := by
            rw [← hg1, show k = most by omega]
            cases l.drop most <;> simp [getGo]
          have hv' := Aside0.mk hv
          clear hv hg hg1 e2 hk2
          go_wp2
          go_ret3
          exact ⟨trip hv'.out, rfl⟩
        · have b5 : decide (most ≤ l.length) = false := decide_eq_false hge
          have b6 : decide ((most : Int) ≤ (l.length : Int)) = false := decide_eq_false (by omega)
          have hv : (0, 0, 2) = getL most l := by
            rw [← hg1, List.drop_eq_nil_of_le (show l.length ≤ k by omega)]
            simp only [getGo]
            rw [if_neg (by omega)]
          have hv' := Aside0.mk hv
          clear hv hg hg1 e2 hk2
          go_wp2
          go_ret3
          exact ⟨trip hv'.out, rfl⟩
end Go.Proofs.YtceibabhmomfiaaDoor.H
