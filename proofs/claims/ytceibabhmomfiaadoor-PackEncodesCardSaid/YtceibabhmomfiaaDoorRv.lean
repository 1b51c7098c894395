/- Layer 1, the reference: a number out of bytes. -/
import Derived.Test.YtceibabhmomfiaaDoorVh
namespace Go.Proofs.YtceibabhmomfiaaDoor.H
open Go.RowKit Go.Proofs.YtceibabhmomfiaaDoorW.PrintWords
set_option linter.unusedVariables false
set_option linter.unusedSimpArgs false

theorem add_shl (u lo : Int) (k : Nat) (hk : k ≤ 9) (h0 : 0 ≤ u) (h1 : u < 2 ^ (7 * k)) (l0 : 0 ≤ lo) (l1 : lo < 128) (l9 : k = 9 → lo ≤ 1) :
    IntKind.u64.wrap (lo * 2 ^ (7 * k)) = lo * 2 ^ (7 * k) ∧ IntKind.u64.wrap (u + lo * 2 ^ (7 * k)) = u + lo * 2 ^ (7 * k) ∧ u + lo * 2 ^ (7 * k) < 2 ^ (7 * (k + 1)) ∧ 0 ≤ lo * 2 ^ (7 * k) := by
  obtain ⟨_, h2, h3⟩ := or_shl u lo k hk h0 h1 l0 l1 l9
  have hp : (0 : Int) ≤ lo * 2 ^ (7 * k) := Int.mul_nonneg l0 (Int.le_of_lt (Int.pow_pos (by decide)))
  refine ⟨?_, ?_, h3, hp⟩
  · rw [IntKind.wrap_u64]; omega
  · rw [IntKind.wrap_u64]; omega
set_option maxHeartbeats 2000000 in
theorem read_any (A : Option Addr) (c : Nat) (l : List Int) (most : Nat) (w : World) (hm0 : 1 ≤ most) (hm : most ≤ 10) (hc : l.length ≤ c) (HR : RdB w A l) (hby : Bytes l) (hl : l.length ≤ 9223372036854775807) :
    Calls Tryd.prog 87 #[.slice A l.length c, .int .i64 most] w fun e w' => e = .returned (.tuple #[.int .u64 (getL most l).1, .int .i64 (getL most l).2.1, .int .i64 (getL most l).2.2]) ∧ w = w' := by
  go_enter Tryd.func87, Tryd.ntmps87
  go_wp2
  go_loopw [7, 8] (fun a i W => ∃ (k : Nat) (u : Int), k ≤ l.length ∧ k ≤ most ∧ a = .int .u64 u ∧ i = .int .i64 k ∧ 0 ≤ u ∧ Aside0 (u < 2 ^ (7 * k)) ∧ Aside0 (getGo most (l.drop k) k u = getL most l) ∧ w = W) (fun _ i _ => l.length - (intOf i).toNat)
  case atStart => exact ⟨0, 0, by omega, by omega, rfl, rfl, by omega, ⟨by omega⟩, ⟨rfl⟩, rfl⟩
  case round =>
    obtain ⟨k, u, hk, hkm, rfl, rfl, hu0, hu1, hg, rfl⟩ := hrel
    by_cases hkl : k < l.length
    · have hg1 := hg.out
      rw [drop_rd l k hkl, getGo] at hg1
      by_cases hmo : k = most
      · rw [if_pos hmo] at hg1
        have b0 : ((k : Int) == (most : Int)) = true := by simp [hmo]
        have b00 : (k == most) = true := by simp [hmo]
        replace hg1 := Aside0.mk hg1
        clear hg hmo
        go_wp2
        go_ret3
        exact ⟨trip hg1.out, rfl⟩
      rw [if_neg hmo] at hg1
      have b0 : ((k : Int) == (most : Int)) = false := by simp; omega
      have b00 : (k == most) = false := by simp; omega
      obtain ⟨ad, rfl, hcell⟩ := rd_atN HR k (by omega)
      have hxb := hby.at_ (k : Int) (by omega) (by omega)
      obtain ⟨x, hx⟩ : ∃ x, rd l (k : Int) = x := ⟨_, rfl⟩
      rw [hx] at hcell hg1 hxb
      clear hx hg
      have hx0 := hxb.1
      have hx1 := hxb.2
      clear hxb
      obtain ⟨lo, hlo2⟩ : ∃ lo, x % 128 = lo := ⟨_, rfl⟩
      have hlo0 : 0 ≤ lo := by omega
      have hlo1 : lo < 128 := by omega
      rw [hlo2] at hg1
      have hlo3 : x.tmod 128 = lo := by rw [Int.tmod_eq_emod_of_nonneg hx0, hlo2]
      replace hlo2 := Aside0.mk hlo2
      have hkm2 : k < most := by omega
      replace hmo := Aside0.mk hmo
      by_cases h9 : k = 9
      · have b1 : ((k : Int) == 9) = true := by simp; omega
        by_cases hlow : 1 < lo
        · rw [if_pos ⟨h9, hlow⟩] at hg1
          replace h9 := Aside0.mk h9
          replace hg1 := Aside0.mk hg1
          go_wp2
          go_ret3
          exact ⟨trip hg1.out, rfl⟩
        · rw [if_neg (by omega)] at hg1
          obtain ⟨hw1, hw2, hs3, hs0⟩ := add_shl u lo k (by omega) hu0 hu1.out hlo0 hlo1 (by omega)
          replace h9 := Aside0.mk h9
          have b2 : decide (1 < lo) = false := by simp; omega
          by_cases h128 : 128 ≤ x
          · rw [if_pos h128] at hg1
            replace hg1 := Aside0.mk hg1
            have hs9 : 0 ≤ u + lo * 2 ^ (7 * k) := by omega
            replace hs3 := Aside0.mk hs3
            go_wp2
            go_roundw
            case rel => exact ⟨k + 1, u + lo * 2 ^ (7 * k), by omega, by omega, rfl, by go_num, by first | exact hs9 | (rw [hw2]; exact hs9), by first | exact hs3 | (rw [hw2]; exact hs3), by first | exact hg1 | (rw [hw2]; exact hg1), by trivial⟩
            case measure => simp [intOf]; omega
          · rw [if_neg h128] at hg1
            by_cases hx00 : x = 0
            · have b3 : (x == 0) = true := by simp [hx00]
              by_cases hk0 : 0 < k
              · have b4 : decide ((0 : Int) < (k : Int)) = true := by simp; omega
                rw [if_pos ⟨hx00, hk0⟩] at hg1
                replace hg1 := Aside0.mk hg1
                replace hx00 := Aside0.mk hx00
                go_wp2
                go_ret3
                exact ⟨trip hg1.out, rfl⟩
              · have b4 : decide ((0 : Int) < (k : Int)) = false := by simp; omega
                rw [if_neg (by omega)] at hg1
                replace hg1 := Aside0.mk hg1
                replace hx00 := Aside0.mk hx00
                go_wp2
                go_ret3
                exact ⟨trip hg1.out, rfl⟩
            · have b3 : (x == 0) = false := by simpa using hx00
              rw [if_neg (by omega)] at hg1
              replace hg1 := Aside0.mk hg1
              replace hx00 := Aside0.mk hx00
              go_wp2
              go_ret3
              exact ⟨trip hg1.out, rfl⟩
      · have b1 : ((k : Int) == 9) = false := by simp; omega
        rw [if_neg (by omega)] at hg1
        obtain ⟨hw1, hw2, hs3, hs0⟩ := add_shl u lo k (by omega) hu0 hu1.out hlo0 hlo1 (by omega)
        replace h9 := Aside0.mk h9
        by_cases h128 : 128 ≤ x
        · rw [if_pos h128] at hg1
          replace hg1 := Aside0.mk hg1
          have hs9 : 0 ≤ u + lo * 2 ^ (7 * k) := by omega
          replace hs3 := Aside0.mk hs3
          go_wp2
          go_roundw
          case rel => exact ⟨k + 1, u + lo * 2 ^ (7 * k), by omega, by omega, rfl, by go_num, by first | exact hs9 | (rw [hw2]; exact hs9), by first | exact hs3 | (rw [hw2]; exact hs3), by first | exact hg1 | (rw [hw2]; exact hg1), by trivial⟩
          case measure => simp [intOf]; omega
        · rw [if_neg h128] at hg1
          by_cases hx00 : x = 0
          · have b3 : (x == 0) = true := by simp [hx00]
            by_cases hk0 : 0 < k
            · have b4 : decide ((0 : Int) < (k : Int)) = true := by simp; omega
              rw [if_pos ⟨hx00, hk0⟩] at hg1
              replace hg1 := Aside0.mk hg1
              replace hx00 := Aside0.mk hx00
              go_wp2
              go_ret3
              exact ⟨trip hg1.out, rfl⟩
            · have b4 : decide ((0 : Int) < (k : Int)) = false := by simp; omega
              rw [if_neg (by omega)] at hg1
              replace hg1 := Aside0.mk hg1
              replace hx00 := Aside0.mk hx00
              go_wp2
              go_ret3
              exact ⟨trip hg1.out, rfl⟩
          · have b3 : (x == 0) = false := by simpa using hx00
            rw [if_neg (by omega)] at hg1
            replace hg1 := Aside0.mk hg1
            replace hx00 := Aside0.mk hx00
            go_wp2
            go_ret3
            exact ⟨trip hg1.out, rfl⟩
    · have hk2 : k = l.length := by omega
      have hg1 := hg.out
      rw [List.drop_eq_nil_of_le (by omega), getGo] at hg1
      by_cases hmo : k = most
      · rw [if_pos hmo] at hg1
        have b0 : ((l.length : Int) == (most : Int)) = true := by simp; omega
        have b00 : (l.length == most) = true := by simp; omega
        replace hg1 := Aside0.mk hg1
        clear hg hmo hk2
        go_wp2
        go_ret3
        exact ⟨trip hg1.out, rfl⟩
      · rw [if_neg hmo] at hg1
        have b0 : ((l.length : Int) == (most : Int)) = false := by simp; omega
        have b00 : (l.length == most) = false := by simp; omega
        replace hg1 := Aside0.mk hg1
        clear hg hmo hk2
        go_wp2
        go_ret3
        exact ⟨trip hg1.out, rfl⟩

set_option maxHeartbeats 400000 in
theorem refGet_any (A : Option Addr) (c : Nat) (l : List Int) (w : World) (hc : l.length ≤ c) (HR : RdB w A l) (hby : Bytes l) (hl : l.length ≤ 9223372036854775807) :
    Calls Tryd.prog 64 #[.slice A l.length c] w fun e w' => e = .returned (.tuple #[.int .i64 (getL 9 l).1, .int .i64 (getL 9 l).2.1, .int .i64 (getL 9 l).2.2]) ∧ w = w' := by
  have hg := getL_got 9 (by decide) l hby.out
  have hcall := Aside0.mk (read_any A c l 9 w (by decide) (by decide) hc HR hby hl)
  obtain ⟨x, hx⟩ : ∃ x, (getL 9 l).1 = x := ⟨_, rfl⟩
  rw [hx] at hcall ⊢
  have h0 := hg.ge
  have h1 := hg.le9 (by decide)
  rw [hx] at h0 h1
  clear hg hx
  go_enter Tryd.func64, Tryd.ntmps64
  go_wp2_with (go_at_call 87; (refine hcall.out.mono ?_; rintro e w1 ⟨rfl, rfl⟩))
  go_ret3
  exact ⟨rfl, rfl⟩
end Go.Proofs.YtceibabhmomfiaaDoor.H
