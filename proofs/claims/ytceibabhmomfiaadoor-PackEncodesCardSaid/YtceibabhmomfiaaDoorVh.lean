/- Layer 1, more walks: Get, GetSigned, the comparisons, lists. -/
import Derived.Test.YtceibabhmomfiaaDoorVg
namespace Go.Proofs.YtceibabhmomfiaaDoor.H
open Go.RowKit Go.Proofs.YtceibabhmomfiaaDoorW.PrintWords
set_option linter.unusedVariables false
set_option linter.unusedSimpArgs false

theorem trip2 {a b c : Int} {a' b' c' : Int} (h1 : a = a') (h2 : b = b') (h3 : c = c') : Ending.returned (.tuple #[.int .i64 a, .int .i64 b, .int .i64 c]) = .returned (.tuple #[.int .i64 a', .int .i64 b', .int .i64 c']) := by rw [h1, h2, h3]

set_option maxHeartbeats 400000 in
theorem Get_any (A : Option Addr) (c : Nat) (l : List Int) (w : World) (hc : l.length ≤ c) (HR : RdB w A l) (hby : Bytes l) (hl : l.length ≤ 9223372036854775807) :
    Calls Tryd.prog 59 #[.slice A l.length c] w fun e w' => e = .returned (.tuple #[.int .i64 (getL 9 l).1, .int .i64 (getL 9 l).2.1, .int .i64 (getL 9 l).2.2]) ∧ w = w' := by
  have hg := getL_got 9 (by decide) l hby.out
  have g0 := hg.ge
  have g1 := hg.le9 (by decide)
  have hcall := get_any A c l 9 w (by decide) (by decide) hc HR hby hl
  obtain ⟨p, hp⟩ : ∃ p, getL 9 l = p := ⟨_, rfl⟩
  rw [hp] at hcall g0 g1 ⊢
  clear hp hg
  obtain ⟨x, y, z⟩ := p
  replace hcall := Aside0.mk hcall
  go_enter Tryd.func59, Tryd.ntmps59
  go_wp2_with (go_at_call 85; refine hcall.out.mono ?_; rintro e w' ⟨rfl, rfl⟩)
  go_ret3
  exact ⟨rfl, rfl⟩

theorem list_same (a b : List Int) (hl : a.length = b.length) (h : ∀ i : Nat, i < a.length → rd a (i : Int) = rd b (i : Int)) : a = b := by
  refine List.ext_getElem hl fun i h1 h2 => ?_
  have := h i h1
  simpa [rd, List.getD_eq_getElem?_getD, List.getElem?_eq_getElem h1, List.getElem?_eq_getElem h2] using this

set_option maxHeartbeats 400000 in
theorem Same_any (A0 A1 : Option Addr) (c0 c1 : Nat) (l0 l1 : List Int) (w : World) (H0 : Rd (Kd.int .u8) w A0 l0) (H1 : Rd (Kd.int .u8) w A1 l1) (hl0 : l0.length ≤ 9223372036854775807) :
    Calls Tryd.prog 18 #[.slice A0 l0.length c0, .slice A1 l1.length c1] w fun e w' => e = .returned (.bool (decide (l0 = l1))) ∧ Drawn0 w w' := by
  by_cases hl : l0.length = l1.length
  · have b1 : ((l0.length : Int) == (l1.length : Int)) = true := by simp [hl]
    have b2 : ((l0.length : Int) != (l1.length : Int)) = false := by simp [hl]
    have b3 : (l0.length == l1.length) = true := by simp [hl]
    have hl' := Aside0.mk hl
    clear hl
    go_enter Tryd.func18, Tryd.ntmps18
    go_wp2
    go_loopw [5] (fun i W => ∃ k : Nat, k ≤ l0.length ∧ i = .int .i64 k ∧ Aside0 (∀ j : Nat, j < k → rd l0 (j : Int) = rd l1 (j : Int)) ∧ Drawn0 w W) (fun i _ => l0.length - (intOf i).toNat)
    case atStart => exact ⟨0, by omega, rfl, ⟨fun j h => by omega⟩, Drawn0.refl _⟩
    case round =>
      obtain ⟨k, hk, rfl, hs, ⟨n, rfl⟩⟩ := hrel
      by_cases hlt : k < l0.length
      · obtain ⟨ad0, rfl, hc0⟩ := rd_atN H0 k hlt
        obtain ⟨ad1, rfl, hc1⟩ := rd_atN H1 k (by have := hl'.out; omega)
        have hlt1 : k < l1.length := by have := hl'.out; omega
        have q0 : (0 : Int) ≤ (k : Int) := by omega
        have q1 : (k : Int) < (l0.length : Int) := by omega
        have q2 : (k : Int) < (l1.length : Int) := by omega
        by_cases he : rd l0 (k : Int) = rd l1 (k : Int)
        · have b4 : (rd l0 (k : Int) != rd l1 (k : Int)) = false := by simp [he]
          have he' := Aside0.mk he
          clear he
          go_wp2
          go_quiet (fail)
          go_wp2
          go_roundw
          case rel => exact ⟨k + 1, by omega, by go_num, ⟨fun j hj => by rcases Nat.lt_or_ge j k with h | h; exact hs.out j h; rw [show j = k by omega]; exact he'.out⟩, by repeat (first | exact Drawn0.refl _ | apply Drawn0.step)⟩
          case measure => simp [intOf]; omega
        · have b4 : (rd l0 (k : Int) != rd l1 (k : Int)) = true := by simpa using he
          have hne : decide (l0 = l1) = false := decide_eq_false (fun e => he (by rw [e]))
          replace hne := Aside0.mk hne
          clear he
          go_wp2
          go_quiet (fail)
          go_wp2
          go_ret
          exact ⟨by rw [hne.out]; rfl, by repeat (first | exact Drawn0.refl _ | apply Drawn0.step)⟩
      · have he : decide (l0 = l1) = true := decide_eq_true (list_same l0 l1 hl'.out (fun i hi => hs.out i (by omega)))
        replace he := Aside0.mk he
        go_wp2
        go_ret
        exact ⟨by rw [he.out]; rfl, by repeat (first | exact Drawn0.refl _ | apply Drawn0.step)⟩
  · have b1 : ((l0.length : Int) == (l1.length : Int)) = false := by simp; omega
    have b2 : ((l0.length : Int) != (l1.length : Int)) = true := by simp; omega
    have b3 : (l0.length == l1.length) = false := by simpa using hl
    have hne : decide (l0 = l1) = false := decide_eq_false (fun e => hl (by rw [e]))
    replace hne := Aside0.mk hne
    clear hl
    go_enter Tryd.func18, Tryd.ntmps18
    go_wp2
    go_ret
    exact ⟨by rw [hne.out]; rfl, Drawn0.refl _⟩
set_option maxHeartbeats 400000 in
theorem Ints_any (A0 A1 : Option Addr) (c0 c1 : Nat) (l0 l1 : List Int) (w : World) (H0 : Rd (Kd.int .i64) w A0 l0) (H1 : Rd (Kd.int .i64) w A1 l1) (hl0 : l0.length ≤ 9223372036854775807) :
    Calls Tryd.prog 30 #[.slice A0 l0.length c0, .slice A1 l1.length c1] w fun e w' => e = .returned (.bool (decide (l0 = l1))) ∧ Drawn0 w w' := by
  by_cases hl : l0.length = l1.length
  · have b1 : ((l0.length : Int) == (l1.length : Int)) = true := by simp [hl]
    have b2 : ((l0.length : Int) != (l1.length : Int)) = false := by simp [hl]
    have b3 : (l0.length == l1.length) = true := by simp [hl]
    have hl' := Aside0.mk hl
    clear hl
    go_enter Tryd.func30, Tryd.ntmps30
    go_wp2
    go_loopw [5] (fun i W => ∃ k : Nat, k ≤ l0.length ∧ i = .int .i64 k ∧ Aside0 (∀ j : Nat, j < k → rd l0 (j : Int) = rd l1 (j : Int)) ∧ Drawn0 w W) (fun i _ => l0.length - (intOf i).toNat)
    case atStart => exact ⟨0, by omega, rfl, ⟨fun j h => by omega⟩, Drawn0.refl _⟩
    case round =>
      obtain ⟨k, hk, rfl, hs, ⟨n, rfl⟩⟩ := hrel
      by_cases hlt : k < l0.length
      · obtain ⟨ad0, rfl, hc0⟩ := rd_atN H0 k hlt
        obtain ⟨ad1, rfl, hc1⟩ := rd_atN H1 k (by have := hl'.out; omega)
        have hlt1 : k < l1.length := by have := hl'.out; omega
        have q0 : (0 : Int) ≤ (k : Int) := by omega
        have q1 : (k : Int) < (l0.length : Int) := by omega
        have q2 : (k : Int) < (l1.length : Int) := by omega
        by_cases he : rd l0 (k : Int) = rd l1 (k : Int)
        · have b4 : (rd l0 (k : Int) != rd l1 (k : Int)) = false := by simp [he]
          have he' := Aside0.mk he
          clear he
          go_wp2
          go_quiet (fail)
          go_wp2
          go_roundw
          case rel => exact ⟨k + 1, by omega, by go_num, ⟨fun j hj => by rcases Nat.lt_or_ge j k with h | h; exact hs.out j h; rw [show j = k by omega]; exact he'.out⟩, by repeat (first | exact Drawn0.refl _ | apply Drawn0.step)⟩
          case measure => simp [intOf]; omega
        · have b4 : (rd l0 (k : Int) != rd l1 (k : Int)) = true := by simpa using he
          have hne : decide (l0 = l1) = false := decide_eq_false (fun e => he (by rw [e]))
          replace hne := Aside0.mk hne
          clear he
          go_wp2
          go_quiet (fail)
          go_wp2
          go_ret
          exact ⟨by rw [hne.out]; rfl, by repeat (first | exact Drawn0.refl _ | apply Drawn0.step)⟩
      · have he : decide (l0 = l1) = true := decide_eq_true (list_same l0 l1 hl'.out (fun i hi => hs.out i (by omega)))
        replace he := Aside0.mk he
        go_wp2
        go_ret
        exact ⟨by rw [he.out]; rfl, by repeat (first | exact Drawn0.refl _ | apply Drawn0.step)⟩
  · have b1 : ((l0.length : Int) == (l1.length : Int)) = false := by simp; omega
    have b2 : ((l0.length : Int) != (l1.length : Int)) = true := by simp; omega
    have b3 : (l0.length == l1.length) = false := by simpa using hl
    have hne : decide (l0 = l1) = false := decide_eq_false (fun e => hl (by rw [e]))
    replace hne := Aside0.mk hne
    clear hl
    go_enter Tryd.func30, Tryd.ntmps30
    go_wp2
    go_ret
    exact ⟨by rw [hne.out]; rfl, Drawn0.refl _⟩
end Go.Proofs.YtceibabhmomfiaaDoor.H
