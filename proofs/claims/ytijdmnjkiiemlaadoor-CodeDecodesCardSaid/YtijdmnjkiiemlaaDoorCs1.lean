/- Layer 3, walks: the same instructions, blocks. -/
import Derived.Test.YtijdmnjkiiemlaaDoorCw2
import Derived.Test.YtijdmnjkiiemlaaDoorVh
namespace Go.Proofs.YtijdmnjkiiemlaaDoor.H
open Go.RowKit Go.Proofs.YtijdmnjkiiemlaaDoorW.PrintWords Go.Proofs.YtijdmnjkiiemlaaDoorW.PrintLast
set_option linter.unusedVariables false
set_option linter.unusedSimpArgs false

/-- it tells whether P holds -/
def SameP (P : Prop) (w : World) (e : Ending) (w' : World) : Prop := ∃ b : Bool, e = .returned (.bool b) ∧ Aside0 (b = true ↔ P) ∧ Bel w w'
theorem SameP.yes {P : Prop} {w w' : World} {e : Ending} (h : SameP P w e w') (hp : P) : e = .returned (.bool true) ∧ Bel w w' := by
  obtain ⟨b, rfl, hb, hB⟩ := h
  rw [hb.out.2 hp]
  exact ⟨rfl, hB⟩
theorem SameP.no {P : Prop} {w w' : World} {e : Ending} (h : SameP P w e w') (hp : ¬ P) : e = .returned (.bool false) ∧ Bel w w' := by
  obtain ⟨b, rfl, hb, hB⟩ := h
  have : b = false := by
    cases b with
    | false => rfl
    | true => exact absurd (hb.out.1 rfl) hp
  rw [this]
  exact ⟨rfl, hB⟩
theorem SameP.mk1 {P : Prop} {w w' : World} (hp : P) (hB : Bel w w') : SameP P w (.returned (.bool true)) w' := ⟨true, rfl, ⟨⟨fun _ => hp, fun _ => rfl⟩⟩, hB⟩
theorem SameP.mk0 {P : Prop} {w w' : World} (hp : ¬ P) (hB : Bel w w') : SameP P w (.returned (.bool false)) w' := ⟨false, rfl, ⟨⟨fun h => (by cases h), fun h => absurd h hp⟩⟩, hB⟩
theorem SameP.mkd {P : Prop} [Decidable P] {w w' : World} (hB : Bel w w') : SameP P w (.returned (.bool (decide P))) w' := ⟨_, rfl, ⟨decide_eq_true_iff⟩, hB⟩
theorem lists_eq {α : Type} {l m : List α} (hl : l.length = m.length) (h : ∀ j (hj : j < l.length) (hj1 : j < m.length), j < l.length → l[j] = m[j]) : l = m := List.ext_getElem hl fun i h1 h2 => h i h1 h2 h1
theorem lists_snoc {α : Type} {l m : List α} {k : Nat} (hk : k < l.length) (hk1 : k < m.length) (h : ∀ j (hj : j < l.length) (hj1 : j < m.length), j < k → l[j] = m[j]) (he : l[k] = m[k]) : ∀ j (hj : j < l.length) (hj1 : j < m.length), j < k + 1 → l[j] = m[j] := fun j hj hj1 hjk => by
  rcases Nat.lt_or_ge j k with h2 | h2
  · exact h j hj hj1 h2
  · obtain rfl : j = k := by omega
    exact he

set_option maxHeartbeats 400000 in
theorem slEqual_any (A0 A1 : Option Addr) (c0 c1 : Nat) (l0 l1 : List Int) (w : World) (H0 : Rd (Kd.int .i64) w A0 l0) (H1 : Rd (Kd.int .i64) w A1 l1) (hl0 : l0.length ≤ 9223372036854775807) :
    Calls Tryd.prog 32 #[.slice A0 l0.length c0, .slice A1 l1.length c1] w fun e w' => e = .returned (.bool (decide (l0 = l1))) ∧ Drawn0 w w' := by
  by_cases hl : l0.length = l1.length
  · have b1 : ((l0.length : Int) == (l1.length : Int)) = true := by simp [hl]
    have b2 : ((l0.length : Int) != (l1.length : Int)) = false := by simp [hl]
    have b3 : (l0.length == l1.length) = true := by simp [hl]
    have hl' := Aside0.mk hl
    clear hl
    go_enter Tryd.func32, Tryd.ntmps32
    go_wp2
    go_loopw [13] (fun i W => ∃ k : Nat, k ≤ l0.length ∧ i = .int .i64 k ∧ Aside0 (∀ j : Nat, j < k → rd l0 (j : Int) = rd l1 (j : Int)) ∧ Drawn0 w W) (fun i _ => l0.length - (intOf i).toNat)
    case atStart => exact ⟨0, by omega, rfl, ⟨fun j h => by omega⟩, Drawn0.refl _⟩
    case round =>
      obtain ⟨k, hk, rfl, hs, ⟨n, rfl⟩⟩ := hrel
      by_cases hlt : k < l0.length
      · obtain ⟨ad0, rfl, hc0⟩ := rd_atN H0 k hlt
        obtain ⟨ad1, rfl, hc1⟩ := rd_atN H1 k (by have := hl'.out; omega)
        have hlt1 : k < l1.length := by have := hl'.out; omega
        have q0 : (0 : Int) ≤ (k : Int) := by omega
        have q1 : (k : Int) < (l0.length : Int) := by omega
        have q2 : (k : Int) < (l1.length : Int) := by omega
        by_cases he : rd l0 (k : Int) = rd l1 (k : Int)
        · have b4 : (rd l0 (k : Int) != rd l1 (k : Int)) = false := by simp [he]
          have he' := Aside0.mk he
          clear he
          go_wp2
          go_quiet (fail)
          go_wp2
          go_roundw
          case rel => exact ⟨k + 1, by omega, by go_num, ⟨fun j hj => by rcases Nat.lt_or_ge j k with h | h; exact hs.out j h; rw [show j = k by omega]; exact he'.out⟩, by repeat (first | exact Drawn0.refl _ | apply Drawn0.step)⟩
          case measure => simp [intOf]; omega
        · have b4 : (rd l0 (k : Int) != rd l1 (k : Int)) = true := by simpa using he
          have hne : decide (l0 = l1) = false := decide_eq_false (fun e => he (by rw [e]))
          replace hne := Aside0.mk hne
          clear he
          go_wp2
          go_quiet (fail)
          go_wp2
          go_ret
          exact ⟨by rw [hne.out]; rfl, by repeat (first | exact Drawn0.refl _ | apply Drawn0.step)⟩
      · have he : decide (l0 = l1) = true := decide_eq_true (list_same l0 l1 hl'.out (fun i hi => hs.out i (by omega)))
        replace he := Aside0.mk he
        go_wp2
        go_ret
        exact ⟨by rw [he.out]; rfl, by repeat (first | exact Drawn0.refl _ | apply Drawn0.step)⟩
  · have b1 : ((l0.length : Int) == (l1.length : Int)) = false := by simp; omega
    have b2 : ((l0.length : Int) != (l1.length : Int)) = true := by simp; omega
    have b3 : (l0.length == l1.length) = false := by simpa using hl
    have hne : decide (l0 = l1) = false := decide_eq_false (fun e => hl (by rw [e]))
    replace hne := Aside0.mk hne
    clear hl
    go_enter Tryd.func32, Tryd.ntmps32
    go_wp2
    go_ret
    exact ⟨by rw [hne.out]; rfl, Drawn0.refl _⟩
set_option maxRecDepth 100000
set_option maxHeartbeats 4000000 in
theorem csame_any (x y : SIns) (A B : Option Addr) (c d : Nat) (w : World) (P : Prop) (hP : Aside0 (P ↔ x = y)) (HA : RdI w A x.f6) (HB : RdI w B y.f6) :
    Calls Tryd.prog 29 #[insV x A c, insV y B d] w (SameP P w) := by
  have hl := HA.len
  have hB0 := ((Bel.refl w).alloc (.cells #[.int .i64 x.f0, .int .i64 x.f1, .int .i64 x.f2, .int .i64 x.f3, .int .i64 x.f4, .int .i64 x.f5, .slice A x.f6.length c] 45)).alloc (.cells #[.int .i64 y.f0, .int .i64 y.f1, .int .i64 y.f2, .int .i64 y.f3, .int .i64 y.f4, .int .i64 y.f5, .slice B y.f6.length d] 45)
  unfold insV
  have hcall := Aside0.mk (fun W (q : Bel w W) => slEqual_any A B c d x.f6 y.f6 W (HA.step q) (HB.step q) hl)
  obtain ⟨x0, x1, x2, x3, x4, x5, x6⟩ := x
  obtain ⟨y0, y1, y2, y3, y4, y5, y6⟩ := y
  simp only at hcall hl hB0 ⊢
  by_cases e0 : x0 = y0
  case neg =>
    have b0 : (x0 == y0) = false := by simpa using e0
    have hne : Aside0 (¬ (SIns.mk x0 x1 x2 x3 x4 x5 x6 = SIns.mk y0 y1 y2 y3 y4 y5 y6)) := ⟨fun h => e0 (by injection h)⟩
    clear e0
    go_enter Tryd.func29, Tryd.ntmps29
    go_wp2
    go_ret
    exact SameP.mk0 (fun h => hne.out (hP.out.1 h)) hB0
  have b0 : (x0 == y0) = true := by simpa using e0
  replace e0 := Aside0.mk e0
  by_cases e1 : x1 = y1
  case neg =>
    have b1 : (x1 == y1) = false := by simpa using e1
    have hne : Aside0 (¬ (SIns.mk x0 x1 x2 x3 x4 x5 x6 = SIns.mk y0 y1 y2 y3 y4 y5 y6)) := ⟨fun h => e1 (by injection h)⟩
    clear e1
    go_enter Tryd.func29, Tryd.ntmps29
    go_wp2
    go_ret
    exact SameP.mk0 (fun h => hne.out (hP.out.1 h)) hB0
  have b1 : (x1 == y1) = true := by simpa using e1
  replace e1 := Aside0.mk e1
  by_cases e2 : x2 = y2
  case neg =>
    have b2 : (x2 == y2) = false := by simpa using e2
    have hne : Aside0 (¬ (SIns.mk x0 x1 x2 x3 x4 x5 x6 = SIns.mk y0 y1 y2 y3 y4 y5 y6)) := ⟨fun h => e2 (by injection h)⟩
    clear e2
    go_enter Tryd.func29, Tryd.ntmps29
    go_wp2
    go_ret
    exact SameP.mk0 (fun h => hne.out (hP.out.1 h)) hB0
  have b2 : (x2 == y2) = true := by simpa using e2
  replace e2 := Aside0.mk e2
  by_cases e3 : x3 = y3
  case neg =>
    have b3 : (x3 == y3) = false := by simpa using e3
    have hne : Aside0 (¬ (SIns.mk x0 x1 x2 x3 x4 x5 x6 = SIns.mk y0 y1 y2 y3 y4 y5 y6)) := ⟨fun h => e3 (by injection h)⟩
    clear e3
    go_enter Tryd.func29, Tryd.ntmps29
    go_wp2
    go_ret
    exact SameP.mk0 (fun h => hne.out (hP.out.1 h)) hB0
  have b3 : (x3 == y3) = true := by simpa using e3
  replace e3 := Aside0.mk e3
  by_cases e4 : x4 = y4
  case neg =>
    have b4 : (x4 == y4) = false := by simpa using e4
    have hne : Aside0 (¬ (SIns.mk x0 x1 x2 x3 x4 x5 x6 = SIns.mk y0 y1 y2 y3 y4 y5 y6)) := ⟨fun h => e4 (by injection h)⟩
    clear e4
    go_enter Tryd.func29, Tryd.ntmps29
    go_wp2
    go_ret
    exact SameP.mk0 (fun h => hne.out (hP.out.1 h)) hB0
  have b4 : (x4 == y4) = true := by simpa using e4
  replace e4 := Aside0.mk e4
  by_cases e5 : x5 = y5
  case neg =>
    have b5 : (x5 == y5) = false := by simpa using e5
    have hne : Aside0 (¬ (SIns.mk x0 x1 x2 x3 x4 x5 x6 = SIns.mk y0 y1 y2 y3 y4 y5 y6)) := ⟨fun h => e5 (by injection h)⟩
    clear e5
    go_enter Tryd.func29, Tryd.ntmps29
    go_wp2
    go_ret
    exact SameP.mk0 (fun h => hne.out (hP.out.1 h)) hB0
  have b5 : (x5 == y5) = true := by simpa using e5
  replace e5 := Aside0.mk e5
  have q : decide (x6 = y6) = true ∨ decide (x6 = y6) = false := by cases decide (x6 = y6) <;> simp
  have hiff : Aside0 ((SIns.mk x0 x1 x2 x3 x4 x5 x6 = SIns.mk y0 y1 y2 y3 y4 y5 y6) ↔ x6 = y6) := ⟨by rw [e0.out, e1.out, e2.out, e3.out, e4.out, e5.out]; simp⟩
  clear q e0 e1 e2 e3 e4 e5
  go_enter Tryd.func29, Tryd.ntmps29
  go_wp2_with (go_at_call 32; ((with_reducible refine (hcall.out _ hB0).mono ?_); rintro e w' ⟨rfl, hd⟩))
  go_ret
  exact ⟨_, rfl, ⟨by rw [hP.out, hiff.out]; exact decide_eq_true_iff⟩, hB0.trans (Bel.drawn hd)⟩
set_option maxRecDepth 100000
set_option maxHeartbeats 4000000 in
theorem rsame_any (x y : SIns) (A B : Option Addr) (c d : Nat) (w : World) (P : Prop) (hP : Aside0 (P ↔ x = y)) (HA : RdI w A x.f6) (HB : RdI w B y.f6) :
    Calls Tryd.prog 50 #[insV x A c, insV y B d] w (SameP P w) := by
  have hl := HA.len
  have hB0 := ((Bel.refl w).alloc (.cells #[.int .i64 x.f0, .int .i64 x.f1, .int .i64 x.f2, .int .i64 x.f3, .int .i64 x.f4, .int .i64 x.f5, .slice A x.f6.length c] 45)).alloc (.cells #[.int .i64 y.f0, .int .i64 y.f1, .int .i64 y.f2, .int .i64 y.f3, .int .i64 y.f4, .int .i64 y.f5, .slice B y.f6.length d] 45)
  unfold insV
  have hcall := Aside0.mk (fun W (q : Bel w W) => Ints_any A B c d x.f6 y.f6 W (HA.step q) (HB.step q) hl)
  obtain ⟨x0, x1, x2, x3, x4, x5, x6⟩ := x
  obtain ⟨y0, y1, y2, y3, y4, y5, y6⟩ := y
  simp only at hcall hl hB0 ⊢
  by_cases e0 : x0 = y0
  case neg =>
    have b0 : (x0 == y0) = false := by simpa using e0
    have hne : Aside0 (¬ (SIns.mk x0 x1 x2 x3 x4 x5 x6 = SIns.mk y0 y1 y2 y3 y4 y5 y6)) := ⟨fun h => e0 (by injection h)⟩
    clear e0
    go_enter Tryd.func50, Tryd.ntmps50
    go_wp2
    go_ret
    exact SameP.mk0 (fun h => hne.out (hP.out.1 h)) hB0
  have b0 : (x0 == y0) = true := by simpa using e0
  replace e0 := Aside0.mk e0
  by_cases e1 : x1 = y1
  case neg =>
    have b1 : (x1 == y1) = false := by simpa using e1
    have hne : Aside0 (¬ (SIns.mk x0 x1 x2 x3 x4 x5 x6 = SIns.mk y0 y1 y2 y3 y4 y5 y6)) := ⟨fun h => e1 (by injection h)⟩
    clear e1
    go_enter Tryd.func50, Tryd.ntmps50
    go_wp2
    go_ret
    exact SameP.mk0 (fun h => hne.out (hP.out.1 h)) hB0
  have b1 : (x1 == y1) = true := by simpa using e1
  replace e1 := Aside0.mk e1
  by_cases e2 : x2 = y2
  case neg =>
    have b2 : (x2 == y2) = false := by simpa using e2
    have hne : Aside0 (¬ (SIns.mk x0 x1 x2 x3 x4 x5 x6 = SIns.mk y0 y1 y2 y3 y4 y5 y6)) := ⟨fun h => e2 (by injection h)⟩
    clear e2
    go_enter Tryd.func50, Tryd.ntmps50
    go_wp2
    go_ret
    exact SameP.mk0 (fun h => hne.out (hP.out.1 h)) hB0
  have b2 : (x2 == y2) = true := by simpa using e2
  replace e2 := Aside0.mk e2
  by_cases e3 : x3 = y3
  case neg =>
    have b3 : (x3 == y3) = false := by simpa using e3
    have hne : Aside0 (¬ (SIns.mk x0 x1 x2 x3 x4 x5 x6 = SIns.mk y0 y1 y2 y3 y4 y5 y6)) := ⟨fun h => e3 (by injection h)⟩
    clear e3
    go_enter Tryd.func50, Tryd.ntmps50
    go_wp2
    go_ret
    exact SameP.mk0 (fun h => hne.out (hP.out.1 h)) hB0
  have b3 : (x3 == y3) = true := by simpa using e3
  replace e3 := Aside0.mk e3
  by_cases e4 : x4 = y4
  case neg =>
    have b4 : (x4 == y4) = false := by simpa using e4
    have hne : Aside0 (¬ (SIns.mk x0 x1 x2 x3 x4 x5 x6 = SIns.mk y0 y1 y2 y3 y4 y5 y6)) := ⟨fun h => e4 (by injection h)⟩
    clear e4
    go_enter Tryd.func50, Tryd.ntmps50
    go_wp2
    go_ret
    exact SameP.mk0 (fun h => hne.out (hP.out.1 h)) hB0
  have b4 : (x4 == y4) = true := by simpa using e4
  replace e4 := Aside0.mk e4
  by_cases e5 : x5 = y5
  case neg =>
    have b5 : (x5 == y5) = false := by simpa using e5
    have hne : Aside0 (¬ (SIns.mk x0 x1 x2 x3 x4 x5 x6 = SIns.mk y0 y1 y2 y3 y4 y5 y6)) := ⟨fun h => e5 (by injection h)⟩
    clear e5
    go_enter Tryd.func50, Tryd.ntmps50
    go_wp2
    go_ret
    exact SameP.mk0 (fun h => hne.out (hP.out.1 h)) hB0
  have b5 : (x5 == y5) = true := by simpa using e5
  replace e5 := Aside0.mk e5
  have q : decide (x6 = y6) = true ∨ decide (x6 = y6) = false := by cases decide (x6 = y6) <;> simp
  have hiff : Aside0 ((SIns.mk x0 x1 x2 x3 x4 x5 x6 = SIns.mk y0 y1 y2 y3 y4 y5 y6) ↔ x6 = y6) := ⟨by rw [e0.out, e1.out, e2.out, e3.out, e4.out, e5.out]; simp⟩
  clear q e0 e1 e2 e3 e4 e5
  go_enter Tryd.func50, Tryd.ntmps50
  go_wp2_with (go_at_call 49; ((with_reducible refine (hcall.out _ hB0).mono ?_); rintro e w' ⟨rfl, hd⟩))
  go_ret
  exact ⟨_, rfl, ⟨by rw [hP.out, hiff.out]; exact decide_eq_true_iff⟩, hB0.trans (Bel.drawn hd)⟩
end Go.Proofs.YtijdmnjkiiemlaaDoor.H
