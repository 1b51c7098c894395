/- Texts of this work, joined: Pa1. Conditions: each stands with its theorem. -/
import Derived.Test.YtceibabhmomfiaaDoorX08
import Derived.Test.YtceibabhmomfiaaDoorX13
import Derived.Laws.EntriesVeiled
/- Layer 3, walks: what rises, what a list has of a kind. -/
namespace Go.Proofs.YtceibabhmomfiaaDoor.H
open Go.RowKit Go.Proofs.YtceibabhmomfiaaDoorW.PrintWords Go.Proofs.YtceibabhmomfiaaDoorW.PrintLast
set_option linter.unusedVariables false
set_option linter.unusedSimpArgs false
set_option maxRecDepth 100000

set_option maxHeartbeats 1000000 in
theorem mayC_any (x : SLoc) (w : World) : Calls Tryd.prog 76 #[.agg #[.int .i64 x.f0, .int .i64 x.f1]] w fun e w' => e = .returned (.bool (mayL x)) ∧ Bel w w' := by
  have hB0 := ((Bel.refl w).alloc (.cells #[.int .i64 x.f0, .int .i64 x.f1] 50))
  obtain ⟨x0, x1⟩ := x
  simp only at hB0 ⊢
  by_cases h1 : x0 = 1
  · have b1 : (x0 == 1) = true := by simpa using h1
    by_cases h2 : 0 ≤ x1
    · by_cases h3 : x1 < 32
      · have hm : Aside0 (mayL ⟨x0, x1⟩ = true) := ⟨by unfold mayL; rw [if_pos h1]; simp; omega⟩
        replace h1 := Aside0.mk h1
        go_enter Tryd.func76, Tryd.ntmps76
        go_wp2
        go_ret
        exact ⟨by rw [hm.out]; rfl, hB0⟩
      · have hm : Aside0 (mayL ⟨x0, x1⟩ = false) := ⟨by unfold mayL; rw [if_pos h1]; simp; omega⟩
        replace h1 := Aside0.mk h1
        go_enter Tryd.func76, Tryd.ntmps76
        go_wp2
        go_ret
        exact ⟨by rw [hm.out]; rfl, hB0⟩
    · have hm : Aside0 (mayL ⟨x0, x1⟩ = false) := ⟨by unfold mayL; rw [if_pos h1]; simp; omega⟩
      have b2 : decide (0 ≤ x1) = false := decide_eq_false h2
      clear h2
      replace h1 := Aside0.mk h1
      go_enter Tryd.func76, Tryd.ntmps76
      go_wp2
      go_ret
      exact ⟨by rw [hm.out]; rfl, hB0⟩
  · have b1 : (x0 == 1) = false := by simpa using h1
    by_cases h5 : x0 = 2
    · have b3 : (x0 == 2) = true := by simpa using h5
      by_cases h2 : 0 ≤ x1
      · by_cases h3 : x1 < 160
        · have hm : Aside0 (mayL ⟨x0, x1⟩ = true) := ⟨by unfold mayL; rw [if_neg h1, if_pos h5]; simp; omega⟩
          replace h1 := Aside0.mk h1
          replace h5 := Aside0.mk h5
          go_enter Tryd.func76, Tryd.ntmps76
          go_wp2
          go_ret
          exact ⟨by rw [hm.out]; rfl, hB0⟩
        · have hm : Aside0 (mayL ⟨x0, x1⟩ = false) := ⟨by unfold mayL; rw [if_neg h1, if_pos h5]; simp; omega⟩
          replace h1 := Aside0.mk h1
          replace h5 := Aside0.mk h5
          go_enter Tryd.func76, Tryd.ntmps76
          go_wp2
          go_ret
          exact ⟨by rw [hm.out]; rfl, hB0⟩
      · have hm : Aside0 (mayL ⟨x0, x1⟩ = false) := ⟨by unfold mayL; rw [if_neg h1, if_pos h5]; simp; omega⟩
        have b2 : decide (0 ≤ x1) = false := decide_eq_false h2
        clear h2
        replace h1 := Aside0.mk h1
        replace h5 := Aside0.mk h5
        go_enter Tryd.func76, Tryd.ntmps76
        go_wp2
        go_ret
        exact ⟨by rw [hm.out]; rfl, hB0⟩
    · have b3 : (x0 == 2) = false := by simpa using h5
      have hm : Aside0 (mayL ⟨x0, x1⟩ = false) := ⟨by unfold mayL; rw [if_neg h1, if_neg h5]⟩
      replace h1 := Aside0.mk h1
      replace h5 := Aside0.mk h5
      go_enter Tryd.func76, Tryd.ntmps76
      go_wp2
      go_ret
      exact ⟨by rw [hm.out]; rfl, hB0⟩
set_option maxHeartbeats 1000000 in
theorem astray_any (x : SLoc) (w : World) : Calls Tryd.prog 75 #[.agg #[.int .i64 x.f0, .int .i64 x.f1]] w (SameP (¬ mayL x = true) w) := by
  have hB0 := ((Bel.refl w).alloc (.cells #[.int .i64 x.f0, .int .i64 x.f1] 50))
  have hc := Aside0.mk (fun (W : World) => mayC_any x W)
  obtain ⟨b, hb⟩ : ∃ b, mayL x = b := ⟨_, rfl⟩
  rw [hb] at hc ⊢
  go_enter Tryd.func75, Tryd.ntmps75
  go_wp2_with (go_at_call 76; ((with_reducible refine (hc.out _).mono ?_); rintro e w' ⟨rfl, hB1⟩))
  go_ret
  exact ⟨!b, rfl, ⟨by cases b <;> simp⟩, hB0.trans hB1⟩
set_option maxHeartbeats 1000000 in
theorem cmpChart_any (x y : SChart) (A1 A2 B1 B2 : Option Addr) (c1 c2 d1 d2 : Nat) (w : World) :
    Calls Tryd.prog 42 #[chartV x A1 c1 A2 c2, chartV y B1 d1 B2 d2] w fun e w' => e = .returned (.int .i64 (cmpI x.f0 y.f0)) ∧ Bel w w' := by
  obtain ⟨x0, xr, xd⟩ := x
  obtain ⟨y0, yr, yd⟩ := y
  simp only [chartV]
  have hB0 := ((Bel.refl w).alloc (.cells #[.int .i64 x0, .slice A1 xr.length c1, .slice A2 xd.length c2] 36)).alloc (.cells #[.int .i64 y0, .slice B1 yr.length d1, .slice B2 yd.length d2] 36)
  have hc := Aside0.mk (fun (W : World) => Compare_any x0 y0 W)
  go_enter Tryd.func42, Tryd.ntmps42
  go_wp2_with (go_at_call 43; ((with_reducible refine (hc.out _).mono ?_); rintro e w' ⟨rfl, rfl⟩))
  go_ret
  exact ⟨rfl, hB0⟩
set_option maxHeartbeats 1000000 in
theorem cmpPair_any (x y : SPair) (w : World) :
    Calls Tryd.prog 74 #[.agg #[.int .i64 x.f0.f0, .int .i64 x.f0.f1, .int .i64 x.f1.f0, .int .i64 x.f1.f1], .agg #[.int .i64 y.f0.f0, .int .i64 y.f0.f1, .int .i64 y.f1.f0, .int .i64 y.f1.f1]] w fun e w' => e = .returned (.int .i64 (cmpL x.f0 y.f0)) ∧ Bel w w' := by
  have hB0 := ((Bel.refl w).alloc (.cells #[.int .i64 x.f0.f0, .int .i64 x.f0.f1, .int .i64 x.f1.f0, .int .i64 x.f1.f1] 73)).alloc (.cells #[.int .i64 y.f0.f0, .int .i64 y.f0.f1, .int .i64 y.f1.f0, .int .i64 y.f1.f1] 73)
  have hc := Aside0.mk (fun (W : World) => compare_any x.f0 y.f0 W)
  go_enter Tryd.func74, Tryd.ntmps74
  go_wp2_with (go_at_call 72; ((with_reducible refine (hc.out _).mono ?_); rintro e w' ⟨rfl, hB1⟩))
  go_ret
  exact ⟨rfl, hB0.trans hB1⟩
theorem cmpI_neg (a b : Int) : cmpI a b < 0 ↔ a < b := by
  unfold cmpI
  by_cases h1 : a < b
  · simp [h1]
  · by_cases h2 : b < a <;> simp [h1, h2]
theorem cmpL_neg (x y : SLoc) : cmpL x y < 0 ↔ befL x y = true := by
  have := cmpL_lt x y
  constructor
  · intro h; rw [← this]; exact decide_eq_true h
  · intro h; rw [← this] at h; exact of_decide_eq_true h
theorem Rise.no {α : Type} {R : α → α → Prop} {l : List α} {m k : Nat} (hk : k = m + 1) (hl : k < l.length) (h : ¬ R (l[m]'(by omega)) l[k]) : ¬ Rise R l := fun q => by
  subst hk
  exact h (q m hl)
set_option maxHeartbeats 2000000 in
theorem risingLoc_any (A : Option Addr) (c : Nat) (l : List SLoc) (w : World) (HA : Rd kLoc w A l) (hl : l.length ≤ 1000000000) :
    Calls Tryd.prog 71 #[.slice A l.length c, .func (.func 72) #[] #[]] w (SameP (Rise (fun x y => befL x y = true) l) w) := by
  go_enter Tryd.func71, Tryd.ntmps71
  go_wp2
  go_loopw [5] (fun i W => ∃ k : Nat, 1 ≤ k ∧ k ≤ l.length + 1 ∧ i = .int .i64 k ∧ Bel w W ∧ Aside0 (∀ j (h : j + 1 < l.length), j + 1 < k → (fun x y => befL x y = true) (l[j]'(by omega)) l[j + 1])) (fun i _ => l.length + 1 - (intOf i).toNat)
  case atStart => exact ⟨1, by omega, by omega, rfl, Bel.refl _, ⟨fun j _ h => absurd h (by omega)⟩⟩
  case round =>
    obtain ⟨k, hk1, hk, rfl, hBr, hno⟩ := hrel
    by_cases hlt : k < l.length
    · obtain ⟨m, hm⟩ : ∃ m, k = m + 1 := ⟨k - 1, by omega⟩
      have hml : m < l.length := by omega
      obtain ⟨ad, rfl, c0, c1⟩ := loc_at (HA.step hBr) k hlt
      obtain ⟨ad', e', d0, d1⟩ := loc_at (HA.step hBr) m (by omega)
      injection e' with e'
      subst e'
      have hnx := Aside0.mk (fun (h : (fun x y => befL x y = true) (l[m]'hml) (l[k]'hlt)) j (hj : j + 1 < l.length) (hjk : j + 1 < k + 1) => show (fun x y => befL x y = true) (l[j]'(by omega)) l[j + 1] from by
        by_cases e : j + 1 = k
        · have e2 : j = m := by omega
          subst e2
          simp only [e]
          exact h
        · exact hno.out j hj (by omega))
      have hnn := Aside0.mk (fun (h : ¬ (fun x y => befL x y = true) (l[m]'hml) (l[k]'hlt)) => Rise.no (R := (fun x y => befL x y = true)) hm hlt h)
      obtain ⟨x, hx⟩ : ∃ x, l[m]'hml = x := ⟨_, rfl⟩
      obtain ⟨y, hy⟩ : ∃ y, l[k]'hlt = y := ⟨_, rfl⟩
      rw [hx] at d0 d1
      rw [hy] at c0 c1
      rw [hx, hy] at hnx hnn
      clear hx hy
      have hw1 : IntKind.i64.wrap ((k : Int) - 1) = (m : Int) := by rw [IntKind.wrap_i64]; omega
      have hBd : Bel wr wr.drew := (Bel.refl wr).drewN 1
      have hz := Aside0.mk (fun (W : World) (q : Bel wr W) => And.intro q (show (fun w' : World => w'.cell? (ad.add (k * 2)) = some (.int .i64 y.f0) ∧ w'.cell? ⟨(ad.add (k * 2)).block, (ad.add (k * 2)).off + 1, none⟩ = some (.int .i64 y.f1) ∧ w'.cell? (ad.add (m * 2)) = some (.int .i64 x.f0) ∧ w'.cell? ⟨(ad.add (m * 2)).block, (ad.add (m * 2)).off + 1, none⟩ = some (.int .i64 x.f1)) W from ⟨Bel.cell q c0, Bel.cell q c1, Bel.cell q d0, Bel.cell q d1⟩))
      have hneg := Aside0.mk (cmpL_neg x y)
      have hcmp := Aside0.mk (fun (W : World) (q : Bel wr W) => compare_any x y W)
      obtain ⟨n, hn⟩ : ∃ n : Int, cmpL x y = n := ⟨_, rfl⟩
      rw [hn] at hneg hcmp
      clear hn
      replace hm := Aside0.mk hm
      go_upto_region 4 with (fail)
      refine wp_region_held_drew (S := fun w' => Bel wr w' ∧ w'.cell? (ad.add (k * 2)) = some (.int .i64 y.f0) ∧ w'.cell? ⟨(ad.add (k * 2)).block, (ad.add (k * 2)).off + 1, none⟩ = some (.int .i64 y.f1) ∧ w'.cell? (ad.add (m * 2)) = some (.int .i64 x.f0) ∧ w'.cell? ⟨(ad.add (m * 2)).block, (ad.add (m * 2)).off + 1, none⟩ = some (.int .i64 x.f1)) (by kernel_rfl) (hz.out _ hBd) (fun hHeld => ?_)
      refine wpAnyH_take (i := 0) (v := ?_) rfl (by kernel_rfl) (by kernel_rfl) (by kernel_rfl) (fun _ _ _ h => h) (Or.inl ⟨by kernel_rfl, ?_⟩) hHeld ?_
      rotate_left 1
      focus (intro w hSw; (try dsimp only at hSw); go_simp; (try with_reducible rfl); done)
      try simp only [Act.put, List.getElem_toArray, List.getElem_cons_zero, List.getElem_cons_succ, List.setIfInBounds_toArray, List.set_cons_zero, List.set_cons_succ]
      refine wpAnyH_take (i := 1) (v := ?_) rfl (by kernel_rfl) (by kernel_rfl) (by kernel_rfl) (fun _ _ _ h => h) (Or.inl ⟨by kernel_rfl, ?_⟩) hHeld ?_
      rotate_left 1
      focus (intro w hSw; (try dsimp only at hSw); go_simp; (try with_reducible rfl); done)
      try simp only [Act.put, List.getElem_toArray, List.getElem_cons_zero, List.getElem_cons_succ, List.setIfInBounds_toArray, List.set_cons_zero, List.set_cons_succ]
      refine wpAnyH_take (i := 2) (v := ?_) rfl (by kernel_rfl) (by kernel_rfl) (by kernel_rfl) (fun _ _ _ h => h) (Or.inl ⟨by kernel_rfl, ?_⟩) hHeld ?_
      rotate_left 1
      focus (intro w hSw; (try dsimp only at hSw); go_simp; (try with_reducible rfl); done)
      try simp only [Act.put, List.getElem_toArray, List.getElem_cons_zero, List.getElem_cons_succ, List.setIfInBounds_toArray, List.set_cons_zero, List.set_cons_succ]
      refine wpAnyH_take (i := 3) (v := ?_) rfl (by kernel_rfl) (by kernel_rfl) (by kernel_rfl) (fun _ _ _ h => h) (Or.inl ⟨by kernel_rfl, ?_⟩) hHeld ?_
      rotate_left 1
      focus (intro w hSw; (try dsimp only at hSw); go_simp; (try with_reducible rfl); done)
      try simp only [Act.put, List.getElem_toArray, List.getElem_cons_zero, List.getElem_cons_succ, List.setIfInBounds_toArray, List.set_cons_zero, List.set_cons_succ]
      refine wpAnyH_take (i := 4) (v := ?_) rfl (by kernel_rfl) (by kernel_rfl) (by kernel_rfl) (fun _ _ _ h => h) (Or.inl ⟨by kernel_rfl, ?_⟩) hHeld ?_
      rotate_left 1
      focus (intro w hSw; (try dsimp only at hSw); go_simp; (try with_reducible rfl); done)
      try simp only [Act.put, List.getElem_toArray, List.getElem_cons_zero, List.getElem_cons_succ, List.setIfInBounds_toArray, List.set_cons_zero, List.set_cons_succ]
      refine wpAnyH_take (i := 5) (v := ?_) rfl (by kernel_rfl) (by kernel_rfl) (by kernel_rfl) (fun _ _ _ h => h) (Or.inl ⟨by kernel_rfl, ?_⟩) hHeld ?_
      rotate_left 1
      focus (intro w hSw; (try dsimp only at hSw); go_simp; (try with_reducible rfl); done)
      try simp only [Act.put, List.getElem_toArray, List.getElem_cons_zero, List.getElem_cons_succ, List.setIfInBounds_toArray, List.set_cons_zero, List.set_cons_succ]
      refine wpAnyH_take (i := 6) (v := ?_) rfl (by kernel_rfl) (by kernel_rfl) (by kernel_rfl) (fun _ _ _ h => h) (Or.inl ⟨by kernel_rfl, ?_⟩) hHeld ?_
      rotate_left 1
      focus (intro w hSw; (try dsimp only at hSw); go_simp; (try with_reducible rfl); done)
      try simp only [Act.put, List.getElem_toArray, List.getElem_cons_zero, List.getElem_cons_succ, List.setIfInBounds_toArray, List.set_cons_zero, List.set_cons_succ]
      refine wpAnyH_take (i := 7) (v := ?_) rfl (by kernel_rfl) (by kernel_rfl) (by kernel_rfl) (fun _ _ _ h => h) (Or.inl ⟨by kernel_rfl, ?_⟩) hHeld ?_
      rotate_left 1
      focus (intro w hSw; (try dsimp only at hSw); go_simp; (try with_reducible rfl); done)
      try simp only [Act.put, List.getElem_toArray, List.getElem_cons_zero, List.getElem_cons_succ, List.setIfInBounds_toArray, List.set_cons_zero, List.set_cons_succ]
      refine wpAnyH_take (i := 8) (v := ?_) rfl (by kernel_rfl) (by kernel_rfl) (by kernel_rfl) (fun _ _ _ h => h) (Or.inl ⟨by kernel_rfl, ?_⟩) hHeld ?_
      rotate_left 1
      focus (intro w hSw; (try dsimp only at hSw); go_simp; (try with_reducible rfl); done)
      try simp only [Act.put, List.getElem_toArray, List.getElem_cons_zero, List.getElem_cons_succ, List.setIfInBounds_toArray, List.set_cons_zero, List.set_cons_succ]
      refine wpAnyH_take (i := 9) (v := ?_) rfl (by kernel_rfl) (by kernel_rfl) (by kernel_rfl) (fun _ _ _ h => h) (Or.inl ⟨by kernel_rfl, ?_⟩) hHeld ?_
      rotate_left 1
      focus (intro w hSw; (try dsimp only at hSw); go_simp; (try with_reducible rfl); done)
      try simp only [Act.put, List.getElem_toArray, List.getElem_cons_zero, List.getElem_cons_succ, List.setIfInBounds_toArray, List.set_cons_zero, List.set_cons_succ]
      refine wpAnyH_ready (rs := [10]) (by kernel_rfl) (by simp) ?_
      refine AllReadyH.cons rfl (fun K hK => ?_) AllReadyH.nil
      go_simp
      (go_at_call 72; refine (hcmp.out _ hBd).mono ?_; rintro ex w5 ⟨rfl, hB5⟩)
      refine hK.out _ _ ?_ (fun hHeld => ?_)
      rotate_left 1
      clear hK K
      try simp only [Act.put, List.getElem_toArray, List.getElem_cons_zero, List.getElem_cons_succ, List.setIfInBounds_toArray, List.set_cons_zero, List.set_cons_succ]
      rotate_left 1
      · exact hz.out _ (hBd.trans hB5)
      refine wpAnyH_take (i := 11) (v := ?_) rfl (by kernel_rfl) (by kernel_rfl) (by kernel_rfl) (fun _ _ _ h => h) (Or.inl ⟨by kernel_rfl, ?_⟩) hHeld ?_
      rotate_left 1
      focus (intro w hSw; (try dsimp only at hSw); go_simp; (try with_reducible rfl); done)
      try simp only [Act.put, List.getElem_toArray, List.getElem_cons_zero, List.getElem_cons_succ, List.setIfInBounds_toArray, List.set_cons_zero, List.set_cons_succ]
      refine wpAnyH_done (by kernel_rfl) ?_ _
      by_cases h0 : n < 0
      · have b0 : decide (0 ≤ n) = false := decide_eq_false (by omega)
        have hnx2 := Aside0.mk (hnx.out (hneg.out.1 h0))
        clear hnx hnn
        go_wp2
        go_roundw
        case rel => exact ⟨k + 1, by omega, by omega, by go_num, hBr.trans (hBd.trans hB5), hnx2⟩
        case measure => simp [intOf]; omega
      · have hnn2 := Aside0.mk (hnn.out (fun q => h0 (hneg.out.2 q)))
        clear hnx hnn
        go_wp2
        go_ret
        exact SameP.mk0 hnn2.out (hBr.trans (hBd.trans hB5))
    · have hall : Aside0 (Rise (fun x y => befL x y = true) l) := ⟨fun j hj => hno.out j hj (by omega)⟩
      go_wp2
      go_ret
      exact SameP.mk1 hall.out hBr
set_option maxHeartbeats 2000000 in
theorem risingPair_any (A : Option Addr) (c : Nat) (l : List SPair) (w : World) (HA : Rd kPair w A l) (hl : l.length ≤ 1000000000) :
    Calls Tryd.prog 73 #[.slice A l.length c, .func (.func 74) #[] #[]] w (SameP (Rise (fun x y => befL x.f0 y.f0 = true) l) w) := by
  go_enter Tryd.func73, Tryd.ntmps73
  go_wp2
  go_loopw [5] (fun i W => ∃ k : Nat, 1 ≤ k ∧ k ≤ l.length + 1 ∧ i = .int .i64 k ∧ Bel w W ∧ Aside0 (∀ j (h : j + 1 < l.length), j + 1 < k → (fun x y => befL x.f0 y.f0 = true) (l[j]'(by omega)) l[j + 1])) (fun i _ => l.length + 1 - (intOf i).toNat)
  case atStart => exact ⟨1, by omega, by omega, rfl, Bel.refl _, ⟨fun j _ h => absurd h (by omega)⟩⟩
  case round =>
    obtain ⟨k, hk1, hk, rfl, hBr, hno⟩ := hrel
    by_cases hlt : k < l.length
    · obtain ⟨m, hm⟩ : ∃ m, k = m + 1 := ⟨k - 1, by omega⟩
      have hml : m < l.length := by omega
      obtain ⟨ad, rfl, c0, c1, c2, c3⟩ := pair_at (HA.step hBr) k hlt
      obtain ⟨ad', e', d0, d1, d2, d3⟩ := pair_at (HA.step hBr) m (by omega)
      injection e' with e'
      subst e'
      have hnx := Aside0.mk (fun (h : (fun x y => befL x.f0 y.f0 = true) (l[m]'hml) (l[k]'hlt)) j (hj : j + 1 < l.length) (hjk : j + 1 < k + 1) => show (fun x y => befL x.f0 y.f0 = true) (l[j]'(by omega)) l[j + 1] from by
        by_cases e : j + 1 = k
        · have e2 : j = m := by omega
          subst e2
          simp only [e]
          exact h
        · exact hno.out j hj (by omega))
      have hnn := Aside0.mk (fun (h : ¬ (fun x y => befL x.f0 y.f0 = true) (l[m]'hml) (l[k]'hlt)) => Rise.no (R := (fun x y => befL x.f0 y.f0 = true)) hm hlt h)
      obtain ⟨x, hx⟩ : ∃ x, l[m]'hml = x := ⟨_, rfl⟩
      obtain ⟨y, hy⟩ : ∃ y, l[k]'hlt = y := ⟨_, rfl⟩
      rw [hx] at d0 d1 d2 d3
      rw [hy] at c0 c1 c2 c3
      rw [hx, hy] at hnx hnn
      clear hx hy
      have hw1 : IntKind.i64.wrap ((k : Int) - 1) = (m : Int) := by rw [IntKind.wrap_i64]; omega
      have hBd : Bel wr wr.drew := (Bel.refl wr).drewN 1
      have hz := Aside0.mk (fun (W : World) (q : Bel wr W) => And.intro q (show (fun w' : World => w'.cell? (ad.add (k * 4)) = some (.int .i64 y.f0.f0) ∧ w'.cell? ⟨(ad.add (k * 4)).block, (ad.add (k * 4)).off + 1, none⟩ = some (.int .i64 y.f0.f1) ∧ w'.cell? ⟨(ad.add (k * 4)).block, (ad.add (k * 4)).off + 2, none⟩ = some (.int .i64 y.f1.f0) ∧ w'.cell? ⟨(ad.add (k * 4)).block, (ad.add (k * 4)).off + 3, none⟩ = some (.int .i64 y.f1.f1) ∧ w'.cell? (ad.add (m * 4)) = some (.int .i64 x.f0.f0) ∧ w'.cell? ⟨(ad.add (m * 4)).block, (ad.add (m * 4)).off + 1, none⟩ = some (.int .i64 x.f0.f1) ∧ w'.cell? ⟨(ad.add (m * 4)).block, (ad.add (m * 4)).off + 2, none⟩ = some (.int .i64 x.f1.f0) ∧ w'.cell? ⟨(ad.add (m * 4)).block, (ad.add (m * 4)).off + 3, none⟩ = some (.int .i64 x.f1.f1)) W from ⟨Bel.cell q c0, Bel.cell q c1, Bel.cell q c2, Bel.cell q c3, Bel.cell q d0, Bel.cell q d1, Bel.cell q d2, Bel.cell q d3⟩))
      have hneg := Aside0.mk (cmpL_neg x.f0 y.f0)
      have hcmp := Aside0.mk (fun (W : World) (q : Bel wr W) => cmpPair_any x y W)
      obtain ⟨n, hn⟩ : ∃ n : Int, cmpL x.f0 y.f0 = n := ⟨_, rfl⟩
      rw [hn] at hneg hcmp
      clear hn
      replace hm := Aside0.mk hm
      go_upto_region 4 with (fail)
      refine wp_region_held_drew (S := fun w' => Bel wr w' ∧ w'.cell? (ad.add (k * 4)) = some (.int .i64 y.f0.f0) ∧ w'.cell? ⟨(ad.add (k * 4)).block, (ad.add (k * 4)).off + 1, none⟩ = some (.int .i64 y.f0.f1) ∧ w'.cell? ⟨(ad.add (k * 4)).block, (ad.add (k * 4)).off + 2, none⟩ = some (.int .i64 y.f1.f0) ∧ w'.cell? ⟨(ad.add (k * 4)).block, (ad.add (k * 4)).off + 3, none⟩ = some (.int .i64 y.f1.f1) ∧ w'.cell? (ad.add (m * 4)) = some (.int .i64 x.f0.f0) ∧ w'.cell? ⟨(ad.add (m * 4)).block, (ad.add (m * 4)).off + 1, none⟩ = some (.int .i64 x.f0.f1) ∧ w'.cell? ⟨(ad.add (m * 4)).block, (ad.add (m * 4)).off + 2, none⟩ = some (.int .i64 x.f1.f0) ∧ w'.cell? ⟨(ad.add (m * 4)).block, (ad.add (m * 4)).off + 3, none⟩ = some (.int .i64 x.f1.f1)) (by kernel_rfl) (hz.out _ hBd) (fun hHeld => ?_)
      refine wpAnyH_take (i := 0) (v := ?_) rfl (by kernel_rfl) (by kernel_rfl) (by kernel_rfl) (fun _ _ _ h => h) (Or.inl ⟨by kernel_rfl, ?_⟩) hHeld ?_
      rotate_left 1
      focus (intro w hSw; (try dsimp only at hSw); go_simp; (try with_reducible rfl); done)
      try simp only [Act.put, List.getElem_toArray, List.getElem_cons_zero, List.getElem_cons_succ, List.setIfInBounds_toArray, List.set_cons_zero, List.set_cons_succ]
      refine wpAnyH_take (i := 1) (v := ?_) rfl (by kernel_rfl) (by kernel_rfl) (by kernel_rfl) (fun _ _ _ h => h) (Or.inl ⟨by kernel_rfl, ?_⟩) hHeld ?_
      rotate_left 1
      focus (intro w hSw; (try dsimp only at hSw); go_simp; (try with_reducible rfl); done)
      try simp only [Act.put, List.getElem_toArray, List.getElem_cons_zero, List.getElem_cons_succ, List.setIfInBounds_toArray, List.set_cons_zero, List.set_cons_succ]
      refine wpAnyH_take (i := 2) (v := ?_) rfl (by kernel_rfl) (by kernel_rfl) (by kernel_rfl) (fun _ _ _ h => h) (Or.inl ⟨by kernel_rfl, ?_⟩) hHeld ?_
      rotate_left 1
      focus (intro w hSw; (try dsimp only at hSw); go_simp; (try with_reducible rfl); done)
      try simp only [Act.put, List.getElem_toArray, List.getElem_cons_zero, List.getElem_cons_succ, List.setIfInBounds_toArray, List.set_cons_zero, List.set_cons_succ]
      refine wpAnyH_take (i := 3) (v := ?_) rfl (by kernel_rfl) (by kernel_rfl) (by kernel_rfl) (fun _ _ _ h => h) (Or.inl ⟨by kernel_rfl, ?_⟩) hHeld ?_
      rotate_left 1
      focus (intro w hSw; (try dsimp only at hSw); go_simp; (try with_reducible rfl); done)
      try simp only [Act.put, List.getElem_toArray, List.getElem_cons_zero, List.getElem_cons_succ, List.setIfInBounds_toArray, List.set_cons_zero, List.set_cons_succ]
      refine wpAnyH_take (i := 4) (v := ?_) rfl (by kernel_rfl) (by kernel_rfl) (by kernel_rfl) (fun _ _ _ h => h) (Or.inl ⟨by kernel_rfl, ?_⟩) hHeld ?_
      rotate_left 1
      focus (intro w hSw; (try dsimp only at hSw); go_simp; (try with_reducible rfl); done)
      try simp only [Act.put, List.getElem_toArray, List.getElem_cons_zero, List.getElem_cons_succ, List.setIfInBounds_toArray, List.set_cons_zero, List.set_cons_succ]
      refine wpAnyH_take (i := 5) (v := ?_) rfl (by kernel_rfl) (by kernel_rfl) (by kernel_rfl) (fun _ _ _ h => h) (Or.inl ⟨by kernel_rfl, ?_⟩) hHeld ?_
      rotate_left 1
      focus (intro w hSw; (try dsimp only at hSw); go_simp; (try with_reducible rfl); done)
      try simp only [Act.put, List.getElem_toArray, List.getElem_cons_zero, List.getElem_cons_succ, List.setIfInBounds_toArray, List.set_cons_zero, List.set_cons_succ]
      refine wpAnyH_take (i := 6) (v := ?_) rfl (by kernel_rfl) (by kernel_rfl) (by kernel_rfl) (fun _ _ _ h => h) (Or.inl ⟨by kernel_rfl, ?_⟩) hHeld ?_
      rotate_left 1
      focus (intro w hSw; (try dsimp only at hSw); go_simp; (try with_reducible rfl); done)
      try simp only [Act.put, List.getElem_toArray, List.getElem_cons_zero, List.getElem_cons_succ, List.setIfInBounds_toArray, List.set_cons_zero, List.set_cons_succ]
      refine wpAnyH_take (i := 7) (v := ?_) rfl (by kernel_rfl) (by kernel_rfl) (by kernel_rfl) (fun _ _ _ h => h) (Or.inl ⟨by kernel_rfl, ?_⟩) hHeld ?_
      rotate_left 1
      focus (intro w hSw; (try dsimp only at hSw); go_simp; (try with_reducible rfl); done)
      try simp only [Act.put, List.getElem_toArray, List.getElem_cons_zero, List.getElem_cons_succ, List.setIfInBounds_toArray, List.set_cons_zero, List.set_cons_succ]
      refine wpAnyH_take (i := 8) (v := ?_) rfl (by kernel_rfl) (by kernel_rfl) (by kernel_rfl) (fun _ _ _ h => h) (Or.inl ⟨by kernel_rfl, ?_⟩) hHeld ?_
      rotate_left 1
      focus (intro w hSw; (try dsimp only at hSw); go_simp; (try with_reducible rfl); done)
      try simp only [Act.put, List.getElem_toArray, List.getElem_cons_zero, List.getElem_cons_succ, List.setIfInBounds_toArray, List.set_cons_zero, List.set_cons_succ]
      refine wpAnyH_take (i := 9) (v := ?_) rfl (by kernel_rfl) (by kernel_rfl) (by kernel_rfl) (fun _ _ _ h => h) (Or.inl ⟨by kernel_rfl, ?_⟩) hHeld ?_
      rotate_left 1
      focus (intro w hSw; (try dsimp only at hSw); go_simp; (try with_reducible rfl); done)
      try simp only [Act.put, List.getElem_toArray, List.getElem_cons_zero, List.getElem_cons_succ, List.setIfInBounds_toArray, List.set_cons_zero, List.set_cons_succ]
      refine wpAnyH_ready (rs := [10]) (by kernel_rfl) (by simp) ?_
      refine AllReadyH.cons rfl (fun K hK => ?_) AllReadyH.nil
      go_simp
      (go_at_call 74; refine (hcmp.out _ hBd).mono ?_; rintro ex w5 ⟨rfl, hB5⟩)
      refine hK.out _ _ ?_ (fun hHeld => ?_)
      rotate_left 1
      clear hK K
      try simp only [Act.put, List.getElem_toArray, List.getElem_cons_zero, List.getElem_cons_succ, List.setIfInBounds_toArray, List.set_cons_zero, List.set_cons_succ]
      rotate_left 1
      · exact hz.out _ (hBd.trans hB5)
      refine wpAnyH_take (i := 11) (v := ?_) rfl (by kernel_rfl) (by kernel_rfl) (by kernel_rfl) (fun _ _ _ h => h) (Or.inl ⟨by kernel_rfl, ?_⟩) hHeld ?_
      rotate_left 1
      focus (intro w hSw; (try dsimp only at hSw); go_simp; (try with_reducible rfl); done)
      try simp only [Act.put, List.getElem_toArray, List.getElem_cons_zero, List.getElem_cons_succ, List.setIfInBounds_toArray, List.set_cons_zero, List.set_cons_succ]
      refine wpAnyH_done (by kernel_rfl) ?_ _
      by_cases h0 : n < 0
      · have b0 : decide (0 ≤ n) = false := decide_eq_false (by omega)
        have hnx2 := Aside0.mk (hnx.out (hneg.out.1 h0))
        clear hnx hnn
        go_wp2
        go_roundw
        case rel => exact ⟨k + 1, by omega, by omega, by go_num, hBr.trans (hBd.trans hB5), hnx2⟩
        case measure => simp [intOf]; omega
      · have hnn2 := Aside0.mk (hnn.out (fun q => h0 (hneg.out.2 q)))
        clear hnx hnn
        go_wp2
        go_ret
        exact SameP.mk0 hnn2.out (hBr.trans (hBd.trans hB5))
    · have hall : Aside0 (Rise (fun x y => befL x.f0 y.f0 = true) l) := ⟨fun j hj => hno.out j hj (by omega)⟩
      go_wp2
      go_ret
      exact SameP.mk1 hall.out hBr
set_option maxHeartbeats 2000000 in
theorem risingChart_any (A : Option Addr) (c : Nat) (l : List SChart) (w : World) (HA : Rd kChart w A l) (hl : l.length ≤ 1000000000) :
    Calls Tryd.prog 41 #[.slice A l.length c, .func (.func 42) #[] #[]] w (SameP (Rise (fun x y => x.f0 < y.f0) l) w) := by
  go_enter Tryd.func41, Tryd.ntmps41
  go_wp2
  go_loopw [5] (fun i W => ∃ k : Nat, 1 ≤ k ∧ k ≤ l.length + 1 ∧ i = .int .i64 k ∧ Bel w W ∧ Aside0 (∀ j (h : j + 1 < l.length), j + 1 < k → (fun x y => x.f0 < y.f0) (l[j]'(by omega)) l[j + 1])) (fun i _ => l.length + 1 - (intOf i).toNat)
  case atStart => exact ⟨1, by omega, by omega, rfl, Bel.refl _, ⟨fun j _ h => absurd h (by omega)⟩⟩
  case round =>
    obtain ⟨k, hk1, hk, rfl, hBr, hno⟩ := hrel
    by_cases hlt : k < l.length
    · obtain ⟨m, hm⟩ : ∃ m, k = m + 1 := ⟨k - 1, by omega⟩
      have hml : m < l.length := by omega
      obtain ⟨ad, C1, n1, C2, n2, rfl, c0, c1, c2, c3, c4⟩ := chart_at (HA.step hBr) k hlt
      obtain ⟨ad', D1, m1, D2, m2, e', d0, d1, d2, d3, d4⟩ := chart_at (HA.step hBr) m (by omega)
      injection e' with e'
      subst e'
      have hnx := Aside0.mk (fun (h : (fun x y => x.f0 < y.f0) (l[m]'hml) (l[k]'hlt)) j (hj : j + 1 < l.length) (hjk : j + 1 < k + 1) => show (fun x y => x.f0 < y.f0) (l[j]'(by omega)) l[j + 1] from by
        by_cases e : j + 1 = k
        · have e2 : j = m := by omega
          subst e2
          simp only [e]
          exact h
        · exact hno.out j hj (by omega))
      have hnn := Aside0.mk (fun (h : ¬ (fun x y => x.f0 < y.f0) (l[m]'hml) (l[k]'hlt)) => Rise.no (R := (fun x y => x.f0 < y.f0)) hm hlt h)
      obtain ⟨x, hx⟩ : ∃ x, l[m]'hml = x := ⟨_, rfl⟩
      obtain ⟨y, hy⟩ : ∃ y, l[k]'hlt = y := ⟨_, rfl⟩
      rw [hx] at d0 d1 d2 d3 d4
      rw [hy] at c0 c1 c2 c3 c4
      rw [hx, hy] at hnx hnn
      clear hx hy
      have hw1 : IntKind.i64.wrap ((k : Int) - 1) = (m : Int) := by rw [IntKind.wrap_i64]; omega
      have hBd : Bel wr wr.drew := (Bel.refl wr).drewN 1
      have hz := Aside0.mk (fun (W : World) (q : Bel wr W) => And.intro q (show (fun w' : World => w'.cell? (ad.add (k * 3)) = some (.int .i64 y.f0) ∧ w'.cell? ⟨(ad.add (k * 3)).block, (ad.add (k * 3)).off + 1, none⟩ = some (.slice C1 y.f1.length n1) ∧ w'.cell? ⟨(ad.add (k * 3)).block, (ad.add (k * 3)).off + 2, none⟩ = some (.slice C2 y.f2.length n2) ∧ w'.cell? (ad.add (m * 3)) = some (.int .i64 x.f0) ∧ w'.cell? ⟨(ad.add (m * 3)).block, (ad.add (m * 3)).off + 1, none⟩ = some (.slice D1 x.f1.length m1) ∧ w'.cell? ⟨(ad.add (m * 3)).block, (ad.add (m * 3)).off + 2, none⟩ = some (.slice D2 x.f2.length m2)) W from ⟨Bel.cell q c0, Bel.cell q c1, Bel.cell q c2, Bel.cell q d0, Bel.cell q d1, Bel.cell q d2⟩))
      have hneg := Aside0.mk (cmpI_neg x.f0 y.f0)
      have hcmp := Aside0.mk (fun (W : World) (q : Bel wr W) => cmpChart_any x y D1 D2 C1 C2 m1 m2 n1 n2 W)
      obtain ⟨n, hn⟩ : ∃ n : Int, cmpI x.f0 y.f0 = n := ⟨_, rfl⟩
      rw [hn] at hneg hcmp
      clear hn
      replace hm := Aside0.mk hm
      go_upto_region 4 with (fail)
      refine wp_region_held_drew (S := fun w' => Bel wr w' ∧ w'.cell? (ad.add (k * 3)) = some (.int .i64 y.f0) ∧ w'.cell? ⟨(ad.add (k * 3)).block, (ad.add (k * 3)).off + 1, none⟩ = some (.slice C1 y.f1.length n1) ∧ w'.cell? ⟨(ad.add (k * 3)).block, (ad.add (k * 3)).off + 2, none⟩ = some (.slice C2 y.f2.length n2) ∧ w'.cell? (ad.add (m * 3)) = some (.int .i64 x.f0) ∧ w'.cell? ⟨(ad.add (m * 3)).block, (ad.add (m * 3)).off + 1, none⟩ = some (.slice D1 x.f1.length m1) ∧ w'.cell? ⟨(ad.add (m * 3)).block, (ad.add (m * 3)).off + 2, none⟩ = some (.slice D2 x.f2.length m2)) (by kernel_rfl) (hz.out _ hBd) (fun hHeld => ?_)
      refine wpAnyH_take (i := 0) (v := ?_) rfl (by kernel_rfl) (by kernel_rfl) (by kernel_rfl) (fun _ _ _ h => h) (Or.inl ⟨by kernel_rfl, ?_⟩) hHeld ?_
      rotate_left 1
      focus (intro w hSw; (try dsimp only at hSw); go_simp; (try with_reducible rfl); done)
      try simp only [Act.put, List.getElem_toArray, List.getElem_cons_zero, List.getElem_cons_succ, List.setIfInBounds_toArray, List.set_cons_zero, List.set_cons_succ]
      refine wpAnyH_take (i := 1) (v := ?_) rfl (by kernel_rfl) (by kernel_rfl) (by kernel_rfl) (fun _ _ _ h => h) (Or.inl ⟨by kernel_rfl, ?_⟩) hHeld ?_
      rotate_left 1
      focus (intro w hSw; (try dsimp only at hSw); go_simp; (try with_reducible rfl); done)
      try simp only [Act.put, List.getElem_toArray, List.getElem_cons_zero, List.getElem_cons_succ, List.setIfInBounds_toArray, List.set_cons_zero, List.set_cons_succ]
      refine wpAnyH_take (i := 2) (v := ?_) rfl (by kernel_rfl) (by kernel_rfl) (by kernel_rfl) (fun _ _ _ h => h) (Or.inl ⟨by kernel_rfl, ?_⟩) hHeld ?_
      rotate_left 1
      focus (intro w hSw; (try dsimp only at hSw); go_simp; (try with_reducible rfl); done)
      try simp only [Act.put, List.getElem_toArray, List.getElem_cons_zero, List.getElem_cons_succ, List.setIfInBounds_toArray, List.set_cons_zero, List.set_cons_succ]
      refine wpAnyH_take (i := 3) (v := ?_) rfl (by kernel_rfl) (by kernel_rfl) (by kernel_rfl) (fun _ _ _ h => h) (Or.inl ⟨by kernel_rfl, ?_⟩) hHeld ?_
      rotate_left 1
      focus (intro w hSw; (try dsimp only at hSw); go_simp; (try with_reducible rfl); done)
      try simp only [Act.put, List.getElem_toArray, List.getElem_cons_zero, List.getElem_cons_succ, List.setIfInBounds_toArray, List.set_cons_zero, List.set_cons_succ]
      refine wpAnyH_take (i := 4) (v := ?_) rfl (by kernel_rfl) (by kernel_rfl) (by kernel_rfl) (fun _ _ _ h => h) (Or.inl ⟨by kernel_rfl, ?_⟩) hHeld ?_
      rotate_left 1
      focus (intro w hSw; (try dsimp only at hSw); go_simp; (try with_reducible rfl); done)
      try simp only [Act.put, List.getElem_toArray, List.getElem_cons_zero, List.getElem_cons_succ, List.setIfInBounds_toArray, List.set_cons_zero, List.set_cons_succ]
      refine wpAnyH_take (i := 5) (v := ?_) rfl (by kernel_rfl) (by kernel_rfl) (by kernel_rfl) (fun _ _ _ h => h) (Or.inl ⟨by kernel_rfl, ?_⟩) hHeld ?_
      rotate_left 1
      focus (intro w hSw; (try dsimp only at hSw); go_simp; (try with_reducible rfl); done)
      try simp only [Act.put, List.getElem_toArray, List.getElem_cons_zero, List.getElem_cons_succ, List.setIfInBounds_toArray, List.set_cons_zero, List.set_cons_succ]
      refine wpAnyH_take (i := 6) (v := ?_) rfl (by kernel_rfl) (by kernel_rfl) (by kernel_rfl) (fun _ _ _ h => h) (Or.inl ⟨by kernel_rfl, ?_⟩) hHeld ?_
      rotate_left 1
      focus (intro w hSw; (try dsimp only at hSw); go_simp; (try with_reducible rfl); done)
      try simp only [Act.put, List.getElem_toArray, List.getElem_cons_zero, List.getElem_cons_succ, List.setIfInBounds_toArray, List.set_cons_zero, List.set_cons_succ]
      refine wpAnyH_take (i := 7) (v := ?_) rfl (by kernel_rfl) (by kernel_rfl) (by kernel_rfl) (fun _ _ _ h => h) (Or.inl ⟨by kernel_rfl, ?_⟩) hHeld ?_
      rotate_left 1
      focus (intro w hSw; (try dsimp only at hSw); go_simp; (try with_reducible rfl); done)
      try simp only [Act.put, List.getElem_toArray, List.getElem_cons_zero, List.getElem_cons_succ, List.setIfInBounds_toArray, List.set_cons_zero, List.set_cons_succ]
      refine wpAnyH_take (i := 8) (v := ?_) rfl (by kernel_rfl) (by kernel_rfl) (by kernel_rfl) (fun _ _ _ h => h) (Or.inl ⟨by kernel_rfl, ?_⟩) hHeld ?_
      rotate_left 1
      focus (intro w hSw; (try dsimp only at hSw); go_simp; (try with_reducible rfl); done)
      try simp only [Act.put, List.getElem_toArray, List.getElem_cons_zero, List.getElem_cons_succ, List.setIfInBounds_toArray, List.set_cons_zero, List.set_cons_succ]
      refine wpAnyH_take (i := 9) (v := ?_) rfl (by kernel_rfl) (by kernel_rfl) (by kernel_rfl) (fun _ _ _ h => h) (Or.inl ⟨by kernel_rfl, ?_⟩) hHeld ?_
      rotate_left 1
      focus (intro w hSw; (try dsimp only at hSw); go_simp; (try with_reducible rfl); done)
      try simp only [Act.put, List.getElem_toArray, List.getElem_cons_zero, List.getElem_cons_succ, List.setIfInBounds_toArray, List.set_cons_zero, List.set_cons_succ]
      refine wpAnyH_ready (rs := [10]) (by kernel_rfl) (by simp) ?_
      refine AllReadyH.cons rfl (fun K hK => ?_) AllReadyH.nil
      go_simp
      (go_at_call 42; refine (hcmp.out _ hBd).mono ?_; rintro ex w5 ⟨rfl, hB5⟩)
      refine hK.out _ _ ?_ (fun hHeld => ?_)
      rotate_left 1
      clear hK K
      try simp only [Act.put, List.getElem_toArray, List.getElem_cons_zero, List.getElem_cons_succ, List.setIfInBounds_toArray, List.set_cons_zero, List.set_cons_succ]
      rotate_left 1
      · exact hz.out _ (hBd.trans hB5)
      refine wpAnyH_take (i := 11) (v := ?_) rfl (by kernel_rfl) (by kernel_rfl) (by kernel_rfl) (fun _ _ _ h => h) (Or.inl ⟨by kernel_rfl, ?_⟩) hHeld ?_
      rotate_left 1
      focus (intro w hSw; (try dsimp only at hSw); go_simp; (try with_reducible rfl); done)
      try simp only [Act.put, List.getElem_toArray, List.getElem_cons_zero, List.getElem_cons_succ, List.setIfInBounds_toArray, List.set_cons_zero, List.set_cons_succ]
      refine wpAnyH_done (by kernel_rfl) ?_ _
      by_cases h0 : n < 0
      · have b0 : decide (0 ≤ n) = false := decide_eq_false (by omega)
        have hnx2 := Aside0.mk (hnx.out (hneg.out.1 h0))
        clear hnx hnn
        go_wp2
        go_roundw
        case rel => exact ⟨k + 1, by omega, by omega, by go_num, hBr.trans (hBd.trans hB5), hnx2⟩
        case measure => simp [intOf]; omega
      · have hnn2 := Aside0.mk (hnn.out (fun q => h0 (hneg.out.2 q)))
        clear hnx hnn
        go_wp2
        go_ret
        exact SameP.mk0 hnn2.out (hBr.trans (hBd.trans hB5))
    · have hall : Aside0 (Rise (fun x y => x.f0 < y.f0) l) := ⟨fun j hj => hno.out j hj (by omega)⟩
      go_wp2
      go_ret
      exact SameP.mk1 hall.out hBr
end Go.Proofs.YtceibabhmomfiaaDoor.H
