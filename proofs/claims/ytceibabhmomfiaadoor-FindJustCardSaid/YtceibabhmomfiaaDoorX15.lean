/- Texts of this work, joined: Pa2, Pa3, Pe1. Conditions: each stands with its theorem. -/
import Derived.Test.YtceibabhmomfiaaDoorX14
import Derived.Test.YtceibabhmomfiaaDoorX13
/- Layer 3, walks: whether a list has one of a kind. -/
namespace Go.Proofs.YtceibabhmomfiaaDoor.H
open Go.RowKit Go.Proofs.YtceibabhmomfiaaDoorW.PrintWords Go.Proofs.YtceibabhmomfiaaDoorW.PrintLast
set_option linter.unusedVariables false
set_option linter.unusedSimpArgs false
set_option maxRecDepth 100000

/-- one of a list is such -/
def AnyOf {α : Type} (P : α → Prop) (l : List α) : Prop := ∃ x ∈ l, P x
def Astray (x : SLoc) : Prop := ¬ mayL x = true
set_option maxHeartbeats 2000000 in
theorem astrayIn (A : Option Addr) (c : Nat) (l : List SLoc) (w : World)   (HA : Rd kLoc w A l) (hl : l.length ≤ 1000000000) :
    Calls Tryd.prog 92 #[.slice A l.length c, .func (.func 75) #[] #[]] w fun e w' => ∃ r : Int, e = .returned (.int .i64 r) ∧ Bel w w' ∧ Aside0 (0 ≤ r ↔ AnyOf Astray l) := by
  go_enter Tryd.func92, Tryd.ntmps92
  go_wp2
  go_loopw [8] (fun i W => ∃ k : Nat, k ≤ l.length ∧ i = .int .i64 k ∧ Bel w W ∧ Aside0 (∀ j (hj : j < l.length), j < k → ¬ Astray l[j])) (fun i _ => l.length - (intOf i).toNat)
  case atStart => exact ⟨0, by omega, rfl, Bel.refl _, ⟨fun j _ h => absurd h (by omega)⟩⟩
  case round =>
    obtain ⟨k, hk, rfl, hBr, hno⟩ := hrel
    by_cases hlt : k < l.length
    · obtain ⟨ad, rfl, c0, c1⟩ := loc_at (HA.step hBr) k hlt
      have hin := Aside0.mk (fun (h : Astray (l[k]'hlt)) => (show AnyOf Astray l from ⟨_, List.getElem_mem hlt, h⟩))
      have hnx := Aside0.mk (fun (h : ¬ Astray (l[k]'hlt)) j (hj : j < l.length) (hjk : j < k + 1) => show ¬ Astray l[j] from by
        by_cases e : j = k
        · subst e; exact h
        · exact hno.out j hj (by omega))
      obtain ⟨x, hx⟩ : ∃ x, l[k]'hlt = x := ⟨_, rfl⟩
      rw [hx] at c0 c1 hin hnx
      clear hx
      have hcall := Aside0.mk (fun (W : World) (q : Bel wr W) => astray_any x W)
      by_cases hp : Astray x
      · have hc := Aside0.mk (fun (W : World) (q : Bel wr W) => (hcall.out W q).mono (fun e w' h => h.yes hp))
        have hin2 := Aside0.mk (hin.out hp)
        clear hcall hin hnx hp
        go_wp2_with (go_at_call 75; ((with_reducible refine (hc.out _ (Bel.refl _)).mono ?_); rintro e w1 ⟨rfl, hB1⟩))
        go_ret
        exact ⟨_, rfl, hBr.trans hB1, ⟨⟨fun _ => hin2.out, fun _ => by omega⟩⟩⟩
      · have hc := Aside0.mk (fun (W : World) (q : Bel wr W) => (hcall.out W q).mono (fun e w' h => h.no hp))
        have hnx2 := Aside0.mk (hnx.out hp)
        clear hcall hin hnx hp
        go_wp2_with (go_at_call 75; ((with_reducible refine (hc.out _ (Bel.refl _)).mono ?_); rintro e w1 ⟨rfl, hB1⟩))
        go_roundw
        case rel => exact ⟨k + 1, by omega, by go_num, hBr.trans hB1, hnx2⟩
        case measure => simp [intOf]; omega
    · have hni : Aside0 (¬ AnyOf Astray l) := ⟨fun ⟨x, hx, hp⟩ => by
        obtain ⟨j, hj, rfl⟩ := List.getElem_of_mem hx
        exact hno.out j hj (by omega) hp⟩
      go_wp2
      go_ret
      exact ⟨_, rfl, hBr, ⟨⟨fun h => absurd h (by decide), fun h => absurd h hni.out⟩⟩⟩
set_option maxHeartbeats 1000000 in
theorem astrayInC (A : Option Addr) (c : Nat) (l : List SLoc) (w : World)   (HA : Rd kLoc w A l) (hl : l.length ≤ 1000000000) :
    Calls Tryd.prog 78 #[.slice A l.length c, .func (.func 75) #[] #[]] w (SameP (AnyOf Astray l) w) := by
  have hcall := Aside0.mk (fun (W : World) (q : Bel w W) => astrayIn A c l W (HA.step q) hl)
  go_enter Tryd.func78, Tryd.ntmps78
  go_wp2_with (go_at_call 92; ((with_reducible refine (hcall.out _ (Bel.refl _)).mono ?_); rintro e w1 ⟨r, rfl, hB1, hr⟩))
  go_ret
  exact ⟨decide (0 ≤ r), rfl, ⟨by rw [decide_eq_true_iff]; exact hr.out⟩, hB1⟩
/-- a pair whose first is no place, or a reference, or whose second is none -/
def Loose (rs : List SLoc) (p : SPair) : Prop := ¬ (mayL p.f0 = true ∧ p.f0 ∉ rs ∧ p.f1 ∈ rs)
set_option maxHeartbeats 2000000 in
theorem loose_any (p : SPair) (j : Nat) (B : Option Addr) (cb : Nat) (rs : List SLoc) (w : World) (hj : w.cell? ⟨j, 1, none⟩ = some (.slice B rs.length cb)) (HB : Rd kLoc w B rs) (hrs : rs.length ≤ 1000000000) :
    Calls Tryd.prog 77 #[.agg #[.int .i64 p.f0.f0, .int .i64 p.f0.f1, .int .i64 p.f1.f0, .int .i64 p.f1.f1], .pointer (some ⟨j, 0, none⟩)] w (SameP (Loose rs p) w) := by
  have hB0 := ((Bel.refl w).alloc (.cells #[.int .i64 p.f0.f0, .int .i64 p.f0.f1, .int .i64 p.f1.f0, .int .i64 p.f1.f1] 73))
  have hb0 := heap_alloc_new w (.cells #[.int .i64 p.f0.f0, .int .i64 p.f0.f1, .int .i64 p.f1.f0, .int .i64 p.f1.f1] 73)
  go_enter Tryd.func77, Tryd.ntmps77
  go_upto_region 1 with (fail)
  generalize w.alloc (.cells #[.int .i64 p.f0.f0, .int .i64 p.f0.f1, .int .i64 p.f1.f0, .int .i64 p.f1.f1] 73) = wa at hB0 hb0 ⊢
  obtain ⟨b, hb⟩ : ∃ b, w.heap.size = b := ⟨_, rfl⟩
  rw [hb] at hb0 ⊢
  have hz := Aside0.mk (fun (W : World) (k : Bel wa W) => show W.cell? ⟨j, 1, none⟩ = some (.slice B rs.length cb) ∧ W.cell? ⟨b, 0, none⟩ = some (.int .i64 p.f0.f0) ∧ W.cell? ⟨b, 1, none⟩ = some (.int .i64 p.f0.f1) ∧ W.cell? ⟨b, 2, none⟩ = some (.int .i64 p.f1.f0) ∧ W.cell? ⟨b, 3, none⟩ = some (.int .i64 p.f1.f1) from ⟨Bel.cell (hB0.trans k) hj, Bel.cell k (blk_cell hb0 0), Bel.cell k (blk_cell hb0 1), Bel.cell k (blk_cell hb0 2), Bel.cell k (blk_cell hb0 3)⟩)
  replace hb := Aside0.mk hb
  replace hb0 := Aside0.mk hb0
  clear hj
  obtain ⟨z0, z1, z2, z3, z4⟩ := hz.out wa (Bel.refl _)
  have hm := Aside0.mk (fun (W : World) => mayC_any p.f0 W)
  have h1 := Aside0.mk (fun (W : World) (k : Bel wa W) => Contains_any B cb rs p.f0 W (HB.step (hB0.trans k)) hrs)
  have h2 := Aside0.mk (fun (W : World) (k : Bel wa W) => Contains_any B cb rs p.f1 W (HB.step (hB0.trans k)) hrs)
  cases e0 : mayL p.f0 with
  | false =>
    have hl : Aside0 (Loose rs p) := ⟨fun q => by rw [e0] at q; exact absurd q.1 (by decide)⟩
    rw [e0] at hm
    replace e0 := Aside0.mk e0
    go_wp2_with (go_at_call 76; ((with_reducible refine (hm.out _).mono ?_); rintro e w1 ⟨rfl, hB1⟩))
    go_ret
    exact SameP.mk1 hl.out (hB0.trans hB1)
  | true =>
    rw [e0] at hm
    by_cases e1 : p.f0 ∈ rs
    · have hl : Aside0 (Loose rs p) := ⟨fun q => q.2.1 e1⟩
      rw [decide_eq_true e1] at h1
      replace e0 := Aside0.mk e0
      replace e1 := Aside0.mk e1
      go_wp2_with (first | (go_at_call 76; ((with_reducible refine (hm.out _).mono ?_); rintro e w1 ⟨rfl, hB1⟩; obtain ⟨z0, z1, z2, z3, z4⟩ := hz.out w1 hB1)) | (go_at_call 62; ((with_reducible refine (h1.out _ hB1).mono ?_); rintro e w2 ⟨rfl, hB2⟩)))
      go_ret
      exact SameP.mk1 hl.out (hB0.trans (hB1.trans hB2))
    · rw [decide_eq_false e1] at h1
      obtain ⟨b2, hb2⟩ : ∃ b2, decide (p.f1 ∈ rs) = b2 := ⟨_, rfl⟩
      rw [hb2] at h2
      have hl : Aside0 ((!b2) = true ↔ Loose rs p) := ⟨by
        rw [← hb2]
        by_cases e2 : p.f1 ∈ rs
        · rw [decide_eq_true e2]; exact ⟨fun q => absurd q (by decide), fun q => absurd ⟨e0, e1, e2⟩ q⟩
        · rw [decide_eq_false e2]; exact ⟨fun _ q => e2 q.2.2, fun _ => rfl⟩⟩
      clear hb2
      replace e0 := Aside0.mk e0
      replace e1 := Aside0.mk e1
      go_wp2_with (first | (go_at_call 76; ((with_reducible refine (hm.out _).mono ?_); rintro e w1 ⟨rfl, hB1⟩; obtain ⟨z0, z1, z2, z3, z4⟩ := hz.out w1 hB1)) | (go_at_call 62; first | ((with_reducible refine (h1.out _ hB1).mono ?_); rintro e w2 ⟨rfl, hB2⟩; obtain ⟨z0, z1, z2, z3, z4⟩ := hz.out w2 (hB1.trans hB2)) | ((with_reducible refine (h2.out _ (hB1.trans hB2)).mono ?_); rintro e w3 ⟨rfl, hB3⟩)))
      go_ret
      exact ⟨!b2, rfl, hl, hB0.trans ((hB1.trans hB2).trans hB3)⟩
set_option maxHeartbeats 2000000 in
theorem looseIn (A : Option Addr) (c : Nat) (l : List SPair) (w : World) (j : Nat) (B : Option Addr) (cb : Nat) (rs : List SLoc) (hrs : rs.length ≤ 1000000000) (hj : w.cell? ⟨j, 1, none⟩ = some (.slice B rs.length cb)) (HB : Rd kLoc w B rs) (HA : Rd kPair w A l) (hl : l.length ≤ 1000000000) :
    Calls Tryd.prog 93 #[.slice A l.length c, .func (.func 77) #[] #[.pointer (some ⟨j, 0, none⟩)]] w fun e w' => ∃ r : Int, e = .returned (.int .i64 r) ∧ Bel w w' ∧ Aside0 (0 ≤ r ↔ AnyOf (Loose rs) l) := by
  go_enter Tryd.func93, Tryd.ntmps93
  go_wp2
  go_loopw [8] (fun i W => ∃ k : Nat, k ≤ l.length ∧ i = .int .i64 k ∧ Bel w W ∧ Aside0 (∀ j (hj : j < l.length), j < k → ¬ (Loose rs) l[j])) (fun i _ => l.length - (intOf i).toNat)
  case atStart => exact ⟨0, by omega, rfl, Bel.refl _, ⟨fun j _ h => absurd h (by omega)⟩⟩
  case round =>
    obtain ⟨k, hk, rfl, hBr, hno⟩ := hrel
    by_cases hlt : k < l.length
    · obtain ⟨ad, rfl, c0, c1, c2, c3⟩ := pair_at (HA.step hBr) k hlt
      have hin := Aside0.mk (fun (h : (Loose rs) (l[k]'hlt)) => (show AnyOf (Loose rs) l from ⟨_, List.getElem_mem hlt, h⟩))
      have hnx := Aside0.mk (fun (h : ¬ (Loose rs) (l[k]'hlt)) j (hj : j < l.length) (hjk : j < k + 1) => show ¬ (Loose rs) l[j] from by
        by_cases e : j = k
        · subst e; exact h
        · exact hno.out j hj (by omega))
      obtain ⟨x, hx⟩ : ∃ x, l[k]'hlt = x := ⟨_, rfl⟩
      rw [hx] at c0 c1 c2 c3 hin hnx
      clear hx
      have hcall := Aside0.mk (fun (W : World) (q : Bel wr W) => loose_any x j B cb rs W (Bel.cell (hBr.trans q) hj) (HB.step (hBr.trans q)) hrs)
      by_cases hp : (Loose rs) x
      · have hc := Aside0.mk (fun (W : World) (q : Bel wr W) => (hcall.out W q).mono (fun e w' h => h.yes hp))
        have hin2 := Aside0.mk (hin.out hp)
        clear hcall hin hnx hp
        go_wp2_with (go_at_call 77; ((with_reducible refine (hc.out _ (Bel.refl _)).mono ?_); rintro e w1 ⟨rfl, hB1⟩))
        go_ret
        exact ⟨_, rfl, hBr.trans hB1, ⟨⟨fun _ => hin2.out, fun _ => by omega⟩⟩⟩
      · have hc := Aside0.mk (fun (W : World) (q : Bel wr W) => (hcall.out W q).mono (fun e w' h => h.no hp))
        have hnx2 := Aside0.mk (hnx.out hp)
        clear hcall hin hnx hp
        go_wp2_with (go_at_call 77; ((with_reducible refine (hc.out _ (Bel.refl _)).mono ?_); rintro e w1 ⟨rfl, hB1⟩))
        go_roundw
        case rel => exact ⟨k + 1, by omega, by go_num, hBr.trans hB1, hnx2⟩
        case measure => simp [intOf]; omega
    · have hni : Aside0 (¬ AnyOf (Loose rs) l) := ⟨fun ⟨x, hx, hp⟩ => by
        obtain ⟨j, hj, rfl⟩ := List.getElem_of_mem hx
        exact hno.out j hj (by omega) hp⟩
      go_wp2
      go_ret
      exact ⟨_, rfl, hBr, ⟨⟨fun h => absurd h (by decide), fun h => absurd h hni.out⟩⟩⟩
set_option maxHeartbeats 1000000 in
theorem looseInC (A : Option Addr) (c : Nat) (l : List SPair) (w : World) (j : Nat) (B : Option Addr) (cb : Nat) (rs : List SLoc) (hrs : rs.length ≤ 1000000000) (hj : w.cell? ⟨j, 1, none⟩ = some (.slice B rs.length cb)) (HB : Rd kLoc w B rs) (HA : Rd kPair w A l) (hl : l.length ≤ 1000000000) :
    Calls Tryd.prog 79 #[.slice A l.length c, .func (.func 77) #[] #[.pointer (some ⟨j, 0, none⟩)]] w (SameP (AnyOf (Loose rs) l) w) := by
  have hcall := Aside0.mk (fun (W : World) (q : Bel w W) => looseIn A c l W j B cb rs hrs (Bel.cell q hj) (HB.step q) (HA.step q) hl)
  go_enter Tryd.func79, Tryd.ntmps79
  go_wp2_with (go_at_call 93; ((with_reducible refine (hcall.out _ (Bel.refl _)).mono ?_); rintro e w1 ⟨r, rfl, hB1, hr⟩))
  go_ret
  exact ⟨decide (0 ≤ r), rfl, ⟨by rw [decide_eq_true_iff]; exact hr.out⟩, hB1⟩
end Go.Proofs.YtceibabhmomfiaaDoor.H

/- Layer 3, walks: charts that are right. -/
namespace Go.Proofs.YtceibabhmomfiaaDoor.H
open Go.RowKit Go.Proofs.YtceibabhmomfiaaDoorW.PrintWords Go.Proofs.YtceibabhmomfiaaDoorW.PrintLast
set_option linter.unusedVariables false
set_option linter.unusedSimpArgs false
set_option maxRecDepth 100000

set_option maxHeartbeats 4000000 in
theorem right_any (x : SChart) (A1 A2 : Option Addr) (c1 c2 : Nat) (w : World) (HA1 : Rd kLoc w A1 x.f1) (HA2 : Rd kPair w A2 x.f2) (l1 : x.f1.length ≤ 1000000000) (l2 : x.f2.length ≤ 1000000000) :
    Calls Tryd.prog 46 #[chartV x A1 c1 A2 c2] w (SameP (ChartP x) w) := by
  obtain ⟨x0, xr, xd⟩ := x
  simp only [chartV] at HA1 HA2 l1 l2 ⊢
  have hB0 := ((Bel.refl w).alloc (.cells #[.int .i64 x0, .slice A1 xr.length c1, .slice A2 xd.length c2] 36))
  have hb0 := heap_alloc_new w (.cells #[.int .i64 x0, .slice A1 xr.length c1, .slice A2 xd.length c2] 36)
  go_enter Tryd.func46, Tryd.ntmps46
  go_upto_region 1 with (fail)
  generalize w.alloc (.cells #[.int .i64 x0, .slice A1 xr.length c1, .slice A2 xd.length c2] 36) = wa at hB0 hb0 ⊢
  obtain ⟨j, hj⟩ : ∃ b, w.heap.size = b := ⟨_, rfl⟩
  rw [hj] at hb0 ⊢
  have hz := Aside0.mk (fun (W : World) (k : Bel wa W) => show W.cell? ⟨j, 0, none⟩ = some (.int .i64 x0) ∧ W.cell? ⟨j, 1, none⟩ = some (.slice A1 xr.length c1) ∧ W.cell? ⟨j, 2, none⟩ = some (.slice A2 xd.length c2) from ⟨Bel.cell k (blk_cell hb0 0), Bel.cell k (blk_cell hb0 1), Bel.cell k (blk_cell hb0 2)⟩)
  replace hj := Aside0.mk hj
  replace hb0 := Aside0.mk hb0
  obtain ⟨z0, z1, z2⟩ := hz.out wa (Bel.refl _)
  have hBq := Bel.refl wa
  have h1 := Aside0.mk (fun (W : World) (k : Bel wa W) => risingLoc_any A1 c1 xr W (HA1.step (hB0.trans k)) l1)
  have h2 := Aside0.mk (fun (W : World) (k : Bel wa W) => risingPair_any A2 c2 xd W (HA2.step (hB0.trans k)) l2)
  have h3 := Aside0.mk (fun (W : World) (k : Bel wa W) => astrayInC A1 c1 xr W (HA1.step (hB0.trans k)) l1)
  have h4 := Aside0.mk (fun (W : World) (k : Bel wa W) => looseInC A2 c2 xd W j A1 c1 xr l1 (hz.out W k).2.1 (HA1.step (hB0.trans k)) (HA2.step (hB0.trans k)) l2)
  by_cases e0 : x0 < 1
  · have hno : Aside0 (¬ ChartP ⟨x0, xr, xd⟩) := ⟨fun h => by have h8 : 1 ≤ x0 := h.addr; omega⟩
    go_wp2
    go_ret
    exact SameP.mk0 hno.out hB0
  have b0 : decide (x0 < 1) = false := decide_eq_false e0
  by_cases e1 : Rise (fun x y => befL x y = true) xr
  case neg =>
    have hno : Aside0 (¬ ChartP ⟨x0, xr, xd⟩) := ⟨fun h => e1 h.refs.rise⟩
    replace h1 := Aside0.mk (fun (W : World) (k : Bel wa W) => (h1.out W k).mono (fun e w' h => h.no e1))
    clear e1
    go_wp2_with (first | (go_at_call 71; ((with_reducible refine (h1.out _ hBq).mono ?_); rintro e w1 ⟨rfl, hB1⟩; have hB1 := hBq.trans hB1; obtain ⟨z0, z1, z2⟩ := hz.out w1 hB1)) | (go_at_call 73; ((with_reducible refine (h2.out _ hB1).mono ?_); rintro e w2 ⟨rfl, hB2⟩; have hB2 := hB1.trans hB2; obtain ⟨z0, z1, z2⟩ := hz.out w2 hB2)) | (go_at_call 78; ((with_reducible refine (h3.out _ hB2).mono ?_); rintro e w3 ⟨rfl, hB3⟩; have hB3 := hB2.trans hB3; obtain ⟨z0, z1, z2⟩ := hz.out w3 hB3)) | (go_at_call 79; ((with_reducible refine (h4.out _ hB3).mono ?_); rintro e w4 ⟨rfl, hB4⟩; have hB4 := hB3.trans hB4)))
    go_ret
    exact SameP.mk0 hno.out (hB0.trans hB1)
  replace h1 := Aside0.mk (fun (W : World) (k : Bel wa W) => (h1.out W k).mono (fun e w' h => h.yes e1))
  replace e1 := Aside0.mk e1
  by_cases e2 : Rise (fun x y => befL x.f0 y.f0 = true) xd
  case neg =>
    have hno : Aside0 (¬ ChartP ⟨x0, xr, xd⟩) := ⟨fun h => e2 h.ders.rise⟩
    replace h2 := Aside0.mk (fun (W : World) (k : Bel wa W) => (h2.out W k).mono (fun e w' h => h.no e2))
    clear e2
    go_wp2_with (first | (go_at_call 71; ((with_reducible refine (h1.out _ hBq).mono ?_); rintro e w1 ⟨rfl, hB1⟩; have hB1 := hBq.trans hB1; obtain ⟨z0, z1, z2⟩ := hz.out w1 hB1)) | (go_at_call 73; ((with_reducible refine (h2.out _ hB1).mono ?_); rintro e w2 ⟨rfl, hB2⟩; have hB2 := hB1.trans hB2; obtain ⟨z0, z1, z2⟩ := hz.out w2 hB2)) | (go_at_call 78; ((with_reducible refine (h3.out _ hB2).mono ?_); rintro e w3 ⟨rfl, hB3⟩; have hB3 := hB2.trans hB3; obtain ⟨z0, z1, z2⟩ := hz.out w3 hB3)) | (go_at_call 79; ((with_reducible refine (h4.out _ hB3).mono ?_); rintro e w4 ⟨rfl, hB4⟩; have hB4 := hB3.trans hB4)))
    go_ret
    exact SameP.mk0 hno.out (hB0.trans hB2)
  replace h2 := Aside0.mk (fun (W : World) (k : Bel wa W) => (h2.out W k).mono (fun e w' h => h.yes e2))
  replace e2 := Aside0.mk e2
  by_cases e3 : AnyOf Astray xr
  · have hno : Aside0 (¬ ChartP ⟨x0, xr, xd⟩) := ⟨fun h => by obtain ⟨y, hy, hn⟩ := e3; exact hn (h.refs.may y hy)⟩
    replace h3 := Aside0.mk (fun (W : World) (k : Bel wa W) => (h3.out W k).mono (fun e w' h => h.yes e3))
    clear e3
    go_wp2_with (first | (go_at_call 71; ((with_reducible refine (h1.out _ hBq).mono ?_); rintro e w1 ⟨rfl, hB1⟩; have hB1 := hBq.trans hB1; obtain ⟨z0, z1, z2⟩ := hz.out w1 hB1)) | (go_at_call 73; ((with_reducible refine (h2.out _ hB1).mono ?_); rintro e w2 ⟨rfl, hB2⟩; have hB2 := hB1.trans hB2; obtain ⟨z0, z1, z2⟩ := hz.out w2 hB2)) | (go_at_call 78; ((with_reducible refine (h3.out _ hB2).mono ?_); rintro e w3 ⟨rfl, hB3⟩; have hB3 := hB2.trans hB3; obtain ⟨z0, z1, z2⟩ := hz.out w3 hB3)) | (go_at_call 79; ((with_reducible refine (h4.out _ hB3).mono ?_); rintro e w4 ⟨rfl, hB4⟩; have hB4 := hB3.trans hB4)))
    go_ret
    exact SameP.mk0 hno.out (hB0.trans hB3)
  replace h3 := Aside0.mk (fun (W : World) (k : Bel wa W) => (h3.out W k).mono (fun e w' h => h.no e3))
  replace e3 := Aside0.mk e3
  by_cases e4 : AnyOf (Loose xr) xd
  · have hno : Aside0 (¬ ChartP ⟨x0, xr, xd⟩) := ⟨fun h => by obtain ⟨y, hy, hn⟩ := e4; exact hn (h.ders.may y hy)⟩
    replace h4 := Aside0.mk (fun (W : World) (k : Bel wa W) => (h4.out W k).mono (fun e w' h => h.yes e4))
    clear e4
    go_wp2_with (first | (go_at_call 71; ((with_reducible refine (h1.out _ hBq).mono ?_); rintro e w1 ⟨rfl, hB1⟩; have hB1 := hBq.trans hB1; obtain ⟨z0, z1, z2⟩ := hz.out w1 hB1)) | (go_at_call 73; ((with_reducible refine (h2.out _ hB1).mono ?_); rintro e w2 ⟨rfl, hB2⟩; have hB2 := hB1.trans hB2; obtain ⟨z0, z1, z2⟩ := hz.out w2 hB2)) | (go_at_call 78; ((with_reducible refine (h3.out _ hB2).mono ?_); rintro e w3 ⟨rfl, hB3⟩; have hB3 := hB2.trans hB3; obtain ⟨z0, z1, z2⟩ := hz.out w3 hB3)) | (go_at_call 79; ((with_reducible refine (h4.out _ hB3).mono ?_); rintro e w4 ⟨rfl, hB4⟩; have hB4 := hB3.trans hB4)))
    go_ret
    exact SameP.mk0 hno.out (hB0.trans hB4)
  · have hyes : Aside0 (ChartP ⟨x0, xr, xd⟩) := ⟨⟨by show 1 ≤ x0; omega, ⟨e1.out, fun y hy => Classical.byContradiction fun q => e3.out ⟨y, hy, q⟩⟩, ⟨e2.out, fun y hy => Classical.byContradiction fun q => e4 ⟨y, hy, q⟩⟩⟩⟩
    replace h4 := Aside0.mk (fun (W : World) (k : Bel wa W) => (h4.out W k).mono (fun e w' h => h.no e4))
    clear e4
    go_wp2_with (first | (go_at_call 71; ((with_reducible refine (h1.out _ hBq).mono ?_); rintro e w1 ⟨rfl, hB1⟩; have hB1 := hBq.trans hB1; obtain ⟨z0, z1, z2⟩ := hz.out w1 hB1)) | (go_at_call 73; ((with_reducible refine (h2.out _ hB1).mono ?_); rintro e w2 ⟨rfl, hB2⟩; have hB2 := hB1.trans hB2; obtain ⟨z0, z1, z2⟩ := hz.out w2 hB2)) | (go_at_call 78; ((with_reducible refine (h3.out _ hB2).mono ?_); rintro e w3 ⟨rfl, hB3⟩; have hB3 := hB2.trans hB3; obtain ⟨z0, z1, z2⟩ := hz.out w3 hB3)) | (go_at_call 79; ((with_reducible refine (h4.out _ hB3).mono ?_); rintro e w4 ⟨rfl, hB4⟩; have hB4 := hB3.trans hB4)))
    go_ret
    exact SameP.mk1 hyes.out (hB0.trans hB4)
def Wrong (x : SChart) : Prop := ¬ ChartP x
set_option maxHeartbeats 1000000 in
theorem wrong_any (x : SChart) (A1 A2 : Option Addr) (c1 c2 : Nat) (w : World) (HA1 : Rd kLoc w A1 x.f1) (HA2 : Rd kPair w A2 x.f2) (l1 : x.f1.length ≤ 1000000000) (l2 : x.f2.length ≤ 1000000000) :
    Calls Tryd.prog 45 #[chartV x A1 c1 A2 c2] w (SameP (Wrong x) w) := by
  have hB0 := ((Bel.refl w).alloc (.cells #[.int .i64 x.f0, .slice A1 x.f1.length c1, .slice A2 x.f2.length c2] 36))
  have hc := Aside0.mk (fun (W : World) (q : Bel w W) => right_any x A1 A2 c1 c2 W (HA1.step q) (HA2.step q) l1 l2)
  simp only [chartV] at hc ⊢
  go_enter Tryd.func45, Tryd.ntmps45
  go_wp2_with (go_at_call 46; ((with_reducible refine (hc.out _ hB0).mono ?_); rintro e w' ⟨b, rfl, hb, hB1⟩))
  go_ret
  refine ⟨!b, rfl, ⟨?_⟩, hB0.trans hB1⟩
  unfold Wrong
  rw [← hb.out]
  cases b <;> simp
set_option maxHeartbeats 2000000 in
theorem wrongIn (A : Option Addr) (c : Nat) (l : List SChart) (w : World)  (hs : Aside0 (FewC l)) (HA : Rd kChart w A l) (hl : l.length ≤ 1000000000) :
    Calls Tryd.prog 70 #[.slice A l.length c, .func (.func 45) #[] #[]] w fun e w' => ∃ r : Int, e = .returned (.int .i64 r) ∧ Bel w w' ∧ Aside0 (0 ≤ r ↔ AnyOf Wrong l) := by
  go_enter Tryd.func70, Tryd.ntmps70
  go_wp2
  go_loopw [8] (fun i W => ∃ k : Nat, k ≤ l.length ∧ i = .int .i64 k ∧ Bel w W ∧ Aside0 (∀ j (hj : j < l.length), j < k → ¬ Wrong l[j])) (fun i _ => l.length - (intOf i).toNat)
  case atStart => exact ⟨0, by omega, rfl, Bel.refl _, ⟨fun j _ h => absurd h (by omega)⟩⟩
  case round =>
    obtain ⟨k, hk, rfl, hBr, hno⟩ := hrel
    by_cases hlt : k < l.length
    · (obtain ⟨ad, C1, n1, C2, n2, rfl, c0, c1, c2, c3, c4⟩ := chart_at (HA.step hBr) k hlt; obtain ⟨f1, f2⟩ := hs.out.2 _ (List.getElem_mem hlt))
      have hin := Aside0.mk (fun (h : Wrong (l[k]'hlt)) => (show AnyOf Wrong l from ⟨_, List.getElem_mem hlt, h⟩))
      have hnx := Aside0.mk (fun (h : ¬ Wrong (l[k]'hlt)) j (hj : j < l.length) (hjk : j < k + 1) => show ¬ Wrong l[j] from by
        by_cases e : j = k
        · subst e; exact h
        · exact hno.out j hj (by omega))
      obtain ⟨x, hx⟩ : ∃ x, l[k]'hlt = x := ⟨_, rfl⟩
      rw [hx] at c0 c1 c2 c3 c4 f1 f2 hin hnx
      clear hx
      have hcall := Aside0.mk (fun (W : World) (q : Bel wr W) => wrong_any x C1 C2 n1 n2 W (c3.step q) (c4.step q) f1 f2)
      by_cases hp : Wrong x
      · have hc := Aside0.mk (fun (W : World) (q : Bel wr W) => (hcall.out W q).mono (fun e w' h => h.yes hp))
        have hin2 := Aside0.mk (hin.out hp)
        clear hcall hin hnx hp
        go_wp2_with (go_at_call 45; ((with_reducible refine (hc.out _ (Bel.refl _)).mono ?_); rintro e w1 ⟨rfl, hB1⟩))
        go_ret
        exact ⟨_, rfl, hBr.trans hB1, ⟨⟨fun _ => hin2.out, fun _ => by omega⟩⟩⟩
      · have hc := Aside0.mk (fun (W : World) (q : Bel wr W) => (hcall.out W q).mono (fun e w' h => h.no hp))
        have hnx2 := Aside0.mk (hnx.out hp)
        clear hcall hin hnx hp
        go_wp2_with (go_at_call 45; ((with_reducible refine (hc.out _ (Bel.refl _)).mono ?_); rintro e w1 ⟨rfl, hB1⟩))
        go_roundw
        case rel => exact ⟨k + 1, by omega, by go_num, hBr.trans hB1, hnx2⟩
        case measure => simp [intOf]; omega
    · have hni : Aside0 (¬ AnyOf Wrong l) := ⟨fun ⟨x, hx, hp⟩ => by
        obtain ⟨j, hj, rfl⟩ := List.getElem_of_mem hx
        exact hno.out j hj (by omega) hp⟩
      go_wp2
      go_ret
      exact ⟨_, rfl, hBr, ⟨⟨fun h => absurd h (by decide), fun h => absurd h hni.out⟩⟩⟩
set_option maxHeartbeats 1000000 in
theorem wrongInC (A : Option Addr) (c : Nat) (l : List SChart) (w : World)  (hs : Aside0 (FewC l)) (HA : Rd kChart w A l) (hl : l.length ≤ 1000000000) :
    Calls Tryd.prog 44 #[.slice A l.length c, .func (.func 45) #[] #[]] w (SameP (AnyOf Wrong l) w) := by
  have hcall := Aside0.mk (fun (W : World) (q : Bel w W) => wrongIn A c l W hs (HA.step q) hl)
  go_enter Tryd.func44, Tryd.ntmps44
  go_wp2_with (go_at_call 70; ((with_reducible refine (hcall.out _ (Bel.refl _)).mono ?_); rintro e w1 ⟨r, rfl, hB1, hr⟩))
  go_ret
  exact ⟨decide (0 ≤ r), rfl, ⟨by rw [decide_eq_true_iff]; exact hr.out⟩, hB1⟩
set_option maxHeartbeats 2000000 in
theorem Right_any (A : Option Addr) (c : Nat) (l : List SChart) (w : World) (HA : Rd kChart w A l) (hs : Aside0 (FewC l)) :
    Calls Tryd.prog 19 #[.slice A l.length c] w (SameP (RightP l) w) := by
  have hl := hs.out.1
  have h1 := Aside0.mk (fun (W : World) (k : Bel w W) => risingChart_any A c l W (HA.step k) hl)
  have h2 := Aside0.mk (fun (W : World) (k : Bel w W) => wrongInC A c l W hs (HA.step k) hl)
  by_cases e0 : l.length ≤ 2000
  case neg =>
    have hno : Aside0 (¬ RightP l) := ⟨fun h => e0 h.few⟩
    go_enter Tryd.func19, Tryd.ntmps19
    go_wp2
    go_ret
    exact SameP.mk0 hno.out (Bel.refl _)
  by_cases e1 : Rise (fun x y => x.f0 < y.f0) l
  case neg =>
    have hno : Aside0 (¬ RightP l) := ⟨fun h => e1 h.rise⟩
    replace h1 := Aside0.mk (fun (W : World) (k : Bel w W) => (h1.out W k).mono (fun e w' h => h.no e1))
    clear e1
    go_enter Tryd.func19, Tryd.ntmps19
    go_wp2_with (go_at_call 41; ((with_reducible refine (h1.out _ (Bel.refl _)).mono ?_); rintro e w1 ⟨rfl, hB1⟩))
    go_ret
    exact SameP.mk0 hno.out hB1
  replace h1 := Aside0.mk (fun (W : World) (k : Bel w W) => (h1.out W k).mono (fun e w' h => h.yes e1))
  replace e1 := Aside0.mk e1
  have hiff : Aside0 (RightP l ↔ ¬ AnyOf Wrong l) := ⟨⟨fun h ⟨c, hc, hn⟩ => hn (h.all c hc), fun h => ⟨e0, e1.out, fun c hc => Classical.byContradiction fun q => h ⟨c, hc, q⟩⟩⟩⟩
  go_enter Tryd.func19, Tryd.ntmps19
  go_wp2_with (first | (go_at_call 41; ((with_reducible refine (h1.out _ (Bel.refl _)).mono ?_); rintro e w1 ⟨rfl, hB1⟩)) | (go_at_call 44; ((with_reducible refine (h2.out _ hB1).mono ?_); rintro e w2 ⟨b, rfl, hb, hB2⟩)))
  go_ret
  refine ⟨!b, rfl, ⟨?_⟩, hB1.trans hB2⟩
  rw [hiff.out, ← hb.out]
  cases b <;> simp
end Go.Proofs.YtceibabhmomfiaaDoor.H

/- Plain: what the encoder lays; an append of bytes. -/
namespace Go.Proofs.YtceibabhmomfiaaDoor.H
open Go.RowKit Go.Proofs.YtceibabhmomfiaaDoorW.PrintWords Go.Proofs.YtceibabhmomfiaaDoorW.PrintLast
set_option linter.unusedVariables false
set_option linter.unusedSimpArgs false

section
variable {ops : Array Oper} {rest : List Oper} {o : Oper} {a : Act} {Q : Exit → Act → World → Prop}
/-- append(v, ys...), bytes, one's own row made from base on. -/
theorem app_bytes_ {base : Nat} {W : World} {v : Value} {xs ys : List Int} {A : Option Addr} {c : Nat} (HO : OwnAt (Kd.int .u8) 5 base W v xs) (hbase : base ≤ W.heap.size) (HR : RdB W A ys) (hgd : o.guard = none) (s x : Operand)
    (ho : o.op = .call { callee := .builtin .append, args := #[s, x], argTypes := #[22, 22] })
    (hl : xs.length + ys.length ≤ 140737488355328) (hs : a.eval s = v) (hx : a.eval x = .slice A ys.length c)
    (h : ∀ v1 w1, OwnAt (Kd.int .u8) 5 base w1 v1 (xs ++ ys) → KT [5] base W w1 → wpList Tryd.prog ops Q rest (a.put o.dst v1) w1) :
    wpList Tryd.prog ops Q (o :: rest) a W := by
  refine Kd.R_append_rows (Kd.int .u8) (Rr := (Kd.int .u8).K W) (w0 := W) base hgd s x 22 5 (.int .u8 0) 1 ho Tryd.underlying22 info_u8 rfl (by decide) (by omega) v xs ys A ys.length c (fun _ => True) (fun _ => False) hs hx HO.out HR.out (fun _ _ hk => hk) (fun _ hk => hk.elim) (fun _ _ => trivial) (Below.refl _ _) hbase (by omega) ?_
  intro v1 w1 ho hb hg hat
  obtain ⟨inner, hrow⟩ := Kd.R_own HO.out
  exact h v1 w1 ⟨ho⟩ (KT.grown hrow hg (by simp) (Nat.le_refl _) hbase)
end
/-- each number's distance from the one before -/
def diffs : Int → List Int → List Int
  | _, [] => []
  | a, k :: ks => (k - a) :: diffs k ks
theorem diffs_snoc (ks : List Int) (k : Int) : ∀ a, diffs a (ks ++ [k]) = diffs a ks ++ [k - (ks.getLast?.getD a)] := by
  induction ks with
  | nil => intro a; rfl
  | cons x xs ih =>
    intro a
    simp only [List.cons_append, diffs, ih]
    congr 3
    cases xs with
    | nil => rfl
    | cons y ys => simp [List.getLast?_cons]
theorem diffs_steps (ks : List Int) : stepsL ks = listL (diffs (-1) ks) := by
  induction ks using snocRec with
  | h0 => rfl
  | h1 ks k ih =>
    unfold stepsL at ih ⊢
    rw [growS_snoc, ih, diffs_snoc, listL_snoc]
    rfl
theorem diffs_len (ks : List Int) : ∀ a, (diffs a ks).length = ks.length := by
  induction ks with
  | nil => intro a; rfl
  | cons x xs ih => intro a; simp [diffs, ih]
theorem take_snocL {α : Type} (l : List α) (k : Nat) (h : k < l.length) : l.take (k + 1) = l.take k ++ [l[k]] := List.take_succ_eq_append_getElem h
theorem maskOf_one (x : SLoc) : maskOf [x] = if x.f0 = 1 then 2 ^ x.f1.toNat else 0 := by simp [maskOf]
theorem slotsOf_one (x : SLoc) : slotsOf [x] = if x.f0 = 1 then [] else [x.f1] := by simp [slotsOf]
/-- a register is above all the bits so far -/
theorem mask_below {rs : List SLoc} (h : RefsP rs) (j : Nat) (hj : j < rs.length) (h1 : (rs[j]).f0 = 1) : 0 ≤ maskOf (rs.take j) ∧ maskOf (rs.take j) < 2 ^ (rs[j]).f1.toNat ∧ 0 ≤ (rs[j]).f1 ∧ (rs[j]).f1 < 32 := by
  obtain ⟨ns, ks, rfl, hr, h2, h3, h4⟩ := h.split
  have hjn : j < ns.length := by
    refine Classical.byContradiction fun hn => ?_
    rw [List.getElem_append_right (by simp; omega)] at h1
    simp at h1
  have e1 : ((ns.map fun (i : Nat) => (⟨1, (i : Int)⟩ : SLoc)) ++ ks.map (fun k => (⟨2, k⟩ : SLoc))).take j = (ns.take j).map fun (i : Nat) => (⟨1, (i : Int)⟩ : SLoc) := by
    rw [List.take_append_of_le_length (by simp; omega), List.map_take]
  have e2 : ((ns.map fun (i : Nat) => (⟨1, (i : Int)⟩ : SLoc)) ++ ks.map (fun k => (⟨2, k⟩ : SLoc)))[j] = ⟨1, (ns[j] : Int)⟩ := by
    rw [List.getElem_append_left (by simpa using hjn)]; simp
  rw [e1, e2, (mask_regs _).1]
  have hrt : Rise (· < ·) (ns.take j) := fun i hi => by
    rw [List.length_take] at hi
    simp only [List.getElem_take]
    exact hr i (by omega)
  have hlt : ∀ n ∈ ns.take j, n < ns[j] := by
    intro n hn
    obtain ⟨i, hi, rfl⟩ := List.getElem_of_mem hn
    rw [List.length_take] at hi
    simp only [List.getElem_take]
    have hl : ∀ a b (hab : a < b) (hb : b < ns.length), ns[a]'(by omega) < ns[b] := by
      intro a b
      induction b with
      | zero => intro hab; omega
      | succ b ih =>
        intro hab hb
        have h3 := hr b hb
        by_cases e : a = b
        · subst e; exact h3
        · exact Nat.lt_trans (ih (by omega) (by omega)) h3
    exact hl i j (by omega) hjn
  obtain ⟨h5, _⟩ := regs_bits (ns.take j) ns[j] hrt hlt
  have h6 := h2 _ (List.getElem_mem hjn)
  obtain ⟨S, hS⟩ : ∃ S, ((ns.take j).map fun i => 2 ^ i).sum = S := ⟨_, rfl⟩
  rw [hS] at h5 ⊢
  refine ⟨by omega, ?_, by simp only; omega, by simp only; omega⟩
  simp only [Int.toNat_natCast]
  rw [show ((2 : Int) ^ ns[j]) = ((2 ^ ns[j] : Nat) : Int) by push_cast; rfl]
  exact Int.ofNat_lt.2 h5
theorem or_u32 (a n : Nat) (h : a < 2 ^ n) (hn : n < 32) : bits .or .u32 (a : Int) ((2 ^ n : Nat) : Int) = ((a + 2 ^ n : Nat) : Int) := by
  have hp : 2 ^ n ≤ 2 ^ 31 := Nat.pow_le_pow_right (by decide) (by omega)
  show IntKind.u32.wrap ((BitVec.ofInt 32 a ||| BitVec.ofInt 32 ((2 ^ n : Nat) : Int)).toNat : Int) = _
  rw [BitVec.toNat_or, BitVec.toNat_ofInt, BitVec.toNat_ofInt, IntKind.wrap_u32]
  have e1 : ((a : Int) % ((2 ^ 32 : Nat) : Int)).toNat = a := by omega
  have e2 : (((2 ^ n : Nat) : Int) % ((2 ^ 32 : Nat) : Int)).toNat = 2 ^ n := by omega
  rw [e1, e2, Nat.or_comm]
  have := Nat.two_pow_add_eq_or_of_lt h 1
  rw [Nat.mul_one] at this
  rw [← this]
  omega
theorem few_of {l : List SChart} (h : RightP l) : FewC l := ⟨by have := h.few; omega, fun c hc => ⟨by have := (h.all c hc).refs.few; omega, by have := (h.all c hc).ders.few; omega⟩⟩
theorem slots_take {rs : List SLoc} (h : RefsP rs) (j : Nat) : ∀ k ∈ slotsOf (rs.take j), 0 ≤ k ∧ k < 160 := by
  intro k hk
  have e : slotsOf rs = slotsOf (rs.take j) ++ slotsOf (rs.drop j) := by rw [← slotsOf_app, List.take_append_drop]
  exact (slots_ok h).2 k (by rw [e]; exact List.mem_append_left _ hk)
theorem diffs_ok (ks : List Int) : ∀ a, -1 ≤ a → a ≤ 200 → (∀ k ∈ ks, 0 ≤ k ∧ k < 160) → ∀ x ∈ diffs a ks, -1000 ≤ x ∧ x ≤ 1000 := by
  induction ks with
  | nil => intro a _ _ _ x hx; cases hx
  | cons k ks ih =>
    intro a h0 h1 hk x hx
    have h2 := hk k (by simp)
    rcases List.mem_cons.1 hx with rfl | hx
    · omega
    · exact ih k (by omega) (by omega) (fun y hy => hk y (List.mem_cons_of_mem _ hy)) x hx
theorem take_len {l : List SChart} (h : RightP l) (k : Nat) : (putL (l.length : Int) ++ chartsS (l.take k)).length ≤ 13000000 := by
  have h1 := putL_len l.length
  have h2 := growS_len (s := fun xs c => chartS (lastA xs) c) (K := 6000) (l := l.take k) [] (fun xs c hc => chartS_len (h.all c (List.mem_of_mem_take hc)) _)
  have h3 := h.few
  rw [List.length_take] at h2
  unfold chartsS
  simp only [List.length_append]
  omega
end Go.Proofs.YtceibabhmomfiaaDoor.H
