/- Layer 3, walks: whether a list has one of a kind. -/
import Derived.Test.YtceibabhmomfiaaDoorPa1
namespace Go.Proofs.YtceibabhmomfiaaDoor.H
open Go.RowKit Go.Proofs.YtceibabhmomfiaaDoorW.PrintWords Go.Proofs.YtceibabhmomfiaaDoorW.PrintLast
set_option linter.unusedVariables false
set_option linter.unusedSimpArgs false
set_option maxRecDepth 100000

/-- one of a list is such -/
def AnyOf {α : Type} (P : α → Prop) (l : List α) : Prop := ∃ x ∈ l, P x
def Astray (x : SLoc) : Prop := ¬ mayL x = true
set_option maxHeartbeats 2000000 in
theorem astrayIn (A : Option Addr) (c : Nat) (l : List SLoc) (w : World)   (HA : Rd kLoc w A l) (hl : l.length ≤ 1000000000) :
    Calls Tryd.prog 92 #[.slice A l.length c, .func (.func 75) #[] #[]] w fun e w' => ∃ r : Int, e = .returned (.int .i64 r) ∧ Bel w w' ∧ Aside0 (0 ≤ r ↔ AnyOf Astray l) := by
  go_enter Tryd.func92, Tryd.ntmps92
  go_wp2
  go_loopw [8] (fun i W => ∃ k : Nat, k ≤ l.length ∧ i = .int .i64 k ∧ Bel w W ∧ Aside0 (∀ j (hj : j < l.length), j < k → ¬ Astray l[j])) (fun i _ => l.length - (intOf i).toNat)
  case atStart => exact ⟨0, by omega, rfl, Bel.refl _, ⟨fun j _ h => absurd h (by omega)⟩⟩
  case round =>
    obtain ⟨k, hk, rfl, hBr, hno⟩ := hrel
    by_cases hlt : k < l.length
    · obtain ⟨ad, rfl, c0, c1⟩ := loc_at (HA.step hBr) k hlt
      have hin := Aside0.mk (fun (h : Astray (l[k]'hlt)) => (show AnyOf Astray l from ⟨_, List.getElem_mem hlt, h⟩))
      have hnx := Aside0.mk (fun (h : ¬ Astray (l[k]'hlt)) j (hj : j < l.length) (hjk : j < k + 1) => show ¬ Astray l[j] from by
        by_cases e : j = k
        · subst e; exact h
        · exact hno.out j hj (by omega))
      obtain ⟨x, hx⟩ : ∃ x, l[k]'hlt = x := ⟨_, rfl⟩
      rw [hx] at c0 c1 hin hnx
      clear hx
      have hcall := Aside0.mk (fun (W : World) (q : Bel wr W) => astray_any x W)
      by_cases hp : Astray x
      · have hc := Aside0.mk (fun (W : World) (q : Bel wr W) => (hcall.out W q).mono (fun e w' h => h.yes hp))
        have hin2 := Aside0.mk (hin.out hp)
        clear hcall hin hnx hp
        go_wp2_with (go_at_call 75; ((with_reducible refine (hc.out _ (Bel.refl _)).mono ?_); rintro e w1 ⟨rfl, hB1⟩))
        go_ret
        exact ⟨_, rfl, hBr.trans hB1, ⟨⟨fun _ => hin2.out, fun _ => by omega⟩⟩⟩
      · have hc := Aside0.mk (fun (W : World) (q : Bel wr W) => (hcall.out W q).mono (fun e w' h => h.no hp))
        have hnx2 := Aside0.mk (hnx.out hp)
        clear hcall hin hnx hp
        go_wp2_with (go_at_call 75; ((with_reducible refine (hc.out _ (Bel.refl _)).mono ?_); rintro e w1 ⟨rfl, hB1⟩))
        go_roundw
        case rel => exact ⟨k + 1, by omega, by go_num, hBr.trans hB1, hnx2⟩
        case measure => simp [intOf]; omega
    · have hni : Aside0 (¬ AnyOf Astray l) := ⟨fun ⟨x, hx, hp⟩ => by
        obtain ⟨j, hj, rfl⟩ := List.getElem_of_mem hx
        exact hno.out j hj (by omega) hp⟩
      go_wp2
      go_ret
      exact ⟨_, rfl, hBr, ⟨⟨fun h => absurd h (by decide), fun h => absurd h hni.out⟩⟩⟩
set_option maxHeartbeats 1000000 in
theorem astrayInC (A : Option Addr) (c : Nat) (l : List SLoc) (w : World)   (HA : Rd kLoc w A l) (hl : l.length ≤ 1000000000) :
    Calls Tryd.prog 78 #[.slice A l.length c, .func (.func 75) #[] #[]] w (SameP (AnyOf Astray l) w) := by
  have hcall := Aside0.mk (fun (W : World) (q : Bel w W) => astrayIn A c l W (HA.step q) hl)
  go_enter Tryd.func78, Tryd.ntmps78
  go_wp2_with (go_at_call 92; ((with_reducible refine (hcall.out _ (Bel.refl _)).mono ?_); rintro e w1 ⟨r, rfl, hB1, hr⟩))
  go_ret
  exact ⟨decide (0 ≤ r), rfl, ⟨by rw [decide_eq_true_iff]; exact hr.out⟩, hB1⟩
/-- a pair whose first is no place, or a reference, or whose second is none -/
def Loose (rs : List SLoc) (p : SPair) : Prop := ¬ (mayL p.f0 = true ∧ p.f0 ∉ rs ∧ p.f1 ∈ rs)
set_option maxHeartbeats 2000000 in
theorem loose_any (p : SPair) (j : Nat) (B : Option Addr) (cb : Nat) (rs : List SLoc) (w : World) (hj : w.cell? ⟨j, 1, none⟩ = some (.slice B rs.length cb)) (HB : Rd kLoc w B rs) (hrs : rs.length ≤ 1000000000) :
    Calls Tryd.prog 77 #[.agg #[.int .i64 p.f0.f0, .int .i64 p.f0.f1, .int .i64 p.f1.f0, .int .i64 p.f1.f1], .pointer (some ⟨j, 0, none⟩)] w (SameP (Loose rs p) w) := by
  have hB0 := ((Bel.refl w).alloc (.cells #[.int .i64 p.f0.f0, .int .i64 p.f0.f1, .int .i64 p.f1.f0, .int .i64 p.f1.f1] 73))
  have hb0 := heap_alloc_new w (.cells #[.int .i64 p.f0.f0, .int .i64 p.f0.f1, .int .i64 p.f1.f0, .int .i64 p.f1.f1] 73)
  go_enter Tryd.func77, Tryd.ntmps77
  go_upto_region 1 with (fail)
  generalize w.alloc (.cells #[.int .i64 p.f0.f0, .int .i64 p.f0.f1, .int .i64 p.f1.f0, .int .i64 p.f1.f1] 73) = wa at hB0 hb0 ⊢
  obtain ⟨b, hb⟩ : ∃ b, w.heap.size = b := ⟨_, rfl⟩
  rw [hb] at hb0 ⊢
  have hz := Aside0.mk (fun (W : World) (k : Bel wa W) => show W.cell? ⟨j, 1, none⟩ = some (.slice B rs.length cb) ∧ W.cell? ⟨b, 0, none⟩ = some (.int .i64 p.f0.f0) ∧ W.cell? ⟨b, 1, none⟩ = some (.int .i64 p.f0.f1) ∧ W.cell? ⟨b, 2, none⟩ = some (.int .i64 p.f1.f0) ∧ W.cell? ⟨b, 3, none⟩ = some (.int .i64 p.f1.f1) from ⟨Bel.cell (hB0.trans k) hj, Bel.cell k (blk_cell hb0 0), Bel.cell k (blk_cell hb0 1), Bel.cell k (blk_cell hb0 2), Bel.cell k (blk_cell hb0 3)⟩)
  replace hb := Aside0.mk hb
  replace hb0 := Aside0.mk hb0
  clear hj
  obtain ⟨z0, z1, z2, z3, z4⟩ := hz.out wa (Bel.refl _)
  have hm := Aside0.mk (fun (W : World) => mayC_any p.f0 W)
  have h1 := Aside0.mk (fun (W : World) (k : Bel wa W) => Contains_any B cb rs p.f0 W (HB.step (hB0.trans k)) hrs)
  have h2 := Aside0.mk (fun (W : World) (k : Bel wa W) => Contains_any B cb rs p.f1 W (HB.step (hB0.trans k)) hrs)
  cases e0 : mayL p.f0 with
  | false =>
    have hl : Aside0 (Loose rs p) := ⟨fun q => by rw [e0] at q; exact absurd q.1 (by decide)⟩
    rw [e0] at hm
    replace e0 := Aside0.mk e0
    go_wp2_with (go_at_call 76; ((with_reducible refine (hm.out _).mono ?_); rintro e w1 ⟨rfl, hB1⟩))
    go_ret
    exact SameP.mk1 hl.out (hB0.trans hB1)
  | true =>
    rw [e0] at hm
    by_cases e1 : p.f0 ∈ rs
    · have hl : Aside0 (Loose rs p) := ⟨fun q => q.2.1 e1⟩
      rw [decide_eq_true e1] at h1
      replace e0 := Aside0.mk e0
      replace e1 := Aside0.mk e1
      go_wp2_with (first | (go_at_call 76; ((with_reducible refine (hm.out _).mono ?_); rintro e w1 ⟨rfl, hB1⟩; obtain ⟨z0, z1, z2, z3, z4⟩ := hz.out w1 hB1)) | (go_at_call 62; ((with_reducible refine (h1.out _ hB1).mono ?_); rintro e w2 ⟨rfl, hB2⟩)))
      go_ret
      exact SameP.mk1 hl.out (hB0.trans (hB1.trans hB2))
    · rw [decide_eq_false e1] at h1
      obtain ⟨b2, hb2⟩ : ∃ b2, decide (p.f1 ∈ rs) = b2 := ⟨_, rfl⟩
      rw [hb2] at h2
      have hl : Aside0 ((!b2) = true ↔ Loose rs p) := ⟨by
        rw [← hb2]
        by_cases e2 : p.f1 ∈ rs
        · rw [decide_eq_true e2]; exact ⟨fun q => absurd q (by decide), fun q => absurd ⟨e0, e1, e2⟩ q⟩
        · rw [decide_eq_false e2]; exact ⟨fun _ q => e2 q.2.2, fun _ => rfl⟩⟩
      clear hb2
      replace e0 := Aside0.mk e0
      replace e1 := Aside0.mk e1
      go_wp2_with (first | (go_at_call 76; ((with_reducible refine (hm.out _).mono ?_); rintro e w1 ⟨rfl, hB1⟩; obtain ⟨z0, z1, z2, z3, z4⟩ := hz.out w1 hB1)) | (go_at_call 62; first | ((with_reducible refine (h1.out _ hB1).mono ?_); rintro e w2 ⟨rfl, hB2⟩; obtain ⟨z0, z1, z2, z3, z4⟩ := hz.out w2 (hB1.trans hB2)) | ((with_reducible refine (h2.out _ (hB1.trans hB2)).mono ?_); rintro e w3 ⟨rfl, hB3⟩)))
      go_ret
      exact ⟨!b2, rfl, hl, hB0.trans ((hB1.trans hB2).trans hB3)⟩
set_option maxHeartbeats 2000000 in
theorem looseIn (A : Option Addr) (c : Nat) (l : List SPair) (w : World) (j : Nat) (B : Option Addr) (cb : Nat) (rs : List SLoc) (hrs : rs.length ≤ 1000000000) (hj : w.cell? ⟨j, 1, none⟩ = some (.slice B rs.length cb)) (HB : Rd kLoc w B rs) (HA : Rd kPair w A l) (hl : l.length ≤ 1000000000) :
    Calls Tryd.prog 93 #[.slice A l.length c, .func (.func 77) #[] #[.pointer (some ⟨j, 0, none⟩)]] w fun e w' => ∃ r : Int, e = .returned (.int .i64 r) ∧ Bel w w' ∧ Aside0 (0 ≤ r ↔ AnyOf (Loose rs) l) := by
  go_enter Tryd.func93, Tryd.ntmps93
  go_wp2
  go_loopw [8] (fun i W => ∃ k : Nat, k ≤ l.length ∧ i = .int .i64 k ∧ Bel w W ∧ Aside0 (∀ j (hj : j < l.length), j < k → ¬ (Loose rs) l[j])) (fun i _ => l.length - (intOf i).toNat)
  case atStart => exact ⟨0, by omega, rfl, Bel.refl _, ⟨fun j _ h => absurd h (by omega)⟩⟩
  case round =>
    obtain ⟨k, hk, rfl, hBr, hno⟩ := hrel
    by_cases hlt : k < l.length
    · obtain ⟨ad, rfl, c0, c1, c2, c3⟩ := pair_at (HA.step hBr) k hlt
      have hin := Aside0.mk (fun (h : (Loose rs) (l[k]'hlt)) => (show AnyOf (Loose rs) l from ⟨_, List.getElem_mem hlt, h⟩))
      have hnx := Aside0.mk (fun (h : ¬ (Loose rs) (l[k]'hlt)) j (hj : j < l.length) (hjk : j < k + 1) => show ¬ (Loose rs) l[j] from by
        by_cases e : j = k
        · subst e; exact h
        · exact hno.out j hj (by omega))
      obtain ⟨x, hx⟩ : ∃ x, l[k]'hlt = x := ⟨_, rfl⟩
      rw [hx] at c0 c1 c2 c3 hin hnx
      clear hx
      have hcall := Aside0.mk (fun (W : World) (q : Bel wr W) => loose_any x j B cb rs W (Bel.cell (hBr.trans q) hj) (HB.step (hBr.trans q)) hrs)
      by_cases hp : (Loose rs) x
      · have hc := Aside0.mk (fun (W : World) (q : Bel wr W) => (hcall.out W q).mono (fun e w' h => h.yes hp))
        have hin2 := Aside0.mk (hin.out hp)
        clear hcall hin hnx hp
        go_wp2_with (go_at_call 77; ((with_reducible refine (hc.out _ (Bel.refl _)).mono ?_); rintro e w1 ⟨rfl, hB1⟩))
        go_ret
        exact ⟨_, rfl, hBr.trans hB1, ⟨⟨fun _ => hin2.out, fun _ => by omega⟩⟩⟩
      · have hc := Aside0.mk (fun (W : World) (q : Bel wr W) => (hcall.out W q).mono (fun e w' h => h.no hp))
        have hnx2 := Aside0.mk (hnx.out hp)
        clear hcall hin hnx hp
        go_wp2_with (go_at_call 77; ((with_reducible refine (hc.out _ (Bel.refl _)).mono ?_); rintro e w1 ⟨rfl, hB1⟩))
        go_roundw
        case rel => exact ⟨k + 1, by omega, by go_num, hBr.trans hB1, hnx2⟩
        case measure => simp [intOf]; omega
    · have hni : Aside0 (¬ AnyOf (Loose rs) l) := ⟨fun ⟨x, hx, hp⟩ => by
        obtain ⟨j, hj, rfl⟩ := List.getElem_of_mem hx
        exact hno.out j hj (by omega) hp⟩
      go_wp2
      go_ret
      exact ⟨_, rfl, hBr, ⟨⟨fun h => absurd h (by decide), fun h => absurd h hni.out⟩⟩⟩
set_option maxHeartbeats 1000000 in
theorem looseInC (A : Option Addr) (c : Nat) (l : List SPair) (w : World) (j : Nat) (B : Option Addr) (cb : Nat) (rs : List SLoc) (hrs : rs.length ≤ 1000000000) (hj : w.cell? ⟨j, 1, none⟩ = some (.slice B rs.length cb)) (HB : Rd kLoc w B rs) (HA : Rd kPair w A l) (hl : l.length ≤ 1000000000) :
    Calls Tryd.prog 79 #[.slice A l.length c, .func (.func 77) #[] #[.pointer (some ⟨j, 0, none⟩)]] w (SameP (AnyOf (Loose rs) l) w) := by
  have hcall := Aside0.mk (fun (W : World) (q : Bel w W) => looseIn A c l W j B cb rs hrs (Bel.cell q hj) (HB.step q) (HA.step q) hl)
  go_enter Tryd.func79, Tryd.ntmps79
  go_wp2_with (go_at_call 93; ((with_reducible refine (hcall.out _ (Bel.refl _)).mono ?_); rintro e w1 ⟨r, rfl, hB1, hr⟩))
  go_ret
  exact ⟨decide (0 ≤ r), rfl, ⟨by rw [decide_eq_true_iff]; exact hr.out⟩, hB1⟩
end Go.Proofs.YtceibabhmomfiaaDoor.H
