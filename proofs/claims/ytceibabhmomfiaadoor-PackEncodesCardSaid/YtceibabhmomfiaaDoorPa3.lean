/- Layer 3, walks: charts that are right. -/
import Derived.Test.YtceibabhmomfiaaDoorPa2
namespace Go.Proofs.YtceibabhmomfiaaDoor.H
open Go.RowKit Go.Proofs.YtceibabhmomfiaaDoorW.PrintWords Go.Proofs.YtceibabhmomfiaaDoorW.PrintLast
set_option linter.unusedVariables false
set_option linter.unusedSimpArgs false
set_option maxRecDepth 100000

set_option maxHeartbeats 4000000 in
theorem right_any (x : SChart) (A1 A2 : Option Addr) (c1 c2 : Nat) (w : World) (HA1 : Rd kLoc w A1 x.f1) (HA2 : Rd kPair w A2 x.f2) (l1 : x.f1.length ≤ 1000000000) (l2 : x.f2.length ≤ 1000000000) :
    Calls Tryd.prog 46 #[chartV x A1 c1 A2 c2] w (SameP (ChartP x) w) := by
  obtain ⟨x0, xr, xd⟩ := x
  simp only [chartV] at HA1 HA2 l1 l2 ⊢
  have hB0 := ((Bel.refl w).alloc (.cells #[.int .i64 x0, .slice A1 xr.length c1, .slice A2 xd.length c2] 36))
  have hb0 := heap_alloc_new w (.cells #[.int .i64 x0, .slice A1 xr.length c1, .slice A2 xd.length c2] 36)
  go_enter Tryd.func46, Tryd.ntmps46
  go_upto_region 1 with (fail)
  generalize w.alloc (.cells #[.int .i64 x0, .slice A1 xr.length c1, .slice A2 xd.length c2] 36) = wa at hB0 hb0 ⊢
  obtain ⟨j, hj⟩ : ∃ b, w.heap.size = b := ⟨_, rfl⟩
  rw [hj] at hb0 ⊢
  have hz := Aside0.mk (fun (W : World) (k : Bel wa W) => show W.cell? ⟨j, 0, none⟩ = some (.int .i64 x0) ∧ W.cell? ⟨j, 1, none⟩ = some (.slice A1 xr.length c1) ∧ W.cell? ⟨j, 2, none⟩ = some (.slice A2 xd.length c2) from ⟨Bel.cell k (blk_cell hb0 0), Bel.cell k (blk_cell hb0 1), Bel.cell k (blk_cell hb0 2)⟩)
  replace hj := Aside0.mk hj
  replace hb0 := Aside0.mk hb0
  obtain ⟨z0, z1, z2⟩ := hz.out wa (Bel.refl _)
  have hBq := Bel.refl wa
  have h1 := Aside0.mk (fun (W : World) (k : Bel wa W) => risingLoc_any A1 c1 xr W (HA1.step (hB0.trans k)) l1)
  have h2 := Aside0.mk (fun (W : World) (k : Bel wa W) => risingPair_any A2 c2 xd W (HA2.step (hB0.trans k)) l2)
  have h3 := Aside0.mk (fun (W : World) (k : Bel wa W) => astrayInC A1 c1 xr W (HA1.step (hB0.trans k)) l1)
  have h4 := Aside0.mk (fun (W : World) (k : Bel wa W) => looseInC A2 c2 xd W j A1 c1 xr l1 (hz.out W k).2.1 (HA1.step (hB0.trans k)) (HA2.step (hB0.trans k)) l2)
  by_cases e0 : x0 < 1
  · have hno : Aside0 (¬ ChartP ⟨x0, xr, xd⟩) := ⟨fun h => by have h8 : 1 ≤ x0 := h.addr; omega⟩
    go_wp2
    go_ret
    exact SameP.mk0 hno.out hB0
  have b0 : decide (x0 < 1) = false := decide_eq_false e0
  by_cases e1 : Rise (fun x y => befL x y = true) xr
  case neg =>
    have hno : Aside0 (¬ ChartP ⟨x0, xr, xd⟩) := ⟨fun h => e1 h.refs.rise⟩
    replace h1 := Aside0.mk (fun (W : World) (k : Bel wa W) => (h1.out W k).mono (fun e w' h => h.no e1))
    clear e1
    go_wp2_with (first | (go_at_call 71; ((with_reducible refine (h1.out _ hBq).mono ?_); rintro e w1 ⟨rfl, hB1⟩; have hB1 := hBq.trans hB1; obtain ⟨z0, z1, z2⟩ := hz.out w1 hB1)) | (go_at_call 73; ((with_reducible refine (h2.out _ hB1).mono ?_); rintro e w2 ⟨rfl, hB2⟩; have hB2 := hB1.trans hB2; obtain ⟨z0, z1, z2⟩ := hz.out w2 hB2)) | (go_at_call 78; ((with_reducible refine (h3.out _ hB2).mono ?_); rintro e w3 ⟨rfl, hB3⟩; have hB3 := hB2.trans hB3; obtain ⟨z0, z1, z2⟩ := hz.out w3 hB3)) | (go_at_call 79; ((with_reducible refine (h4.out _ hB3).mono ?_); rintro e w4 ⟨rfl, hB4⟩; have hB4 := hB3.trans hB4)))
    go_ret
    exact SameP.mk0 hno.out (hB0.trans hB1)
  replace h1 := Aside0.mk (fun (W : World) (k : Bel wa W) => (h1.out W k).mono (fun e w' h => h.yes e1))
  replace e1 := Aside0.mk e1
  by_cases e2 : Rise (fun x y => befL x.f0 y.f0 = true) xd
  case neg =>
    have hno : Aside0 (¬ ChartP ⟨x0, xr, xd⟩) := ⟨fun h => e2 h.ders.rise⟩
    replace h2 := Aside0.mk (fun (W : World) (k : Bel wa W) => (h2.out W k).mono (fun e w' h => h.no e2))
    clear e2
    go_wp2_with (first | (go_at_call 71; ((with_reducible refine (h1.out _ hBq).mono ?_); rintro e w1 ⟨rfl, hB1⟩; have hB1 := hBq.trans hB1; obtain ⟨z0, z1, z2⟩ := hz.out w1 hB1)) | (go_at_call 73; ((with_reducible refine (h2.out _ hB1).mono ?_); rintro e w2 ⟨rfl, hB2⟩; have hB2 := hB1.trans hB2; obtain ⟨z0, z1, z2⟩ := hz.out w2 hB2)) | (go_at_call 78; ((with_reducible refine (h3.out _ hB2).mono ?_); rintro e w3 ⟨rfl, hB3⟩; have hB3 := hB2.trans hB3; obtain ⟨z0, z1, z2⟩ := hz.out w3 hB3)) | (go_at_call 79; ((with_reducible refine (h4.out _ hB3).mono ?_); rintro e w4 ⟨rfl, hB4⟩; have hB4 := hB3.trans hB4)))
    go_ret
    exact SameP.mk0 hno.out (hB0.trans hB2)
  replace h2 := Aside0.mk (fun (W : World) (k : Bel wa W) => (h2.out W k).mono (fun e w' h => h.yes e2))
  replace e2 := Aside0.mk e2
  by_cases e3 : AnyOf Astray xr
  · have hno : Aside0 (¬ ChartP ⟨x0, xr, xd⟩) := ⟨fun h => by obtain ⟨y, hy, hn⟩ := e3; exact hn (h.refs.may y hy)⟩
    replace h3 := Aside0.mk (fun (W : World) (k : Bel wa W) => (h3.out W k).mono (fun e w' h => h.yes e3))
    clear e3
    go_wp2_with (first | (go_at_call 71; ((with_reducible refine (h1.out _ hBq).mono ?_); rintro e w1 ⟨rfl, hB1⟩; have hB1 := hBq.trans hB1; obtain ⟨z0, z1, z2⟩ := hz.out w1 hB1)) | (go_at_call 73; ((with_reducible refine (h2.out _ hB1).mono ?_); rintro e w2 ⟨rfl, hB2⟩; have hB2 := hB1.trans hB2; obtain ⟨z0, z1, z2⟩ := hz.out w2 hB2)) | (go_at_call 78; ((with_reducible refine (h3.out _ hB2).mono ?_); rintro e w3 ⟨rfl, hB3⟩; have hB3 := hB2.trans hB3; obtain ⟨z0, z1, z2⟩ := hz.out w3 hB3)) | (go_at_call 79; ((with_reducible refine (h4.out _ hB3).mono ?_); rintro e w4 ⟨rfl, hB4⟩; have hB4 := hB3.trans hB4)))
    go_ret
    exact SameP.mk0 hno.out (hB0.trans hB3)
  replace h3 := Aside0.mk (fun (W : World) (k : Bel wa W) => (h3.out W k).mono (fun e w' h => h.no e3))
  replace e3 := Aside0.mk e3
  by_cases e4 : AnyOf (Loose xr) xd
  · have hno : Aside0 (¬ ChartP ⟨x0, xr, xd⟩) := ⟨fun h => by obtain ⟨y, hy, hn⟩ := e4; exact hn (h.ders.may y hy)⟩
    replace h4 := Aside0.mk (fun (W : World) (k : Bel wa W) => (h4.out W k).mono (fun e w' h => h.yes e4))
    clear e4
    go_wp2_with (first | (go_at_call 71; ((with_reducible refine (h1.out _ hBq).mono ?_); rintro e w1 ⟨rfl, hB1⟩; have hB1 := hBq.trans hB1; obtain ⟨z0, z1, z2⟩ := hz.out w1 hB1)) | (go_at_call 73; ((with_reducible refine (h2.out _ hB1).mono ?_); rintro e w2 ⟨rfl, hB2⟩; have hB2 := hB1.trans hB2; obtain ⟨z0, z1, z2⟩ := hz.out w2 hB2)) | (go_at_call 78; ((with_reducible refine (h3.out _ hB2).mono ?_); rintro e w3 ⟨rfl, hB3⟩; have hB3 := hB2.trans hB3; obtain ⟨z0, z1, z2⟩ := hz.out w3 hB3)) | (go_at_call 79; ((with_reducible refine (h4.out _ hB3).mono ?_); rintro e w4 ⟨rfl, hB4⟩; have hB4 := hB3.trans hB4)))
    go_ret
    exact SameP.mk0 hno.out (hB0.trans hB4)
  · have hyes : Aside0 (ChartP ⟨x0, xr, xd⟩) := ⟨⟨by show 1 ≤ x0; omega, ⟨e1.out, fun y hy => Classical.byContradiction fun q => e3.out ⟨y, hy, q⟩⟩, ⟨e2.out, fun y hy => Classical.byContradiction fun q => e4 ⟨y, hy, q⟩⟩⟩⟩
    replace h4 := Aside0.mk (fun (W : World) (k : Bel wa W) => (h4.out W k).mono (fun e w' h => h.no e4))
    clear e4
    go_wp2_with (first | (go_at_call 71; ((with_reducible refine (h1.out _ hBq).mono ?_); rintro e w1 ⟨rfl, hB1⟩; have hB1 := hBq.trans hB1; obtain ⟨z0, z1, z2⟩ := hz.out w1 hB1)) | (go_at_call 73; ((with_reducible refine (h2.out _ hB1).mono ?_); rintro e w2 ⟨rfl, hB2⟩; have hB2 := hB1.trans hB2; obtain ⟨z0, z1, z2⟩ := hz.out w2 hB2)) | (go_at_call 78; ((with_reducible refine (h3.out _ hB2).mono ?_); rintro e w3 ⟨rfl, hB3⟩; have hB3 := hB2.trans hB3; obtain ⟨z0, z1, z2⟩ := hz.out w3 hB3)) | (go_at_call 79; ((with_reducible refine (h4.out _ hB3).mono ?_); rintro e w4 ⟨rfl, hB4⟩; have hB4 := hB3.trans hB4)))
    go_ret
    exact SameP.mk1 hyes.out (hB0.trans hB4)
def Wrong (x : SChart) : Prop := ¬ ChartP x
set_option maxHeartbeats 1000000 in
theorem wrong_any (x : SChart) (A1 A2 : Option Addr) (c1 c2 : Nat) (w : World) (HA1 : Rd kLoc w A1 x.f1) (HA2 : Rd kPair w A2 x.f2) (l1 : x.f1.length ≤ 1000000000) (l2 : x.f2.length ≤ 1000000000) :
    Calls Tryd.prog 45 #[chartV x A1 c1 A2 c2] w (SameP (Wrong x) w) := by
  have hB0 := ((Bel.refl w).alloc (.cells #[.int .i64 x.f0, .slice A1 x.f1.length c1, .slice A2 x.f2.length c2] 36))
  have hc := Aside0.mk (fun (W : World) (q : Bel w W) => right_any x A1 A2 c1 c2 W (HA1.step q) (HA2.step q) l1 l2)
  simp only [chartV] at hc ⊢
  go_enter Tryd.func45, Tryd.ntmps45
  go_wp2_with (go_at_call 46; ((with_reducible refine (hc.out _ hB0).mono ?_); rintro e w' ⟨b, rfl, hb, hB1⟩))
  go_ret
  refine ⟨!b, rfl, ⟨?_⟩, hB0.trans hB1⟩
  unfold Wrong
  rw [← hb.out]
  cases b <;> simp
set_option maxHeartbeats 2000000 in
theorem wrongIn (A : Option Addr) (c : Nat) (l : List SChart) (w : World)  (hs : Aside0 (FewC l)) (HA : Rd kChart w A l) (hl : l.length ≤ 1000000000) :
    Calls Tryd.prog 70 #[.slice A l.length c, .func (.func 45) #[] #[]] w fun e w' => ∃ r : Int, e = .returned (.int .i64 r) ∧ Bel w w' ∧ Aside0 (0 ≤ r ↔ AnyOf Wrong l) := by
  go_enter Tryd.func70, Tryd.ntmps70
  go_wp2
  go_loopw [8] (fun i W => ∃ k : Nat, k ≤ l.length ∧ i = .int .i64 k ∧ Bel w W ∧ Aside0 (∀ j (hj : j < l.length), j < k → ¬ Wrong l[j])) (fun i _ => l.length - (intOf i).toNat)
  case atStart => exact ⟨0, by omega, rfl, Bel.refl _, ⟨fun j _ h => absurd h (by omega)⟩⟩
  case round =>
    obtain ⟨k, hk, rfl, hBr, hno⟩ := hrel
    by_cases hlt : k < l.length
    · (obtain ⟨ad, C1, n1, C2, n2, rfl, c0, c1, c2, c3, c4⟩ := chart_at (HA.step hBr) k hlt; obtain ⟨f1, f2⟩ := hs.out.2 _ (List.getElem_mem hlt))
      have hin := Aside0.mk (fun (h : Wrong (l[k]'hlt)) => (show AnyOf Wrong l from ⟨_, List.getElem_mem hlt, h⟩))
      have hnx := Aside0.mk (fun (h : ¬ Wrong (l[k]'hlt)) j (hj : j < l.length) (hjk : j < k + 1) => show ¬ Wrong l[j] from by
        by_cases e : j = k
        · subst e; exact h
        · exact hno.out j hj (by omega))
      obtain ⟨x, hx⟩ : ∃ x, l[k]'hlt = x := ⟨_, rfl⟩
      rw [hx] at c0 c1 c2 c3 c4 f1 f2 hin hnx
      clear hx
      have hcall := Aside0.mk (fun (W : World) (q : Bel wr W) => wrong_any x C1 C2 n1 n2 W (c3.step q) (c4.step q) f1 f2)
      by_cases hp : Wrong x
      · have hc := Aside0.mk (fun (W : World) (q : Bel wr W) => (hcall.out W q).mono (fun e w' h => h.yes hp))
        have hin2 := Aside0.mk (hin.out hp)
        clear hcall hin hnx hp
        go_wp2_with (go_at_call 45; ((with_reducible refine (hc.out _ (Bel.refl _)).mono ?_); rintro e w1 ⟨rfl, hB1⟩))
        go_ret
        exact ⟨_, rfl, hBr.trans hB1, ⟨⟨fun _ => hin2.out, fun _ => by omega⟩⟩⟩
      · have hc := Aside0.mk (fun (W : World) (q : Bel wr W) => (hcall.out W q).mono (fun e w' h => h.no hp))
        have hnx2 := Aside0.mk (hnx.out hp)
        clear hcall hin hnx hp
        go_wp2_with (go_at_call 45; ((with_reducible refine (hc.out _ (Bel.refl _)).mono ?_); rintro e w1 ⟨rfl, hB1⟩))
        go_roundw
        case rel => exact ⟨k + 1, by omega, by go_num, hBr.trans hB1, hnx2⟩
        case measure => simp [intOf]; omega
    · have hni : Aside0 (¬ AnyOf Wrong l) := ⟨fun ⟨x, hx, hp⟩ => by
        obtain ⟨j, hj, rfl⟩ := List.getElem_of_mem hx
        exact hno.out j hj (by omega) hp⟩
      go_wp2
      go_ret
      exact ⟨_, rfl, hBr, ⟨⟨fun h => absurd h (by decide), fun h => absurd h hni.out⟩⟩⟩
set_option maxHeartbeats 1000000 in
theorem wrongInC (A : Option Addr) (c : Nat) (l : List SChart) (w : World)  (hs : Aside0 (FewC l)) (HA : Rd kChart w A l) (hl : l.length ≤ 1000000000) :
    Calls Tryd.prog 44 #[.slice A l.length c, .func (.func 45) #[] #[]] w (SameP (AnyOf Wrong l) w) := by
  have hcall := Aside0.mk (fun (W : World) (q : Bel w W) => wrongIn A c l W hs (HA.step q) hl)
  go_enter Tryd.func44, Tryd.ntmps44
  go_wp2_with (go_at_call 70; ((with_reducible refine (hcall.out _ (Bel.refl _)).mono ?_); rintro e w1 ⟨r, rfl, hB1, hr⟩))
  go_ret
  exact ⟨decide (0 ≤ r), rfl, ⟨by rw [decide_eq_true_iff]; exact hr.out⟩, hB1⟩
set_option maxHeartbeats 2000000 in
theorem Right_any (A : Option Addr) (c : Nat) (l : List SChart) (w : World) (HA : Rd kChart w A l) (hs : Aside0 (FewC l)) :
    Calls Tryd.prog 19 #[.slice A l.length c] w (SameP (RightP l) w) := by
  have hl := hs.out.1
  have h1 := Aside0.mk (fun (W : World) (k : Bel w W) => risingChart_any A c l W (HA.step k) hl)
  have h2 := Aside0.mk (fun (W : World) (k : Bel w W) => wrongInC A c l W hs (HA.step k) hl)
  by_cases e0 : l.length ≤ 2000
  case neg =>
    have hno : Aside0 (¬ RightP l) := ⟨fun h => e0 h.few⟩
    go_enter Tryd.func19, Tryd.ntmps19
    go_wp2
    go_ret
    exact SameP.mk0 hno.out (Bel.refl _)
  by_cases e1 : Rise (fun x y => x.f0 < y.f0) l
  case neg =>
    have hno : Aside0 (¬ RightP l) := ⟨fun h => e1 h.rise⟩
    replace h1 := Aside0.mk (fun (W : World) (k : Bel w W) => (h1.out W k).mono (fun e w' h => h.no e1))
    clear e1
    go_enter Tryd.func19, Tryd.ntmps19
    go_wp2_with (go_at_call 41; ((with_reducible refine (h1.out _ (Bel.refl _)).mono ?_); rintro e w1 ⟨rfl, hB1⟩))
    go_ret
    exact SameP.mk0 hno.out hB1
  replace h1 := Aside0.mk (fun (W : World) (k : Bel w W) => (h1.out W k).mono (fun e w' h => h.yes e1))
  replace e1 := Aside0.mk e1
  have hiff : Aside0 (RightP l ↔ ¬ AnyOf Wrong l) := ⟨⟨fun h ⟨c, hc, hn⟩ => hn (h.all c hc), fun h => ⟨e0, e1.out, fun c hc => Classical.byContradiction fun q => h ⟨c, hc, q⟩⟩⟩⟩
  go_enter Tryd.func19, Tryd.ntmps19
  go_wp2_with (first | (go_at_call 41; ((with_reducible refine (h1.out _ (Bel.refl _)).mono ?_); rintro e w1 ⟨rfl, hB1⟩)) | (go_at_call 44; ((with_reducible refine (h2.out _ hB1).mono ?_); rintro e w2 ⟨b, rfl, hb, hB2⟩)))
  go_ret
  refine ⟨!b, rfl, ⟨?_⟩, hB1.trans hB2⟩
  rw [hiff.out, ← hb.out]
  cases b <;> simp
end Go.Proofs.YtceibabhmomfiaaDoor.H
