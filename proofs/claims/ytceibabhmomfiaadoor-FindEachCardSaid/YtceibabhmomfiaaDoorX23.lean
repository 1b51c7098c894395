/- Texts of this work, joined: Rb1, Ra1. Conditions: each stands with its theorem. -/
import Derived.Test.YtceibabhmomfiaaDoorX17
import Derived.Test.YtceibabhmomfiaaDoorX19
import Derived.Test.YtceibabhmomfiaaDoorX15
import Derived.Test.YtceibabhmomfiaaDoorX13
import Derived.BigQuiet
/- Layer 3, the reference: numbers' bytes, places' codes. -/
namespace Go.Proofs.YtceibabhmomfiaaDoor.H
open Go.RowKit Go.Proofs.YtceibabhmomfiaaDoorW.PrintWords Go.Proofs.YtceibabhmomfiaaDoorW.PrintLast
set_option linter.unusedVariables false
set_option linter.unusedSimpArgs false
set_option maxRecDepth 100000

set_option maxHeartbeats 1000000 in
theorem refList_any (A : Option Addr) (c : Nat) (l : List Int) (w : World) (HR : RdI w A l) (hok : IntsOk l) (hl : l.length ≤ 10000000000000) :
    Calls Tryd.prog 47 #[.slice A l.length c] w fun e w' => ∃ v : Value, e = .returned v ∧ OwnB w w' v (listL l) ∧ Bel w w' := by
  go_enter Tryd.func47, Tryd.ntmps47
  go_wp2
  go_loopw [3, 4] (fun v i W => ∃ k : Nat, k ≤ l.length ∧ i = .int .i64 k ∧ OwnB w W v (listL (l.take k)) ∧ Bel w W) (fun _ i _ => l.length - (intOf i).toNat)
  case atStart => exact ⟨0, by omega, rfl, by simpa [listL] using Own.nil _ _ _ _, Bel.refl _⟩
  case round =>
    obtain ⟨k, hk, rfl, hR, hB⟩ := hrel
    by_cases hlt : k < l.length
    · obtain ⟨ad, rfl, hcell⟩ := rd_atN (HR.step hB) k hlt
      have hx := hok.at_ k hlt
      have hts := Aside0.mk (take_snoc l k hlt)
      have hlen := Aside0.mk (listL_len (l.take k))
      obtain ⟨A2, c2, rfl, hc2, hRd⟩ := hR.reads
      go_wp2_with (go_at_call 80; refine (refPut_any A2 c2 (listL (l.take k)) _ wr hRd (by have := hlen.out; rw [List.length_take] at this; omega) hx.2).mono ?_; rintro e w' ⟨v2, rfl, hR2, hB2⟩)
      go_roundw
      case rel => exact ⟨k + 1, by omega, by go_num, by rw [hts.out, listL_snoc]; exact hR2.lower hB, hB.trans hB2⟩
      case measure => simp [intOf]; omega
    · have hts := Aside0.mk (List.take_of_length_le (show l.length ≤ k by omega))
      rw [hts.out] at hR
      obtain ⟨A2, c2, rfl, hc2, hRd⟩ := hR.reads
      go_wp2
      go_ret
      exact ⟨_, rfl, hR, hB⟩
theorem rList1 (a : Int) (h0 : -9223372036854775808 ≤ a) (h1 : a ≤ 9223372036854775807) (W : World) : Calls Tryd.prog 47 #[.slice (some ⟨W.heap.size, 0, none⟩) 1 1] (W.alloc (.cells #[.int .i64 a] 3)) fun e w' => ∃ v, e = .returned v ∧ OwnB W w' v (putL a) ∧ Bel W w' := by
  have hB : Bel W (W.alloc (.cells #[.int .i64 a] 3)) := (Bel.refl W).alloc _
  refine (refList_any (some ⟨W.heap.size, 0, none⟩) 1 [a] _ (Rd.lit .i64 3 W [a] (by simp)) ⟨by simp; omega⟩ (by simp)).mono ?_
  rintro e w' ⟨v, rfl, hv, hB1⟩
  exact ⟨v, rfl, by simpa [listL] using hv.lower hB, hB.trans hB1⟩
theorem rList2 (a b : Int) (h0 : -9223372036854775808 ≤ a) (h1 : a ≤ 9223372036854775807) (k0 : -9223372036854775808 ≤ b) (k1 : b ≤ 9223372036854775807) (W : World) : Calls Tryd.prog 47 #[.slice (some ⟨W.heap.size, 0, none⟩) 2 2] (W.alloc (.cells #[.int .i64 a, .int .i64 b] 3)) fun e w' => ∃ v, e = .returned v ∧ OwnB W w' v (putL a ++ putL b) ∧ Bel W w' := by
  have hB : Bel W (W.alloc (.cells #[.int .i64 a, .int .i64 b] 3)) := (Bel.refl W).alloc _
  refine (refList_any (some ⟨W.heap.size, 0, none⟩) 2 [a, b] _ (Rd.lit .i64 3 W [a, b] (by simp)) ⟨by simp; omega⟩ (by simp)).mono ?_
  rintro e w' ⟨v, rfl, hv, hB1⟩
  exact ⟨v, rfl, by simpa [listL] using hv.lower hB, hB.trans hB1⟩
theorem rList3 (a b d : Int) (h0 : -9223372036854775808 ≤ a) (h1 : a ≤ 9223372036854775807) (k0 : -9223372036854775808 ≤ b) (k1 : b ≤ 9223372036854775807) (j0 : -9223372036854775808 ≤ d) (j1 : d ≤ 9223372036854775807) (W : World) : Calls Tryd.prog 47 #[.slice (some ⟨W.heap.size, 0, none⟩) 3 3] (W.alloc (.cells #[.int .i64 a, .int .i64 b, .int .i64 d] 3)) fun e w' => ∃ v, e = .returned v ∧ OwnB W w' v (putL a ++ (putL b ++ putL d)) ∧ Bel W w' := by
  have hB : Bel W (W.alloc (.cells #[.int .i64 a, .int .i64 b, .int .i64 d] 3)) := (Bel.refl W).alloc _
  refine (refList_any (some ⟨W.heap.size, 0, none⟩) 3 [a, b, d] _ (Rd.lit .i64 3 W [a, b, d] (by simp)) ⟨by simp; omega⟩ (by simp)).mono ?_
  rintro e w' ⟨v, rfl, hv, hB1⟩
  exact ⟨v, rfl, by simpa [listL] using hv.lower hB, hB.trans hB1⟩
set_option maxHeartbeats 1000000 in
theorem Code_any (x : SLoc) (h0 : mayL x = true) (w : World) : Calls Tryd.prog 48 #[.agg #[.int .i64 x.f0, .int .i64 x.f1]] w fun e w' => e = .returned (.int .i64 (nOf x)) ∧ Bel w w' := by
  have hB0 := ((Bel.refl w).alloc (.cells #[.int .i64 x.f0, .int .i64 x.f1] 50))
  obtain ⟨x0, x1⟩ := x
  unfold nOf
  simp only at hB0 ⊢
  rcases may_cases h0 with ⟨a, b, d⟩ | ⟨a, b, d⟩ <;> simp only at a b d <;> subst a
  · clear h0
    go_enter Tryd.func48, Tryd.ntmps48
    go_wp2
    go_ret
    exact ⟨rfl, hB0⟩
  · clear h0
    go_enter Tryd.func48, Tryd.ntmps48
    go_wp2
    go_ret
    exact ⟨rfl, hB0⟩
end Go.Proofs.YtceibabhmomfiaaDoor.H

/- Layer 3, the reference: charts that are right. -/
namespace Go.Proofs.YtceibabhmomfiaaDoor.H
open Go.RowKit Go.Proofs.YtceibabhmomfiaaDoorW.PrintWords Go.Proofs.YtceibabhmomfiaaDoorW.PrintLast
set_option linter.unusedVariables false
set_option linter.unusedSimpArgs false
set_option maxRecDepth 100000

set_option maxHeartbeats 1000000 in
theorem mayR_any (x : SLoc) (w : World) : Calls Tryd.prog 49 #[.agg #[.int .i64 x.f0, .int .i64 x.f1]] w fun e w' => e = .returned (.bool (mayL x)) ∧ Bel w w' := by
  have hB0 := ((Bel.refl w).alloc (.cells #[.int .i64 x.f0, .int .i64 x.f1] 50))
  obtain ⟨x0, x1⟩ := x
  simp only at hB0 ⊢
  by_cases h1 : x0 = 1
  · have b1 : (x0 == 1) = true := by simpa using h1
    have b3 : (x0 == 2) = false := by rw [h1]; rfl
    by_cases h2 : 0 ≤ x1
    · have c1 : decide (0 ≤ x1) = true := decide_eq_true h2
      by_cases h3 : x1 ≤ 31
      · have hm : Aside0 (mayL ⟨x0, x1⟩ = true) := ⟨by unfold mayL; rw [if_pos h1]; simp; omega⟩
        have c2 : decide (x1 ≤ 31) = true := decide_eq_true h3
        replace h1 := Aside0.mk h1
        go_enter Tryd.func49, Tryd.ntmps49
        go_wp2
        go_ret
        exact ⟨by rw [hm.out]; rfl, hB0⟩
      · have hm : Aside0 (mayL ⟨x0, x1⟩ = false) := ⟨by unfold mayL; rw [if_pos h1]; simp; omega⟩
        have c2 : decide (x1 ≤ 31) = false := decide_eq_false h3
        replace h1 := Aside0.mk h1
        go_enter Tryd.func49, Tryd.ntmps49
        go_wp2
        go_ret
        exact ⟨by rw [hm.out]; rfl, hB0⟩
    · have hm : Aside0 (mayL ⟨x0, x1⟩ = false) := ⟨by unfold mayL; rw [if_pos h1]; simp; omega⟩
      have c1 : decide (0 ≤ x1) = false := decide_eq_false h2
      clear h2
      replace h1 := Aside0.mk h1
      go_enter Tryd.func49, Tryd.ntmps49
      go_wp2
      go_ret
      exact ⟨by rw [hm.out]; rfl, hB0⟩
  · have b1 : (x0 == 1) = false := by simpa using h1
    by_cases h5 : x0 = 2
    · have b3 : (x0 == 2) = true := by simpa using h5
      by_cases h2 : 0 ≤ x1
      · have c1 : decide (0 ≤ x1) = true := decide_eq_true h2
        by_cases h3 : x1 ≤ 159
        · have hm : Aside0 (mayL ⟨x0, x1⟩ = true) := ⟨by unfold mayL; rw [if_neg h1, if_pos h5]; simp; omega⟩
          have c2 : decide (x1 ≤ 159) = true := decide_eq_true h3
          replace h1 := Aside0.mk h1
          replace h5 := Aside0.mk h5
          go_enter Tryd.func49, Tryd.ntmps49
          go_wp2
          go_ret
          exact ⟨by rw [hm.out]; rfl, hB0⟩
        · have hm : Aside0 (mayL ⟨x0, x1⟩ = false) := ⟨by unfold mayL; rw [if_neg h1, if_pos h5]; simp; omega⟩
          have c2 : decide (x1 ≤ 159) = false := decide_eq_false h3
          replace h1 := Aside0.mk h1
          replace h5 := Aside0.mk h5
          go_enter Tryd.func49, Tryd.ntmps49
          go_wp2
          go_ret
          exact ⟨by rw [hm.out]; rfl, hB0⟩
      · have hm : Aside0 (mayL ⟨x0, x1⟩ = false) := ⟨by unfold mayL; rw [if_neg h1, if_pos h5]; simp; omega⟩
        have c1 : decide (0 ≤ x1) = false := decide_eq_false h2
        clear h2
        replace h1 := Aside0.mk h1
        replace h5 := Aside0.mk h5
        go_enter Tryd.func49, Tryd.ntmps49
        go_wp2
        go_ret
        exact ⟨by rw [hm.out]; rfl, hB0⟩
    · have b3 : (x0 == 2) = false := by simpa using h5
      have hm : Aside0 (mayL ⟨x0, x1⟩ = false) := ⟨by unfold mayL; rw [if_neg h1, if_neg h5]⟩
      replace h1 := Aside0.mk h1
      replace h5 := Aside0.mk h5
      go_enter Tryd.func49, Tryd.ntmps49
      go_wp2
      go_ret
      exact ⟨by rw [hm.out]; rfl, hB0⟩
attribute [local go_sem high] eqLoc
set_option maxHeartbeats 1000000 in
theorem has21_any (A : Option Addr) (c : Nat) (l : List SLoc) (x : SLoc) (w : World) (HR : Rd kLoc w A l) (hl : l.length ≤ 1000000000) :
    Calls Tryd.prog 51 #[.slice A l.length c, .agg #[.int .i64 x.f0, .int .i64 x.f1]] w fun e w' => e = .returned (.bool (decide (x ∈ l))) ∧ Bel w w' := by
  have hu := Tryd.underlying50
  have hB0 := (Bel.refl w).alloc (.cells #[.int .i64 x.f0, .int .i64 x.f1] 50)
  have hb0 := heap_alloc_new w (.cells #[.int .i64 x.f0, .int .i64 x.f1] 50)
  go_enter Tryd.func51, Tryd.ntmps51
  go_upto_region 1 with (fail)
  generalize w.alloc (.cells #[.int .i64 x.f0, .int .i64 x.f1] 50) = wa at hB0 hb0 ⊢
  obtain ⟨b, hb⟩ : ∃ b, w.heap.size = b := ⟨_, rfl⟩
  rw [hb] at hb0 ⊢
  replace hb := Aside0.mk hb
  have hRa := HR.step hB0
  replace hb0 := Aside0.mk hb0
  go_wp2
  go_loopw [5] (fun i W => ∃ k : Nat, k ≤ l.length ∧ i = .int .i64 k ∧ Bel wa W ∧ Aside0 (∀ j (hj : j < l.length), j < k → l[j] ≠ x)) (fun i _ => l.length - (intOf i).toNat)
  case atStart => exact ⟨0, by omega, rfl, Bel.refl _, ⟨fun j _ h => absurd h (by omega)⟩⟩
  case round =>
    obtain ⟨k, hk, rfl, hBr, hno⟩ := hrel
    by_cases hlt : k < l.length
    · obtain ⟨ad, rfl, c0, c1⟩ := loc_at (hRa.step hBr) k hlt
      have hbk := bel_blk hb0.out hBr
      have x0 := blk_cell hbk 0
      have x1 := blk_cell hbk 1
      obtain ⟨y, hy⟩ : ∃ y, l[k] = y := ⟨_, rfl⟩
      rw [hy] at c0 c1
      replace hbk := Aside0.mk hbk
      by_cases hxy : x = y
      · have hq : (y.f0 == x.f0 && (y.f1 == x.f1)) = true := by rw [eq_loc]; exact decide_eq_true hxy.symm
        have hin : Aside0 (decide (x ∈ l) = true) := ⟨decide_eq_true (by rw [hxy, ← hy]; exact List.getElem_mem hlt)⟩
        replace hxy := Aside0.mk hxy
        replace hy := Aside0.mk hy
        go_upto_region 4 with (fail)
        go_region_law (fail)
        all_goals
          go_wp2
          go_ret
          exact ⟨by rw [hin.out]; rfl, hB0.trans (hBr.drewN 1)⟩
      · have hq : (y.f0 == x.f0 && (y.f1 == x.f1)) = false := by rw [eq_loc]; exact decide_eq_false (fun q => hxy q.symm)
        replace hxy := Aside0.mk hxy
        replace hy := Aside0.mk hy
        go_upto_region 4 with (fail)
        go_region_law (fail)
        all_goals
          go_wp2
          go_roundw
          case rel =>
            refine ⟨k + 1, by omega, by go_num, hBr.drewN 1, ⟨fun j hj hjk => ?_⟩⟩
            by_cases e : j = k
            · subst e
              rw [hy.out]
              exact fun q => hxy.out q.symm
            · exact hno.out j hj (by omega)
          case measure => simp [intOf]; omega
    · have hni : Aside0 (decide (x ∈ l) = false) := ⟨decide_eq_false fun hm => by
        obtain ⟨j, hj, e⟩ := List.getElem_of_mem hm
        exact hno.out j hj (by omega) e⟩
      go_wp2
      go_ret
      exact ⟨by rw [hni.out]; rfl, hB0.trans hBr⟩
end Go.Proofs.YtceibabhmomfiaaDoor.H
