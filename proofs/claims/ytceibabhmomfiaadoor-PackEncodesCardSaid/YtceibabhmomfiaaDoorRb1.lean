/- Layer 3, the reference: numbers' bytes, places' codes. -/
import Derived.Test.YtceibabhmomfiaaDoorPe2
namespace Go.Proofs.YtceibabhmomfiaaDoor.H
open Go.RowKit Go.Proofs.YtceibabhmomfiaaDoorW.PrintWords Go.Proofs.YtceibabhmomfiaaDoorW.PrintLast
set_option linter.unusedVariables false
set_option linter.unusedSimpArgs false
set_option maxRecDepth 100000

set_option maxHeartbeats 1000000 in
theorem refList_any (A : Option Addr) (c : Nat) (l : List Int) (w : World) (HR : RdI w A l) (hok : IntsOk l) (hl : l.length ≤ 10000000000000) :
    Calls Tryd.prog 47 #[.slice A l.length c] w fun e w' => ∃ v : Value, e = .returned v ∧ OwnB w w' v (listL l) ∧ Bel w w' := by
  go_enter Tryd.func47, Tryd.ntmps47
  go_wp2
  go_loopw [3, 4] (fun v i W => ∃ k : Nat, k ≤ l.length ∧ i = .int .i64 k ∧ OwnB w W v (listL (l.take k)) ∧ Bel w W) (fun _ i _ => l.length - (intOf i).toNat)
  case atStart => exact ⟨0, by omega, rfl, by simpa [listL] using Own.nil _ _ _ _, Bel.refl _⟩
  case round =>
    obtain ⟨k, hk, rfl, hR, hB⟩ := hrel
    by_cases hlt : k < l.length
    · obtain ⟨ad, rfl, hcell⟩ := rd_atN (HR.step hB) k hlt
      have hx := hok.at_ k hlt
      have hts := Aside0.mk (take_snoc l k hlt)
      have hlen := Aside0.mk (listL_len (l.take k))
      obtain ⟨A2, c2, rfl, hc2, hRd⟩ := hR.reads
      go_wp2_with (go_at_call 80; refine (refPut_any A2 c2 (listL (l.take k)) _ wr hRd (by have := hlen.out; rw [List.length_take] at this; omega) hx.2).mono ?_; rintro e w' ⟨v2, rfl, hR2, hB2⟩)
      go_roundw
      case rel => exact ⟨k + 1, by omega, by go_num, by rw [hts.out, listL_snoc]; exact hR2.lower hB, hB.trans hB2⟩
      case measure => simp [intOf]; omega
    · have hts := Aside0.mk (List.take_of_length_le (show l.length ≤ k by omega))
      rw [hts.out] at hR
      obtain ⟨A2, c2, rfl, hc2, hRd⟩ := hR.reads
      go_wp2
      go_ret
      exact ⟨_, rfl, hR, hB⟩
theorem rList1 (a : Int) (h0 : -9223372036854775808 ≤ a) (h1 : a ≤ 9223372036854775807) (W : World) : Calls Tryd.prog 47 #[.slice (some ⟨W.heap.size, 0, none⟩) 1 1] (W.alloc (.cells #[.int .i64 a] 3)) fun e w' => ∃ v, e = .returned v ∧ OwnB W w' v (putL a) ∧ Bel W w' := by
  have hB : Bel W (W.alloc (.cells #[.int .i64 a] 3)) := (Bel.refl W).alloc _
  refine (refList_any (some ⟨W.heap.size, 0, none⟩) 1 [a] _ (Rd.lit .i64 3 W [a] (by simp)) ⟨by simp; omega⟩ (by simp)).mono ?_
  rintro e w' ⟨v, rfl, hv, hB1⟩
  exact ⟨v, rfl, by simpa [listL] using hv.lower hB, hB.trans hB1⟩
theorem rList2 (a b : Int) (h0 : -9223372036854775808 ≤ a) (h1 : a ≤ 9223372036854775807) (k0 : -9223372036854775808 ≤ b) (k1 : b ≤ 9223372036854775807) (W : World) : Calls Tryd.prog 47 #[.slice (some ⟨W.heap.size, 0, none⟩) 2 2] (W.alloc (.cells #[.int .i64 a, .int .i64 b] 3)) fun e w' => ∃ v, e = .returned v ∧ OwnB W w' v (putL a ++ putL b) ∧ Bel W w' := by
  have hB : Bel W (W.alloc (.cells #[.int .i64 a, .int .i64 b] 3)) := (Bel.refl W).alloc _
  refine (refList_any (some ⟨W.heap.size, 0, none⟩) 2 [a, b] _ (Rd.lit .i64 3 W [a, b] (by simp)) ⟨by simp; omega⟩ (by simp)).mono ?_
  rintro e w' ⟨v, rfl, hv, hB1⟩
  exact ⟨v, rfl, by simpa [listL] using hv.lower hB, hB.trans hB1⟩
theorem rList3 (a b d : Int) (h0 : -9223372036854775808 ≤ a) (h1 : a ≤ 9223372036854775807) (k0 : -9223372036854775808 ≤ b) (k1 : b ≤ 9223372036854775807) (j0 : -9223372036854775808 ≤ d) (j1 : d ≤ 9223372036854775807) (W : World) : Calls Tryd.prog 47 #[.slice (some ⟨W.heap.size, 0, none⟩) 3 3] (W.alloc (.cells #[.int .i64 a, .int .i64 b, .int .i64 d] 3)) fun e w' => ∃ v, e = .returned v ∧ OwnB W w' v (putL a ++ (putL b ++ putL d)) ∧ Bel W w' := by
  have hB : Bel W (W.alloc (.cells #[.int .i64 a, .int .i64 b, .int .i64 d] 3)) := (Bel.refl W).alloc _
  refine (refList_any (some ⟨W.heap.size, 0, none⟩) 3 [a, b, d] _ (Rd.lit .i64 3 W [a, b, d] (by simp)) ⟨by simp; omega⟩ (by simp)).mono ?_
  rintro e w' ⟨v, rfl, hv, hB1⟩
  exact ⟨v, rfl, by simpa [listL] using hv.lower hB, hB.trans hB1⟩
set_option maxHeartbeats 1000000 in
theorem Code_any (x : SLoc) (h0 : mayL x = true) (w : World) : Calls Tryd.prog 48 #[.agg #[.int .i64 x.f0, .int .i64 x.f1]] w fun e w' => e = .returned (.int .i64 (nOf x)) ∧ Bel w w' := by
  have hB0 := ((Bel.refl w).alloc (.cells #[.int .i64 x.f0, .int .i64 x.f1] 50))
  obtain ⟨x0, x1⟩ := x
  unfold nOf
  simp only at hB0 ⊢
  rcases may_cases h0 with ⟨a, b, d⟩ | ⟨a, b, d⟩ <;> simp only at a b d <;> subst a
  · clear h0
    go_enter Tryd.func48, Tryd.ntmps48
    go_wp2
    go_ret
    exact ⟨rfl, hB0⟩
  · clear h0
    go_enter Tryd.func48, Tryd.ntmps48
    go_wp2
    go_ret
    exact ⟨rfl, hB0⟩
end Go.Proofs.YtceibabhmomfiaaDoor.H
