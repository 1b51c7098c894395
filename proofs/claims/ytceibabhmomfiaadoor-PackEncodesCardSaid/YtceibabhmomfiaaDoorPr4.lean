/- Layer 3, walks: a place among places. -/
import Derived.Test.YtceibabhmomfiaaDoorPr3
import Derived.Test.YtceibabhmomfiaaDoorWEqStruct
namespace Go.Proofs.YtceibabhmomfiaaDoor.H
open Go.RowKit Go.Proofs.YtceibabhmomfiaaDoorW.PrintWords Go.Proofs.YtceibabhmomfiaaDoorW.PrintLast
set_option linter.unusedVariables false
set_option linter.unusedSimpArgs false

theorem eqLoc (d : Nat) (w : World) (x0 y0 : Int) (x1 y1 : Int) :
    (Op.equalIn (d + 2) 50 (.agg #[.int .i64 x0, .int .i64 x1]) (.agg #[.int .i64 y0, .int .i64 y1])).run Tryd.prog w = .ok (x0 == y0 && (x1 == y1)) w := by
  refine eqA_of Tryd.underlying50 (by kernel_rfl) ?_
  refine eqf_cons (by rfl) (by go_simp; rfl) (by go_simp; rfl) (by go_simp) ?_
  exact eqf_last (by rfl) (by go_simp; rfl) (by go_simp; rfl) (by go_simp)
theorem loc_at {W : World} {A : Option Addr} {l : List SLoc} (h : Rd kLoc W A l) (k : Nat) (hk : k < l.length) : ∃ ad, A = some ad ∧ W.cell? (ad.add (k * 2)) = some (.int .i64 (l[k]).f0) ∧ W.cell? ⟨(ad.add (k * 2)).block, (ad.add (k * 2)).off + 1, none⟩ = some (.int .i64 (l[k]).f1) := by
  obtain ⟨ad, e, h0, h1⟩ := at_TLoc h.out (k : Int) (by omega) (by omega)
  have e1 : rd_TLoc l (k : Int) = l[k] := by simp [rd_TLoc, List.getD_eq_getElem?_getD, List.getElem?_eq_getElem hk]
  rw [e1] at h0 h1
  simp only [Int.toNat_natCast] at h0 h1
  exact ⟨ad, e, h0, h1⟩
theorem eq_loc (x y : SLoc) : (x.f0 == y.f0 && (x.f1 == y.f1)) = decide (x = y) := by
  obtain ⟨a, b⟩ := x
  obtain ⟨c, d⟩ := y
  simp only [SLoc.mk.injEq]
  by_cases h1 : a = c <;> by_cases h2 : b = d <;> simp [h1, h2]
attribute [local go_sem high] eqLoc
set_option maxRecDepth 100000
set_option maxHeartbeats 1000000 in
theorem Index_any (A : Option Addr) (c : Nat) (l : List SLoc) (x : SLoc) (w : World) (HR : Rd kLoc w A l) (hl : l.length ≤ 1000000000) :
    Calls Tryd.prog 86 #[.slice A l.length c, .agg #[.int .i64 x.f0, .int .i64 x.f1]] w fun e w' => ∃ r : Int, e = .returned (.int .i64 r) ∧ Bel w w' ∧ Aside0 (0 ≤ r ↔ x ∈ l) := by
  have hu := Tryd.underlying50
  have hB0 := (Bel.refl w).alloc (.cells #[.int .i64 x.f0, .int .i64 x.f1] 50)
  have hb0 := heap_alloc_new w (.cells #[.int .i64 x.f0, .int .i64 x.f1] 50)
  go_enter Tryd.func86, Tryd.ntmps86
  go_upto_region 1 with (fail)
  generalize w.alloc (.cells #[.int .i64 x.f0, .int .i64 x.f1] 50) = wa at hB0 hb0 ⊢
  obtain ⟨b, hb⟩ : ∃ b, w.heap.size = b := ⟨_, rfl⟩
  rw [hb] at hb0 ⊢
  replace hb := Aside0.mk hb
  have hRa := HR.step hB0
  replace hb0 := Aside0.mk hb0
  go_wp2
  go_loopw [8] (fun i W => ∃ k : Nat, k ≤ l.length ∧ i = .int .i64 k ∧ Bel wa W ∧ Aside0 (∀ j (hj : j < l.length), j < k → l[j] ≠ x)) (fun i _ => l.length - (intOf i).toNat)
  case atStart => exact ⟨0, by omega, rfl, Bel.refl _, ⟨fun j _ h => absurd h (by omega)⟩⟩
  case round =>
    obtain ⟨k, hk, rfl, hBr, hno⟩ := hrel
    by_cases hlt : k < l.length
    · obtain ⟨ad, rfl, c0, c1⟩ := loc_at (hRa.step hBr) k hlt
      have hbk := bel_blk hb0.out hBr
      have x0 := blk_cell hbk 0
      have x1 := blk_cell hbk 1
      obtain ⟨y, hy⟩ : ∃ y, l[k] = y := ⟨_, rfl⟩
      rw [hy] at c0 c1
      replace hbk := Aside0.mk hbk
      by_cases hxy : x = y
      · have hq : (x.f0 == y.f0 && (x.f1 == y.f1)) = true := by rw [eq_loc]; exact decide_eq_true hxy
        have hin : Aside0 (x ∈ l) := ⟨by rw [hxy, ← hy]; exact List.getElem_mem hlt⟩
        replace hxy := Aside0.mk hxy
        replace hy := Aside0.mk hy
        go_upto_region 4 with (fail)
        go_region_law (fail)
        all_goals
          go_wp2
          go_ret
          exact ⟨_, rfl, hB0.trans (hBr.drewN 1), ⟨⟨fun _ => hin.out, fun _ => by omega⟩⟩⟩
      · have hq : (x.f0 == y.f0 && (x.f1 == y.f1)) = false := by rw [eq_loc]; exact decide_eq_false hxy
        replace hxy := Aside0.mk hxy
        replace hy := Aside0.mk hy
        go_upto_region 4 with (fail)
        go_region_law (fail)
        all_goals
          go_wp2
          go_roundw
          case rel =>
            refine ⟨k + 1, by omega, by go_num, hBr.drewN 1, ⟨fun j hj hjk => ?_⟩⟩
            by_cases e : j = k
            · subst e
              rw [hy.out]
              exact fun q => hxy.out q.symm
            · exact hno.out j hj (by omega)
          case measure => simp [intOf]; omega
    · have hni : Aside0 (x ∉ l) := ⟨fun hm => by
        obtain ⟨j, hj, e⟩ := List.getElem_of_mem hm
        exact hno.out j hj (by omega) e⟩
      go_wp2
      go_ret
      exact ⟨_, rfl, hB0.trans hBr, ⟨⟨fun h => absurd h (by decide), fun h => absurd h hni.out⟩⟩⟩
set_option maxHeartbeats 1000000 in
theorem Contains_any (A : Option Addr) (c : Nat) (l : List SLoc) (x : SLoc) (w : World) (HR : Rd kLoc w A l) (hl : l.length ≤ 1000000000) :
    Calls Tryd.prog 62 #[.slice A l.length c, .agg #[.int .i64 x.f0, .int .i64 x.f1]] w fun e w' => e = .returned (.bool (decide (x ∈ l))) ∧ Bel w w' := by
  have hB0 := (Bel.refl w).alloc (.cells #[.int .i64 x.f0, .int .i64 x.f1] 50)
  have hb0 := heap_alloc_new w (.cells #[.int .i64 x.f0, .int .i64 x.f1] 50)
  go_enter Tryd.func62, Tryd.ntmps62
  go_upto_region 1 with (fail)
  generalize w.alloc (.cells #[.int .i64 x.f0, .int .i64 x.f1] 50) = wa at hB0 hb0 ⊢
  obtain ⟨b, hb⟩ : ∃ b, w.heap.size = b := ⟨_, rfl⟩
  rw [hb] at hb0 ⊢
  replace hb := Aside0.mk hb
  have x0 := blk_cell hb0 0
  have x1 := blk_cell hb0 1
  have hcall := Aside0.mk (Index_any A c l x wa (HR.step hB0) hl)
  replace hb0 := Aside0.mk hb0
  go_wp2_with (go_at_call 86; ((with_reducible refine hcall.out.mono ?_); rintro e w1 ⟨r, rfl, hB1, hr⟩))
  go_ret
  refine ⟨?_, hB0.trans hB1⟩
  have e : decide (0 ≤ r) = decide (x ∈ l) := decide_eq_decide.2 hr.out
  rw [← e]
  rfl
end Go.Proofs.YtceibabhmomfiaaDoor.H
