/- Texts of this work, joined. Conditions: each stands with its theorem. -/
import Derived.Test.YtodjpbidjldblaaX08
import Derived.Laws.Closers25
/- Layer 1, law10, the checker: has an instruction nothing in fields that are no parts? -/
namespace Go.Proofs.Ytodjpbidjldblaa.H
open Go.RowKit Go.Proofs.YtodjpbidjldblaaW.PrintWords Go.Proofs.YtodjpbidjldblaaW.PrintLast Go.Proofs.YtodjpbidjldblaaW.PrintMore
set_option linter.unusedVariables false
set_option linter.unusedSimpArgs false
set_option maxRecDepth 100000
theorem cutQ_intro {R : Act → World → Prop} {Q : Exit → Act → World → Prop} {a : Act} {w : World} (h : R a w) : cutQ R Q .normal a w := h
def BareIs (x : SIns) (w : World) (e : Ending) (w' : World) : Prop := ∃ b, e = .returned (.bool b) ∧ (b = true → (x.f1 = 0 ∨ has x.f0 68) ∧ (x.f2 = 0 ∨ has x.f0 65) ∧ (x.f3 = 0 ∨ has x.f0 66)) ∧ Bel w w'
set_option maxHeartbeats 8000000 in
theorem bare_any (x : SIns) (A6 : Option Addr) (c6 : Nat) (w : World) :
    Calls Try.prog 67 #[insV x A6 c6] w (BareIs x w) := by
  obtain ⟨g, hg⟩ : ∃ g, w.heap.size = g := ⟨_, rfl⟩
  have hB := (Bel.refl w).alloc (.cells #[.int .i64 x.f0, .int .i64 x.f1, .int .i64 x.f2, .int .i64 x.f3, .int .i64 x.f4, .int .i64 x.f5, .slice A6 x.f6.length c6] 57)
  have hx := heap_new' (o := .cells #[.int .i64 x.f0, .int .i64 x.f1, .int .i64 x.f2, .int .i64 x.f3, .int .i64 x.f4, .int .i64 x.f5, .slice A6 x.f6.length c6] 57) hg.symm
  go_enter Try.func67, Try.ntmps67
  go_upto_region 1 with (fail)
  generalize w.alloc (.cells #[.int .i64 x.f0, .int .i64 x.f1, .int .i64 x.f2, .int .i64 x.f3, .int .i64 x.f4, .int .i64 x.f5, .slice A6 x.f6.length c6] 57) = wa at hB hx ⊢
  replace hg := Aside0.mk hg
  refine wp_region_list ?_
  simp only [List.append_eq, List.cons_append, List.nil_append]
  obtain ⟨R0, hR0⟩ : ∃ R : Act → World → Prop, Aside0 (∀ a' w', R a' w' ↔ ∃ (b : Bool) (v3 v4 v5 v6 v7 v8 v9 v10 : Value), a' = ⟨#[insV x A6 c6, .pointer (some ⟨g, 0, none⟩), .bool false, v3, v4, v5, v6, v7, v8, v9, v10, .bool b, undef, undef, undef, undef, undef, undef, undef, undef, undef, undef, undef, undef, undef, undef, undef, undef, undef, undef, undef, undef, undef, undef, undef, undef, undef, undef, undef, undef, undef, undef, undef, undef, undef, undef, undef, undef, undef, undef, undef, undef, undef, undef, undef, undef, undef, undef, undef, undef, undef, undef, undef, undef, undef, undef, undef], []⟩ ∧ Aside0 (b = true → (x.f1 = 0 ∨ has x.f0 68)) ∧ Bel wa w') := ⟨_, ⟨fun _ _ => Iff.rfl⟩⟩
  refine wpList_cut (pre := [_, _, _, _, _, _, _, _, _]) R0 ?_ ?_
  · have z0 : wa.cell? ⟨g, 0, none⟩ = some (.int .i64 x.f0) := blk_cell ((Bel.refl wa).blk hx) 0
    have z1 : wa.cell? ⟨g, 1, none⟩ = some (.int .i64 x.f1) := blk_cell ((Bel.refl wa).blk hx) 1
    by_cases hz : x.f1 = 0
    · have e0 : (x.f1 == 0) = true := by simp [hz]
      replace hz := Aside0.mk hz
      go_wp2
      exact cutQ_intro ((hR0.out _ _).2 ⟨true, _, _, _, _, _, _, _, _, rfl, ⟨fun _ => .inl hz.out⟩, (Bel.refl wa)⟩)
    · have e0 : (x.f1 == 0) = false := by simp [hz]
      clear hz
      obtain ⟨hb, hhb⟩ : ∃ hb, decide (has x.f0 68) = hb := ⟨_, rfl⟩
      have hh68 := Aside0.mk (fun W => has_any x.f0 68 (by decide) W)
      rw [hhb] at hh68
      replace hhb := Aside0.mk hhb
      go_wp2_with (go_at_call 56; ((with_reducible refine (hh68.out _).mono ?_); rintro e w2 ⟨rfl, ⟨n, rfl⟩⟩))
      exact cutQ_intro ((hR0.out _ _).2 ⟨hb, _, _, _, _, _, _, _, _, rfl, ⟨fun q => .inr (of_decide_eq_true (hhb.out.trans q))⟩, (Bel.refl wa).drewN n⟩)
  intro a' w0' hI
  obtain ⟨b0, hI⟩ := (hR0.out _ _).1 hI
  obtain ⟨v3, hI⟩ := hI
  obtain ⟨v4, hI⟩ := hI
  obtain ⟨v5, hI⟩ := hI
  obtain ⟨v6, hI⟩ := hI
  obtain ⟨v7, hI⟩ := hI
  obtain ⟨v8, hI⟩ := hI
  obtain ⟨v9, hI⟩ := hI
  obtain ⟨v10, hI⟩ := hI
  obtain ⟨rfl, hf0, hB0⟩ := hI
  obtain ⟨R1, hR1⟩ : ∃ R : Act → World → Prop, Aside0 (∀ a' w', R a' w' ↔ ∃ (b : Bool) (v12 v13 v14 v15 v16 v17 v18 v19 v20 : Value), a' = ⟨#[insV x A6 c6, .pointer (some ⟨g, 0, none⟩), .bool false, v3, v4, v5, v6, v7, v8, v9, v10, .bool b0, v12, v13, v14, v15, v16, v17, v18, v19, v20, .bool b, undef, undef, undef, undef, undef, undef, undef, undef, undef, undef, undef, undef, undef, undef, undef, undef, undef, undef, undef, undef, undef, undef, undef, undef, undef, undef, undef, undef, undef, undef, undef, undef, undef, undef, undef, undef, undef, undef, undef, undef, undef, undef, undef, undef, undef], []⟩ ∧ Aside0 (b = true → (x.f1 = 0 ∨ has x.f0 68) ∧ (x.f2 = 0 ∨ has x.f0 65)) ∧ Bel wa w') := ⟨_, ⟨fun _ _ => Iff.rfl⟩⟩
  refine wpList_cut (pre := [_, _, _, _, _, _, _, _, _, _]) R1 ?_ ?_
  · have z0 : w0'.cell? ⟨g, 0, none⟩ = some (.int .i64 x.f0) := blk_cell (hB0.blk hx) 0
    have z1 : w0'.cell? ⟨g, 2, none⟩ = some (.int .i64 x.f2) := blk_cell (hB0.blk hx) 2
    cases b0 with
    | false =>
      go_wp2
      exact cutQ_intro ((hR1.out _ _).2 ⟨false, _, _, _, _, _, _, _, _, _, rfl, ⟨fun q => by cases q⟩, hB0⟩)
    | true =>
      have hp := hf0.out rfl
      clear hf0
      have hp := Aside0.mk hp
      by_cases hz : x.f2 = 0
      · have e0 : (x.f2 == 0) = true := by simp [hz]
        replace hz := Aside0.mk hz
        go_wp2
        exact cutQ_intro ((hR1.out _ _).2 ⟨true, _, _, _, _, _, _, _, _, _, rfl, ⟨fun _ => ⟨hp.out, .inl hz.out⟩⟩, hB0⟩)
      · have e0 : (x.f2 == 0) = false := by simp [hz]
        clear hz
        obtain ⟨hb, hhb⟩ : ∃ hb, decide (has x.f0 65) = hb := ⟨_, rfl⟩
        have hh65 := Aside0.mk (fun W => has_any x.f0 65 (by decide) W)
        rw [hhb] at hh65
        replace hhb := Aside0.mk hhb
        go_wp2_with (go_at_call 56; ((with_reducible refine (hh65.out _).mono ?_); rintro e w2 ⟨rfl, ⟨n, rfl⟩⟩))
        exact cutQ_intro ((hR1.out _ _).2 ⟨hb, _, _, _, _, _, _, _, _, _, rfl, ⟨fun q => ⟨hp.out, .inr (of_decide_eq_true (hhb.out.trans q))⟩⟩, hB0.drewN n⟩)
  intro a' w1' hI
  obtain ⟨b1, hI⟩ := (hR1.out _ _).1 hI
  obtain ⟨v12, hI⟩ := hI
  obtain ⟨v13, hI⟩ := hI
  obtain ⟨v14, hI⟩ := hI
  obtain ⟨v15, hI⟩ := hI
  obtain ⟨v16, hI⟩ := hI
  obtain ⟨v17, hI⟩ := hI
  obtain ⟨v18, hI⟩ := hI
  obtain ⟨v19, hI⟩ := hI
  obtain ⟨v20, hI⟩ := hI
  obtain ⟨rfl, hf1, hB1⟩ := hI
  clear hf0 hB0
  obtain ⟨R2, hR2⟩ : ∃ R : Act → World → Prop, Aside0 (∀ a' w', R a' w' ↔ ∃ (b : Bool) (v22 v23 v24 v25 v26 v27 v28 v29 v30 : Value), a' = ⟨#[insV x A6 c6, .pointer (some ⟨g, 0, none⟩), .bool false, v3, v4, v5, v6, v7, v8, v9, v10, .bool b0, v12, v13, v14, v15, v16, v17, v18, v19, v20, .bool b1, v22, v23, v24, v25, v26, v27, v28, v29, v30, .bool b, undef, undef, undef, undef, undef, undef, undef, undef, undef, undef, undef, undef, undef, undef, undef, undef, undef, undef, undef, undef, undef, undef, undef, undef, undef, undef, undef, undef, undef, undef, undef, undef, undef, undef, undef], []⟩ ∧ Aside0 (b = true → (x.f1 = 0 ∨ has x.f0 68) ∧ (x.f2 = 0 ∨ has x.f0 65) ∧ (x.f3 = 0 ∨ has x.f0 66)) ∧ Bel wa w') := ⟨_, ⟨fun _ _ => Iff.rfl⟩⟩
  refine wpList_cut (pre := [_, _, _, _, _, _, _, _, _, _]) R2 ?_ ?_
  · have z0 : w1'.cell? ⟨g, 0, none⟩ = some (.int .i64 x.f0) := blk_cell (hB1.blk hx) 0
    have z1 : w1'.cell? ⟨g, 3, none⟩ = some (.int .i64 x.f3) := blk_cell (hB1.blk hx) 3
    cases b1 with
    | false =>
      go_wp2
      exact cutQ_intro ((hR2.out _ _).2 ⟨false, _, _, _, _, _, _, _, _, _, rfl, ⟨fun q => by cases q⟩, hB1⟩)
    | true =>
      have hp := hf1.out rfl
      clear hf1
      have hp := Aside0.mk hp
      by_cases hz : x.f3 = 0
      · have e0 : (x.f3 == 0) = true := by simp [hz]
        replace hz := Aside0.mk hz
        go_wp2
        exact cutQ_intro ((hR2.out _ _).2 ⟨true, _, _, _, _, _, _, _, _, _, rfl, ⟨fun _ => ⟨hp.out.1, hp.out.2, .inl hz.out⟩⟩, hB1⟩)
      · have e0 : (x.f3 == 0) = false := by simp [hz]
        clear hz
        obtain ⟨hb, hhb⟩ : ∃ hb, decide (has x.f0 66) = hb := ⟨_, rfl⟩
        have hh66 := Aside0.mk (fun W => has_any x.f0 66 (by decide) W)
        rw [hhb] at hh66
        replace hhb := Aside0.mk hhb
        go_wp2_with (go_at_call 56; ((with_reducible refine (hh66.out _).mono ?_); rintro e w2 ⟨rfl, ⟨n, rfl⟩⟩))
        exact cutQ_intro ((hR2.out _ _).2 ⟨hb, _, _, _, _, _, _, _, _, _, rfl, ⟨fun q => ⟨hp.out.1, hp.out.2, .inr (of_decide_eq_true (hhb.out.trans q))⟩⟩, hB1.drewN n⟩)
  intro a' w2' hI
  obtain ⟨b2, hI⟩ := (hR2.out _ _).1 hI
  obtain ⟨v22, hI⟩ := hI
  obtain ⟨v23, hI⟩ := hI
  obtain ⟨v24, hI⟩ := hI
  obtain ⟨v25, hI⟩ := hI
  obtain ⟨v26, hI⟩ := hI
  obtain ⟨v27, hI⟩ := hI
  obtain ⟨v28, hI⟩ := hI
  obtain ⟨v29, hI⟩ := hI
  obtain ⟨v30, hI⟩ := hI
  obtain ⟨rfl, hf2, hB2⟩ := hI
  clear hf1 hB1
  obtain ⟨R3, hR3⟩ : ∃ R : Act → World → Prop, Aside0 (∀ a' w', R a' w' ↔ ∃ (b : Bool) (v32 v33 v34 v35 v36 v37 v38 v39 v40 v41 v42 v43 v44 v45 : Value), a' = ⟨#[insV x A6 c6, .pointer (some ⟨g, 0, none⟩), .bool false, v3, v4, v5, v6, v7, v8, v9, v10, .bool b0, v12, v13, v14, v15, v16, v17, v18, v19, v20, .bool b1, v22, v23, v24, v25, v26, v27, v28, v29, v30, .bool b2, v32, v33, v34, v35, v36, v37, v38, v39, v40, v41, v42, v43, v44, v45, .bool b, undef, undef, undef, undef, undef, undef, undef, undef, undef, undef, undef, undef, undef, undef, undef, undef, undef, undef, undef, undef], []⟩ ∧ Aside0 (b = true → (x.f1 = 0 ∨ has x.f0 68) ∧ (x.f2 = 0 ∨ has x.f0 65) ∧ (x.f3 = 0 ∨ has x.f0 66)) ∧ Bel wa w') := ⟨_, ⟨fun _ _ => Iff.rfl⟩⟩
  refine wpList_cut (pre := [_, _, _, _, _, _, _, _, _, _, _, _, _, _, _]) R3 ?_ ?_
  · have z0 : w2'.cell? ⟨g, 0, none⟩ = some (.int .i64 x.f0) := blk_cell (hB2.blk hx) 0
    have z1 : w2'.cell? ⟨g, 4, none⟩ = some (.int .i64 x.f4) := blk_cell (hB2.blk hx) 4
    cases b2 with
    | false =>
      go_wp2
      exact cutQ_intro ((hR3.out _ _).2 ⟨false, _, _, _, _, _, _, _, _, _, _, _, _, _, _, rfl, ⟨fun q => by cases q⟩, hB2⟩)
    | true =>
      have hp := hf2.out rfl
      clear hf2
      have hp := Aside0.mk hp
      by_cases hz : x.f4 = 0
      · have e0 : (x.f4 == 0) = true := by simp [hz]
        replace hz := Aside0.mk hz
        go_wp2
        exact cutQ_intro ((hR3.out _ _).2 ⟨true, _, _, _, _, _, _, _, _, _, _, _, _, _, _, rfl, ⟨fun _ => hp.out⟩, hB2⟩)
      · have e0 : (x.f4 == 0) = false := by simp [hz]
        clear hz
        have hh78 := Aside0.mk (fun W => has_any x.f0 78 (by decide) W)
        have hh110 := Aside0.mk (fun W => has_any x.f0 110 (by decide) W)
        obtain ⟨hc, hhc⟩ : ∃ hb, decide (has x.f0 110) = hb := ⟨_, rfl⟩
        rw [hhc] at hh110
        replace hhc := Aside0.mk hhc
        by_cases h78 : has x.f0 78
        · rw [show decide (has x.f0 78) = true from decide_eq_true h78] at hh78
          clear h78
          go_wp2_with (go_at_call 56; ((with_reducible refine (hh78.out _).mono ?_); rintro e w2 ⟨rfl, ⟨n, rfl⟩⟩))
          exact cutQ_intro ((hR3.out _ _).2 ⟨true, _, _, _, _, _, _, _, _, _, _, _, _, _, _, rfl, ⟨fun _ => hp.out⟩, hB2.drewN n⟩)
        · rw [show decide (has x.f0 78) = false from decide_eq_false h78] at hh78
          clear h78
          go_wp2_with (go_at_call 56; first | ((with_reducible refine (hh78.out _).mono ?_); rintro e w2 ⟨rfl, ⟨n, rfl⟩⟩; have z0 : (w2'.drewN n).cell? ⟨g, 0, none⟩ = some (.int .i64 x.f0) := blk_cell ((hB2.drewN n).blk hx) 0) | ((with_reducible refine (hh110.out _).mono ?_); rintro e w3 ⟨rfl, ⟨n2, rfl⟩⟩))
          exact cutQ_intro ((hR3.out _ _).2 ⟨hc, _, _, _, _, _, _, _, _, _, _, _, _, _, _, rfl, ⟨fun _ => hp.out⟩, hB2.drewN (n + n2)⟩)
  intro a' w3' hI
  obtain ⟨b3, hI⟩ := (hR3.out _ _).1 hI
  obtain ⟨v32, hI⟩ := hI
  obtain ⟨v33, hI⟩ := hI
  obtain ⟨v34, hI⟩ := hI
  obtain ⟨v35, hI⟩ := hI
  obtain ⟨v36, hI⟩ := hI
  obtain ⟨v37, hI⟩ := hI
  obtain ⟨v38, hI⟩ := hI
  obtain ⟨v39, hI⟩ := hI
  obtain ⟨v40, hI⟩ := hI
  obtain ⟨v41, hI⟩ := hI
  obtain ⟨v42, hI⟩ := hI
  obtain ⟨v43, hI⟩ := hI
  obtain ⟨v44, hI⟩ := hI
  obtain ⟨v45, hI⟩ := hI
  obtain ⟨rfl, hf3, hB3⟩ := hI
  clear hf2 hB2
  obtain ⟨R4, hR4⟩ : ∃ R : Act → World → Prop, Aside0 (∀ a' w', R a' w' ↔ ∃ (b : Bool) (v47 v48 v49 v50 v51 v52 v53 v54 v55 : Value), a' = ⟨#[insV x A6 c6, .pointer (some ⟨g, 0, none⟩), .bool false, v3, v4, v5, v6, v7, v8, v9, v10, .bool b0, v12, v13, v14, v15, v16, v17, v18, v19, v20, .bool b1, v22, v23, v24, v25, v26, v27, v28, v29, v30, .bool b2, v32, v33, v34, v35, v36, v37, v38, v39, v40, v41, v42, v43, v44, v45, .bool b3, v47, v48, v49, v50, v51, v52, v53, v54, v55, .bool b, undef, undef, undef, undef, undef, undef, undef, undef, undef, undef], []⟩ ∧ Aside0 (b = true → (x.f1 = 0 ∨ has x.f0 68) ∧ (x.f2 = 0 ∨ has x.f0 65) ∧ (x.f3 = 0 ∨ has x.f0 66)) ∧ Bel wa w') := ⟨_, ⟨fun _ _ => Iff.rfl⟩⟩
  refine wpList_cut (pre := [_, _, _, _, _, _, _, _, _, _]) R4 ?_ ?_
  · have z0 : w3'.cell? ⟨g, 0, none⟩ = some (.int .i64 x.f0) := blk_cell (hB3.blk hx) 0
    have z1 : w3'.cell? ⟨g, 5, none⟩ = some (.int .i64 x.f5) := blk_cell (hB3.blk hx) 5
    cases b3 with
    | false =>
      go_wp2
      exact cutQ_intro ((hR4.out _ _).2 ⟨false, _, _, _, _, _, _, _, _, _, rfl, ⟨fun q => by cases q⟩, hB3⟩)
    | true =>
      have hp := hf3.out rfl
      clear hf3
      have hp := Aside0.mk hp
      by_cases hz : x.f5 = 0
      · have e0 : (x.f5 == 0) = true := by simp [hz]
        replace hz := Aside0.mk hz
        go_wp2
        exact cutQ_intro ((hR4.out _ _).2 ⟨true, _, _, _, _, _, _, _, _, _, rfl, ⟨fun _ => hp.out⟩, hB3⟩)
      · have e0 : (x.f5 == 0) = false := by simp [hz]
        clear hz
        obtain ⟨hb, hhb⟩ : ∃ hb, decide (has x.f0 77) = hb := ⟨_, rfl⟩
        have hh77 := Aside0.mk (fun W => has_any x.f0 77 (by decide) W)
        rw [hhb] at hh77
        replace hhb := Aside0.mk hhb
        go_wp2_with (go_at_call 56; ((with_reducible refine (hh77.out _).mono ?_); rintro e w2 ⟨rfl, ⟨n, rfl⟩⟩))
        exact cutQ_intro ((hR4.out _ _).2 ⟨hb, _, _, _, _, _, _, _, _, _, rfl, ⟨fun q => hp.out⟩, hB3.drewN n⟩)
  intro a' w4' hI
  obtain ⟨b4, hI⟩ := (hR4.out _ _).1 hI
  obtain ⟨v47, hI⟩ := hI
  obtain ⟨v48, hI⟩ := hI
  obtain ⟨v49, hI⟩ := hI
  obtain ⟨v50, hI⟩ := hI
  obtain ⟨v51, hI⟩ := hI
  obtain ⟨v52, hI⟩ := hI
  obtain ⟨v53, hI⟩ := hI
  obtain ⟨v54, hI⟩ := hI
  obtain ⟨v55, hI⟩ := hI
  obtain ⟨rfl, hf4, hB4⟩ := hI
  clear hf3 hB3
  have z0 : w4'.cell? ⟨g, 0, none⟩ = some (.int .i64 x.f0) := blk_cell (hB4.blk hx) 0
  have z1 : w4'.cell? ⟨g, 6, none⟩ = some (.slice A6 x.f6.length c6) := blk_cell (hB4.blk hx) 6
  cases b4 with
  | false =>
    go_wp2
    go_ret
    exact ⟨false, rfl, (fun q => by cases q), hB.trans hB4⟩
  | true =>
    have hp := Aside0.mk (hf4.out rfl)
    clear hf4
    by_cases hz : x.f6.length = 0
    · have e0 : ((x.f6.length : Int) == 0) = true := by simp [hz]
      have e1 : (x.f6.length == 0) = true := by simp [hz]
      have e2 : x.f6 = [] := List.eq_nil_of_length_eq_zero hz
      replace e2 := Aside0.mk e2
      clear hz
      go_wp2
      go_ret
      exact ⟨_, rfl, (fun _ => hp.out), hB.trans hB4⟩
    · have e0 : ((x.f6.length : Int) == 0) = false := by simp; exact fun q => hz (by simp [q])
      have e1 : (x.f6.length == 0) = false := by simp; exact fun q => hz (by simp [q])
      clear hz
      have hh76 := Aside0.mk (fun W => has_any x.f0 76 (by decide) W)
      go_wp2_with (go_at_call 56; ((with_reducible refine (hh76.out _).mono ?_); rintro e w2 ⟨rfl, ⟨n, rfl⟩⟩))
      go_ret
      exact ⟨_, rfl, (fun _ => hp.out), hB.trans (hB4.drewN n)⟩
end Go.Proofs.Ytodjpbidjldblaa.H

/- Layer 1, law10, the checker: may an instruction be? -/
namespace Go.Proofs.Ytodjpbidjldblaa.H
open Go.RowKit Go.Proofs.YtodjpbidjldblaaW.PrintWords Go.Proofs.YtodjpbidjldblaaW.PrintLast Go.Proofs.YtodjpbidjldblaaW.PrintMore
set_option linter.unusedVariables false
set_option linter.unusedSimpArgs false
set_option maxRecDepth 100000
def allUses (x : SIns) : List Int := usesL x ++ (if has x.f0 68 then [x.f1] else [])
theorem insP_of {p : SProg} {f : SFunc} {x : SIns} (hop : partsL x.f0 ≠ []) (hb : (x.f1 = 0 ∨ has x.f0 68) ∧ (x.f2 = 0 ∨ has x.f0 65) ∧ (x.f3 = 0 ∨ has x.f0 66)) (hU : ∀ v ∈ allUses x, 0 ≤ v ∧ v < (f.f0.length : Int)) (hN : ∀ v ∈ nextL x, 1 ≤ v ∧ v < (f.f4.length : Int))
    (hcall : x.f0 = 19 → (0 ≤ x.f4 ∧ x.f4 < p.f0.length) ∧ (x.f6.length : Int) = (fnAt p x.f4.toNat).f2) (halloc : x.f0 = 10 → (0 ≤ x.f4 ∧ x.f4 ≤ 8) ∧ 0 ≤ x.f5 ∧ x.f5 ≤ 8) : InsP p f x := by
  refine ⟨hop, hb.1, hb.2.1, hb.2.2, fun h => hU _ ?_, fun h => hU _ ?_, fun h => hU _ ?_, fun h v hv => hU _ ?_, fun h => ?_, fun h => ?_, hcall, halloc⟩
  · simp [allUses, h]
  · simp [allUses, usesL, h]
  · simp [allUses, usesL, h]
  · simp [allUses, usesL, h, hv]
  · exact hN _ (by simp [nextL, h])
  · have e : nextL x = if x.f4 = x.f5 then [x.f4] else [mn x.f4 x.f5, mx x.f4 x.f5] := by simp [nextL, h]
    rw [e] at hN
    by_cases h2 : x.f4 = x.f5
    · rw [if_pos h2] at hN
      have := hN x.f4 (by simp)
      rw [← h2]
      exact ⟨this, this⟩
    · rw [if_neg h2] at hN
      have h3 := hN (mn x.f4 x.f5) (by simp)
      have h4 := hN (mx x.f4 x.f5) (by simp)
      unfold mn at h3
      unfold mx at h4
      split at h3 <;> split at h4 <;> exact ⟨by omega, by omega⟩
def InsIs (p : SProg) (n : Nat) (x : SIns) (w : World) (e : Ending) (w' : World) : Prop := ∃ b, e = .returned (.bool b) ∧ (b = true → InsP p (fnAt p n) x) ∧ Bel w w'
theorem InsIs.no {p : SProg} {n : Nat} {x : SIns} {w w' : World} (h : Bel w w') : InsIs p n x w (.returned (.bool false)) w' := ⟨false, rfl, (fun q => by cases q), h⟩
set_option maxHeartbeats 8000000 in
theorem Ins_any (p : SProg) (n : Nat) (x : SIns) (PA : Option Addr) (pc : Nat) (A6 : Option Addr) (c6 : Nat) (w : World) (hP : Rd kFunc w PA p.f0) (hn : n < p.f0.length) (hp8 : p.f0.length ≤ 8) (hR6 : RdI w A6 x.f6) (hc6 : x.f6.length ≤ c6) (hl6 : x.f6.length ≤ 100000)
    (h48 : (fnAt p n).f0.length ≤ 48) (h40 : (fnAt p n).f4.length ≤ 40) :
    Calls Try.prog 47 #[.agg #[.slice PA p.f0.length pc], .int .i64 n, insV x A6 c6] w (InsIs p n x w) := by
  obtain ⟨g, hg⟩ : ∃ g, w.heap.size = g := ⟨_, rfl⟩
  have hB := ((Bel.refl w).alloc (.cells #[.slice PA p.f0.length pc] 24)).alloc (.cells #[.int .i64 x.f0, .int .i64 x.f1, .int .i64 x.f2, .int .i64 x.f3, .int .i64 x.f4, .int .i64 x.f5, .slice A6 x.f6.length c6] 57)
  have hbp := heap_old (o' := .cells #[.int .i64 x.f0, .int .i64 x.f1, .int .i64 x.f2, .int .i64 x.f3, .int .i64 x.f4, .int .i64 x.f5, .slice A6 x.f6.length c6] 57) (heap_new' (o := .cells #[.slice PA p.f0.length pc] 24) hg.symm)
  have hx : ((w.alloc (.cells #[.slice PA p.f0.length pc] 24)).alloc (.cells #[.int .i64 x.f0, .int .i64 x.f1, .int .i64 x.f2, .int .i64 x.f3, .int .i64 x.f4, .int .i64 x.f5, .slice A6 x.f6.length c6] 57)).heap[g + 1]? = _ := heap_new' (j := g + 1) (by simp [hg])
  go_enter Try.func47, Try.ntmps47
  go_upto_region 1 with (fail)
  generalize (w.alloc (.cells #[.slice PA p.f0.length pc] 24)).alloc (.cells #[.int .i64 x.f0, .int .i64 x.f1, .int .i64 x.f2, .int .i64 x.f3, .int .i64 x.f4, .int .i64 x.f5, .slice A6 x.f6.length c6] 57) = wa at hB hbp hx ⊢
  replace hg := Aside0.mk hg
  have q1 : (n : Int) < (p.f0.length : Int) := by omega
  have hwi := Aside0.mk (fun n a b W => within_any n a b W)
  have hw0 := Aside0.mk (fun W => hwi.out n 0 ((p.f0.length : Int) - 1) W)
  rw [show decide ((0 : Int) ≤ (n : Int) ∧ (n : Int) ≤ (p.f0.length : Int) - 1) = true from decide_eq_true (by omega)] at hw0
  obtain ⟨s, hps, hse⟩ := Parts_any x.f0 wa
  replace hps := Aside0.mk hps
  have y0 : wa.cell? ⟨g, 0, none⟩ = some (.slice PA p.f0.length pc) := blk_cell hbp 0
  have x0 : wa.cell? ⟨g + 1, 0, none⟩ = some (.int .i64 x.f0) := blk_cell hx 0
  by_cases hop : partsL x.f0 = []
  · obtain rfl := hse.2 hop
    clear hse hop
    go_wp2_with (first | (go_at_call 45; ((with_reducible refine (hw0.out _).mono ?_); rintro e w2 ⟨rfl, rfl⟩)) | (go_at_call 66; ((with_reducible refine hps.out.mono ?_); rintro e w2 ⟨rfl, ⟨nd, rfl⟩⟩)))
    go_ret
    exact .no (hB.drewN nd)
  · have q2 : s.toList.isEmpty = false := (decide_eq_emptyBytes s).symm.trans (decide_eq_false (fun q => hop (hse.1 q)))
    have x1 : ∀ nd, (wa.drewN nd).cell? ⟨g + 1, 1, none⟩ = some (.int .i64 x.f1) := fun nd => blk_cell (((Bel.refl wa).drewN nd).blk hx) 1
    have x2 : ∀ nd, (wa.drewN nd).cell? ⟨g + 1, 2, none⟩ = some (.int .i64 x.f2) := fun nd => blk_cell (((Bel.refl wa).drewN nd).blk hx) 2
    have x3 : ∀ nd, (wa.drewN nd).cell? ⟨g + 1, 3, none⟩ = some (.int .i64 x.f3) := fun nd => blk_cell (((Bel.refl wa).drewN nd).blk hx) 3
    have x4 : ∀ nd, (wa.drewN nd).cell? ⟨g + 1, 4, none⟩ = some (.int .i64 x.f4) := fun nd => blk_cell (((Bel.refl wa).drewN nd).blk hx) 4
    have x5 : ∀ nd, (wa.drewN nd).cell? ⟨g + 1, 5, none⟩ = some (.int .i64 x.f5) := fun nd => blk_cell (((Bel.refl wa).drewN nd).blk hx) 5
    have x6 : ∀ nd, (wa.drewN nd).cell? ⟨g + 1, 6, none⟩ = some (.slice A6 x.f6.length c6) := fun nd => blk_cell (((Bel.refl wa).drewN nd).blk hx) 6
    have x0' : ∀ nd, (wa.drewN nd).cell? ⟨g + 1, 0, none⟩ = some (.int .i64 x.f0) := fun nd => blk_cell (((Bel.refl wa).drewN nd).blk hx) 0
    have hba := Aside0.mk (fun W => bare_any x A6 c6 W)
    have hop := Aside0.mk hop
    clear hse
    go_upto_region 3 with (first | (go_at_call 45; ((with_reducible refine (hw0.out _).mono ?_); rintro e w2 ⟨rfl, rfl⟩)) | (go_at_call 66; ((with_reducible refine hps.out.mono ?_); rintro e w2 ⟨rfl, ⟨nd, rfl⟩⟩)) | (go_at_call 67; ((with_reducible refine (hba.out _).mono ?_); rintro e wb ⟨bb, rfl, hbb, hBb⟩; cases bb)))
    · go_wp2
      go_ret
      exact .no ((hB.drewN nd).trans hBb)
    have hBb := ((Bel.refl wa).drewN nd).trans hBb
    have hbb := Aside0.mk (hbb (by trivial))
    clear x0 x1 x2 x3 x4 x5 x6 x0' y0 hw0 hps hba q2
    have hBw := hB.trans hBb
    have hbp := hBb.blk hbp
    have hx := hBb.blk hx
    have y0 : wb.cell? ⟨g, 0, none⟩ = some (.slice PA p.f0.length pc) := blk_cell hbp 0
    obtain ⟨ad, F0, F1, F4, d0, d1, d4, hPA, u0, u1, u2, u3, u4, r0, r1, r4, l0, l1, l4⟩ := func_at (hP.step hBw) n hn
    have ef : p.f0[n] = fnAt p n := by unfold fnAt; rw [getD_at hn]
    rw [ef] at u0 u1 u2 u3 u4 r0 r1 r4 l0 l1 l4
    rw [hPA] at y0 hbp
    obtain ⟨f, hf⟩ : ∃ f, fnAt p n = f := ⟨_, rfl⟩
    rw [hf] at u0 u1 u2 u3 u4 r0 r1 r4 l0 l1 l4 h48 h40
    obtain ⟨F, hF⟩ : ∃ F, wb.heap.size = F := ⟨_, rfl⟩
    have hBc := (Bel.refl wb).alloc (.cells #[.slice F0 f.f0.length d0, .slice F1 f.f1.length d1, .int .i64 f.f2, .int .i64 f.f3, .slice F4 f.f4.length d4] 52)
    have hbf := heap_new' (o := .cells #[.slice F0 f.f0.length d0, .slice F1 f.f1.length d1, .int .i64 f.f2, .int .i64 f.f3, .slice F4 f.f4.length d4] 52) hF.symm
    replace hPA := Aside0.mk hPA
    replace hf := Aside0.mk hf
    clear ef
    go_upto_region 4 with (fail)
    generalize wb.alloc (.cells #[.slice F0 f.f0.length d0, .slice F1 f.f1.length d1, .int .i64 f.f2, .int .i64 f.f3, .slice F4 f.f4.length d4] 52) = wq at hBc hbf ⊢
    replace hF := Aside0.mk hF
    clear y0 u0 u1 u2 u3 u4
    have hBw := hBw.trans hBc
    have hbp := hBc.blk hbp
    have hx := hBc.blk hx
    have hus := Aside0.mk (Uses_any x A6 c6 wq (hR6.step hBw) hc6 (by omega))
    have hse := Aside0.mk (fun W (q : Bel wq W) => Sets_any x A6 c6 W (hR6.step (hBw.trans q)) hc6)
    have hXX := Aside0.mk (fun W (q : Bel wq W) => And.intro (blk_cell (q.blk hx) 0) (And.intro (blk_cell (q.blk hx) 1) (And.intro (blk_cell (q.blk hx) 2) (And.intro (blk_cell (q.blk hx) 3) (And.intro (blk_cell (q.blk hx) 4) (And.intro (blk_cell (q.blk hx) 5) (blk_cell (q.blk hx) 6)))))))
    obtain ⟨x0, x1, x2, x3, x4, x5, x6⟩ := hXX.out wq (Bel.refl _)
    obtain ⟨us, hue⟩ : ∃ us, usesL x = us := ⟨_, rfl⟩
    have hul : us.length ≤ 200000 := by rw [← hue]; unfold usesL; split <;> split <;> split <;> simp <;> omega
    rw [hue] at hus
    obtain ⟨sd, hsd⟩ : ∃ sd, (if has x.f0 68 then x.f1 else 0) = sd := ⟨_, rfl⟩
    obtain ⟨sb, hsb⟩ : ∃ sb, decide (has x.f0 68) = sb := ⟨_, rfl⟩
    simp only [hsd, hsb] at hse
    have hau : Aside0 (allUses x = us ++ (if sb = true then [sd] else [])) := ⟨by
      unfold allUses
      rw [hue, ← hsb, ← hsd]
      by_cases h : has x.f0 68 <;> simp [h]⟩
    replace hue := Aside0.mk hue
    replace hsd := Aside0.mk hsd
    replace hsb := Aside0.mk hsb
    go_upto_if 44 with (first | (go_at_call 33; ((with_reducible refine hus.out.mono ?_); rintro e wd ⟨vU, rfl, hOU, hBd⟩; obtain ⟨UA, uc, rfl, _, _⟩ := hOU.reads; obtain ⟨x0, x1, x2, x3, x4, x5, x6⟩ := hXX.out wd hBd)) | (go_at_call 57; ((with_reducible refine (hse.out _ hBd).mono ?_); rintro e wf ⟨rfl, hBf⟩)))
    clear x0 x1 x2 x3 x4 x5 x6 hus hse
    have hOU := hOU.step hBf
    have hBf := hBd.trans hBf
    clear hBd
    go_cut [8, 45, 46, 47, 48] (fun v8 _ _ _ _ W => ∃ (l : List Int) (A : Option Addr) (c : Nat), v8 = .slice A l.length c ∧ Aside0 (allUses x = l) ∧ l.length ≤ 300000 ∧ RdI W A l ∧ Bel wq W)
    case first =>
      cases sb with
      | true =>
        go_wp2_with (refine app_int hOU hBf rfl _ _ _ rfl (by omega) rfl rfl ?_; intro v8 w8 hO8 hB8; obtain ⟨A8, c8, rfl, _, hR8⟩ := hO8.reads)
        go_meet
        case rel =>
          have e9 : (us ++ [sd]).length = us.length + 1 := by simp
          exact ⟨us ++ [sd], A8, c8, by rw [e9], hau, by rw [e9]; omega, hR8, hB8⟩
      | false =>
        go_wp2
        go_meet
        case rel =>
          obtain ⟨A8, c8, e8, _, hR8⟩ := hOU.reads
          injection e8 with e81 e82 e83
          subst e81 e83
          exact ⟨us, UA, uc, rfl, ⟨by have := hau.out; simpa using this⟩, by omega, hR8, hBf⟩
    case rest =>
      obtain ⟨l, lA, lc, rfl, hal, hll, hRl, hBg⟩ := hcut
      clear hOU hBf hau
      obtain ⟨nk, hnk⟩ : ∃ nk, f.f0.length = nk := ⟨_, rfl⟩
      obtain ⟨nb, hnb⟩ : ∃ nb, f.f4.length = nb := ⟨_, rfl⟩
      rw [hnk] at h48 hbf
      rw [hnb] at h40 hbf
      replace hnk := Aside0.mk hnk
      replace hnb := Aside0.mk hnb
      go_wp2
      go_loopw [11] (fun i W => ∃ k : Nat, k ≤ l.length ∧ i = .int .i64 k ∧ Aside0 (∀ j < k, 0 ≤ rd l (j : Int) ∧ rd l (j : Int) < (nk : Int)) ∧ Bel wc W) (fun i _ => l.length - (intOf i).toNat)
      case atStart => exact ⟨0, by omega, rfl, ⟨fun j hj => by omega⟩, Bel.refl _⟩
      case round =>
        obtain ⟨k, hk, rfl, hok, hB1⟩ := hrel
        by_cases hlt : k < l.length
        · have p1 : (k : Int) < (l.length : Int) := by omega
          have p0 : (0 : Int) ≤ (k : Int) := by omega
          obtain ⟨aU, e, y1⟩ := rd_atN (hRl.step hB1) k hlt
          subst e
          obtain ⟨t, ht⟩ : ∃ t, rd l (k : Int) = t := ⟨_, rfl⟩
          rw [ht] at y1
          replace ht := Aside0.mk ht
          have z0 : wr.cell? ⟨F, 0, none⟩ = some (.slice F0 nk d0) := blk_cell (hB1.blk (hBg.blk hbf)) 0
          have hwk := Aside0.mk (fun W => hwi.out t 0 ((nk : Int) - 1) W)
          by_cases hin : 0 ≤ t ∧ t ≤ (nk : Int) - 1
          · rw [show decide (0 ≤ t ∧ t ≤ (nk : Int) - 1) = true from decide_eq_true hin] at hwk
            replace hin := Aside0.mk hin
            have e62 : IntKind.i64.wrap ((nk : Int) - 1) = (nk : Int) - 1 := by rw [IntKind.wrap_i64]; omega
            go_upto_region 11 with (fail)
            go_quiet ((go_at_call 45; refine Calls.quiet_of_same ((hwk.out _).mono (fun e w' h => ⟨h.1, h.2.symm⟩))))
            clear e62
            go_wp2
            go_roundw
            case rel =>
              refine ⟨k + 1, by omega, by go_num, ⟨fun j hj => ?_⟩, hB1.drewN _⟩
              rcases Nat.lt_or_ge j k with h | h
              · exact hok.out j h
              · rw [show j = k by omega, ht.out]; have := hin.out; omega
            case measure => simp [intOf]; omega
          · rw [show decide (0 ≤ t ∧ t ≤ (nk : Int) - 1) = false from decide_eq_false hin] at hwk
            clear hin
            have e62 : IntKind.i64.wrap ((nk : Int) - 1) = (nk : Int) - 1 := by rw [IntKind.wrap_i64]; omega
            go_upto_region 11 with (fail)
            go_quiet ((go_at_call 45; refine Calls.quiet_of_same ((hwk.out _).mono (fun e w' h => ⟨h.1, h.2.symm⟩))))
            go_wp2
            go_ret
            exact .no ((hBw.trans (hBg.trans hB1)).drewN _)
        · have p1 : ¬ (k : Int) < (l.length : Int) := by omega
          have hall : Aside0 (∀ v ∈ allUses x, 0 ≤ v ∧ v < (f.f0.length : Int)) := ⟨by
            rw [hal.out, hnk.out]
            intro v hv
            obtain ⟨j, hj, rfl⟩ := List.mem_iff_getElem.1 hv
            have := hok.out j (by omega)
            have e : rd l (j : Int) = l[j] := by simp [rd, List.getD_eq_getElem?_getD, List.getElem?_eq_getElem hj]
            rw [e] at this
            exact this⟩
          have hB2 := hBg.trans hB1
          obtain ⟨x0, x1, x2, x3, x4, x5, x6⟩ := hXX.out wr hB2
          have hnx := Aside0.mk (Next_any x A6 c6 wr (hR6.step (hBw.trans hB2)) hc6)
          obtain ⟨nl, hnl⟩ : ∃ nl, nextL x = nl := ⟨_, rfl⟩
          have hn2 : nl.length ≤ 2 := by rw [← hnl]; exact nextL_len x
          rw [hnl] at hnx
          replace hnl := Aside0.mk hnl
          clear hok hal hRl
          go_wp2_with (go_at_call 68; ((with_reducible refine hnx.out.mono ?_); rintro e wn ⟨vN, rfl, hON, hBn⟩; obtain ⟨NA, cN, rfl, _, hRN⟩ := hON.reads))
          clear x0 x1 x2 x3 x4 x5 x6
          go_loopw [13] (fun i W => ∃ k : Nat, k ≤ nl.length ∧ i = .int .i64 k ∧ Aside0 (∀ j < k, 1 ≤ rd nl (j : Int) ∧ rd nl (j : Int) < (nb : Int)) ∧ Bel wn W) (fun i _ => nl.length - (intOf i).toNat)
          case atStart => exact ⟨0, by omega, rfl, ⟨fun j hj => by omega⟩, Bel.refl _⟩
          case round =>
            obtain ⟨k2, hk2, rfl, hok, hB3⟩ := hrel
            have hB4 := hB2.trans (hBn.trans hB3)
            by_cases hlt2 : k2 < nl.length
            · have p2 : (k2 : Int) < (nl.length : Int) := by omega
              have p0 : (0 : Int) ≤ (k2 : Int) := by omega
              obtain ⟨aN, e, y1⟩ := rd_atN (hRN.step hB3) k2 hlt2
              subst e
              obtain ⟨t, ht⟩ : ∃ t, rd nl (k2 : Int) = t := ⟨_, rfl⟩
              rw [ht] at y1
              replace ht := Aside0.mk ht
              have z4 : wr.cell? ⟨F, 4, none⟩ = some (.slice F4 nb d4) := blk_cell (hB4.blk hbf) 4
              have hwk := Aside0.mk (fun W => hwi.out t 1 ((nb : Int) - 1) W)
              by_cases hin : 1 ≤ t ∧ t ≤ (nb : Int) - 1
              · rw [show decide (1 ≤ t ∧ t ≤ (nb : Int) - 1) = true from decide_eq_true hin] at hwk
                replace hin := Aside0.mk hin
                have e62 : IntKind.i64.wrap ((nb : Int) - 1) = (nb : Int) - 1 := by rw [IntKind.wrap_i64]; omega
                go_upto_region 17 with (fail)
                go_quiet ((go_at_call 45; refine Calls.quiet_of_same ((hwk.out _).mono (fun e w' h => ⟨h.1, h.2.symm⟩))))
                clear e62
                go_wp2
                go_roundw
                case rel =>
                  refine ⟨k2 + 1, by omega, by go_num, ⟨fun j hj => ?_⟩, hB3.drewN _⟩
                  rcases Nat.lt_or_ge j k2 with h | h
                  · exact hok.out j h
                  · rw [show j = k2 by omega, ht.out]; have := hin.out; omega
                case measure => simp [intOf]; omega
              · rw [show decide (1 ≤ t ∧ t ≤ (nb : Int) - 1) = false from decide_eq_false hin] at hwk
                clear hin
                have e62 : IntKind.i64.wrap ((nb : Int) - 1) = (nb : Int) - 1 := by rw [IntKind.wrap_i64]; omega
                go_upto_region 17 with (fail)
                go_quiet ((go_at_call 45; refine Calls.quiet_of_same ((hwk.out _).mono (fun e w' h => ⟨h.1, h.2.symm⟩))))
                go_wp2
                go_ret
                exact .no ((hBw.trans hB4).drewN _)
            · have p2 : ¬ (k2 : Int) < (nl.length : Int) := by omega
              have hnx2 : Aside0 (∀ v ∈ nextL x, 1 ≤ v ∧ v < (f.f4.length : Int)) := ⟨by
                rw [hnl.out, hnb.out]
                intro v hv
                obtain ⟨j, hj, rfl⟩ := List.mem_iff_getElem.1 hv
                have := hok.out j (by omega)
                have e : rd nl (j : Int) = nl[j] := by simp [rd, List.getD_eq_getElem?_getD, List.getElem?_eq_getElem hj]
                rw [e] at this
                exact this⟩
              clear hok hRN
              obtain ⟨x0, x1, x2, x3, x4, x5, x6⟩ := hXX.out wr hB4
              have hBz := hBw.trans hB4
              have hfin := Aside0.mk (fun hcall halloc => (insP_of (p := p) (f := f) hop.out hbb.out hall.out hnx2.out hcall halloc : InsP p f x))
              clear hall hnx2 hXX hbb hop
              obtain ⟨op, hop⟩ : ∃ op, x.f0 = op := ⟨_, rfl⟩
              rw [hop] at x0
              replace hop := Aside0.mk hop
              by_cases h19 : op = 19
              · subst h19
                have y0 : wr.cell? ⟨g, 0, none⟩ = some (.slice (some ad) p.f0.length pc) := blk_cell (hB4.blk hbp) 0
                have hwk := Aside0.mk (fun W => hwi.out x.f4 0 ((p.f0.length : Int) - 1) W)
                obtain ⟨np, hnp⟩ : ∃ np, p.f0.length = np := ⟨_, rfl⟩
                have np8 : np ≤ 8 := by omega
                rw [hnp] at y0 hwk
                by_cases hin : 0 ≤ x.f4 ∧ x.f4 ≤ (np : Int) - 1
                · rw [show decide (0 ≤ x.f4 ∧ x.f4 ≤ (np : Int) - 1) = true from decide_eq_true hin] at hwk
                  obtain ⟨m, hm⟩ : ∃ m : Nat, x.f4 = (m : Int) := ⟨x.f4.toNat, by omega⟩
                  have hml : m < p.f0.length := by omega
                  obtain ⟨ad', _, _, _, _, _, _, e1, _, _, u2, _⟩ := func_at (hP.step hBz) m hml
                  rw [hPA.out] at e1
                  injection e1 with e1
                  subst e1
                  have ef2 : p.f0[m]'hml = fnAt p m := by unfold fnAt; rw [getD_at hml]
                  rw [ef2] at u2
                  obtain ⟨pr, hpr⟩ : ∃ pr, (fnAt p m).f2 = pr := ⟨_, rfl⟩
                  rw [hpr] at u2
                  rw [hm] at x4 hwk
                  have q3 : (m : Int) < (np : Int) := by omega
                  have q4 : (0 : Int) ≤ (m : Int) := by omega
                  obtain ⟨al, hal⟩ : ∃ al, x.f6.length = al := ⟨_, rfl⟩
                  rw [hal] at x6
                  have hgood : Aside0 ((al : Int) = pr → InsP p f x) := ⟨fun q => hfin.out (fun _ => ⟨⟨by omega, by omega⟩, by rw [hm, Int.toNat_natCast, hpr, hal]; exact q⟩) (fun e => by rw [hop.out] at e; exact absurd e (by decide))⟩
                  clear hin hm hpr hal hnp ef2
                  go_upto_region 21 with (fail)
                  have e62 : IntKind.i64.wrap ((np : Int) - 1) = (np : Int) - 1 := by rw [IntKind.wrap_i64]; omega
                  go_quiet ((go_at_call 45; refine Calls.quiet_of_same ((hwk.out _).mono (fun e w' h => ⟨h.1, h.2.symm⟩))))
                  go_wp2
                  go_ret
                  exact ⟨_, rfl, (fun q => by rw [hf.out]; exact hgood.out (by simpa using q)), hBz.drewN _⟩
                · rw [show decide (0 ≤ x.f4 ∧ x.f4 ≤ (np : Int) - 1) = false from decide_eq_false hin] at hwk
                  clear hin hnp
                  go_upto_region 21 with (fail)
                  have e62 : IntKind.i64.wrap ((np : Int) - 1) = (np : Int) - 1 := by rw [IntKind.wrap_i64]; omega
                  go_quiet ((go_at_call 45; refine Calls.quiet_of_same ((hwk.out _).mono (fun e w' h => ⟨h.1, h.2.symm⟩))))
                  go_wp2
                  go_ret
                  exact .no (hBz.drewN _)
              have b19 : (op == 19) = false := by simp [h19]
              by_cases h10 : op = 10
              · subst h10
                have hw1 := Aside0.mk (fun W => hwi.out x.f4 0 8 W)
                have hw2 := Aside0.mk (fun W => hwi.out x.f5 0 8 W)
                by_cases hin : 0 ≤ x.f4 ∧ x.f4 ≤ 8
                · rw [show decide (0 ≤ x.f4 ∧ x.f4 ≤ 8) = true from decide_eq_true hin] at hw1
                  by_cases hin2 : 0 ≤ x.f5 ∧ x.f5 ≤ 8
                  · rw [show decide (0 ≤ x.f5 ∧ x.f5 ≤ 8) = true from decide_eq_true hin2] at hw2
                    have hgood : Aside0 (InsP p f x) := ⟨hfin.out (fun e => by rw [hop.out] at e; exact absurd e (by decide)) (fun _ => ⟨hin, hin2⟩)⟩
                    clear hin hin2
                    go_wp2_with (go_at_call 45; first | ((with_reducible refine (hw1.out _).mono ?_); rintro e w2 ⟨rfl, hq2⟩; obtain rfl := hq2) | ((with_reducible refine (hw2.out _).mono ?_); rintro e w2 ⟨rfl, hq2⟩; obtain rfl := hq2))
                    go_ret
                    exact ⟨_, rfl, (fun q => by rw [hf.out]; exact hgood.out), hBz⟩
                  · rw [show decide (0 ≤ x.f5 ∧ x.f5 ≤ 8) = false from decide_eq_false hin2] at hw2
                    clear hin hin2
                    go_wp2_with (go_at_call 45; first | ((with_reducible refine (hw1.out _).mono ?_); rintro e w2 ⟨rfl, hq2⟩; obtain rfl := hq2) | ((with_reducible refine (hw2.out _).mono ?_); rintro e w2 ⟨rfl, hq2⟩; obtain rfl := hq2))
                    go_ret
                    exact .no hBz
                · rw [show decide (0 ≤ x.f4 ∧ x.f4 ≤ 8) = false from decide_eq_false hin] at hw1
                  clear hin
                  go_wp2_with (go_at_call 45; ((with_reducible refine (hw1.out _).mono ?_); rintro e w2 ⟨rfl, hq2⟩; obtain rfl := hq2))
                  go_ret
                  exact .no hBz
              have b10 : (op == 10) = false := by simp [h10]
              have hgood : Aside0 (InsP p f x) := ⟨hfin.out (fun e => by rw [hop.out] at e; exact absurd e h19) (fun e => by rw [hop.out] at e; exact absurd e h10)⟩
              clear h19 h10 hfin hop
              by_cases h1 : op = 1
              · subst h1
                obtain ⟨b, hb⟩ : ∃ b, decide ((-2147483648) ≤ x.f4 ∧ x.f4 ≤ 2147483648) = b := ⟨_, rfl⟩
                have hw1 := Aside0.mk (fun W => hwi.out x.f4 (-2147483648) 2147483648 W)
                rw [hb] at hw1
                clear hb
                go_wp2_with (go_at_call 45; ((with_reducible refine (hw1.out _).mono ?_); rintro e w2 ⟨rfl, hq2⟩; obtain rfl := hq2))
                go_ret
                exact ⟨_, rfl, (fun q => by rw [hf.out]; exact hgood.out), hBz⟩
              have b1 : (op == 1) = false := by simp [h1]
              clear h1
              by_cases h16 : op = 16
              · subst h16
                obtain ⟨b, hb⟩ : ∃ b, decide ((-8) ≤ x.f4 ∧ x.f4 ≤ 8) = b := ⟨_, rfl⟩
                have hw1 := Aside0.mk (fun W => hwi.out x.f4 (-8) 8 W)
                rw [hb] at hw1
                clear hb
                go_wp2_with (go_at_call 45; ((with_reducible refine (hw1.out _).mono ?_); rintro e w2 ⟨rfl, hq2⟩; obtain rfl := hq2))
                go_ret
                exact ⟨_, rfl, (fun q => by rw [hf.out]; exact hgood.out), hBz⟩
              have b16 : (op == 16) = false := by simp [h16]
              clear h16
              by_cases h11 : op = 11
              · subst h11
                obtain ⟨b, hb⟩ : ∃ b, decide (0 ≤ x.f4 ∧ x.f4 ≤ 7) = b := ⟨_, rfl⟩
                have hw1 := Aside0.mk (fun W => hwi.out x.f4 0 7 W)
                rw [hb] at hw1
                clear hb
                go_wp2_with (go_at_call 45; ((with_reducible refine (hw1.out _).mono ?_); rintro e w2 ⟨rfl, hq2⟩; obtain rfl := hq2))
                go_ret
                exact ⟨_, rfl, (fun q => by rw [hf.out]; exact hgood.out), hBz⟩
              have b11 : (op == 11) = false := by simp [h11]
              clear h11
              by_cases h12 : op = 12
              · subst h12
                obtain ⟨b, hb⟩ : ∃ b, decide (0 ≤ x.f4 ∧ x.f4 ≤ 7) = b := ⟨_, rfl⟩
                have hw1 := Aside0.mk (fun W => hwi.out x.f4 0 7 W)
                rw [hb] at hw1
                clear hb
                go_wp2_with (go_at_call 45; ((with_reducible refine (hw1.out _).mono ?_); rintro e w2 ⟨rfl, hq2⟩; obtain rfl := hq2))
                go_ret
                exact ⟨_, rfl, (fun q => by rw [hf.out]; exact hgood.out), hBz⟩
              have b12 : (op == 12) = false := by simp [h12]
              clear h12
              by_cases h13 : op = 13
              · subst h13
                obtain ⟨b, hb⟩ : ∃ b, decide (0 ≤ x.f4 ∧ x.f4 ≤ 7) = b := ⟨_, rfl⟩
                have hw1 := Aside0.mk (fun W => hwi.out x.f4 0 7 W)
                rw [hb] at hw1
                clear hb
                go_wp2_with (go_at_call 45; ((with_reducible refine (hw1.out _).mono ?_); rintro e w2 ⟨rfl, hq2⟩; obtain rfl := hq2))
                go_ret
                exact ⟨_, rfl, (fun q => by rw [hf.out]; exact hgood.out), hBz⟩
              have b13 : (op == 13) = false := by simp [h13]
              clear h13
              by_cases h14 : op = 14
              · subst h14
                obtain ⟨b, hb⟩ : ∃ b, decide (0 ≤ x.f4 ∧ x.f4 ≤ 7) = b := ⟨_, rfl⟩
                have hw1 := Aside0.mk (fun W => hwi.out x.f4 0 7 W)
                rw [hb] at hw1
                clear hb
                go_wp2_with (go_at_call 45; ((with_reducible refine (hw1.out _).mono ?_); rintro e w2 ⟨rfl, hq2⟩; obtain rfl := hq2))
                go_ret
                exact ⟨_, rfl, (fun q => by rw [hf.out]; exact hgood.out), hBz⟩
              have b14 : (op == 14) = false := by simp [h14]
              clear h14
              by_cases h15 : op = 15
              · subst h15
                obtain ⟨b, hb⟩ : ∃ b, decide (0 ≤ x.f4 ∧ x.f4 ≤ 7) = b := ⟨_, rfl⟩
                have hw1 := Aside0.mk (fun W => hwi.out x.f4 0 7 W)
                rw [hb] at hw1
                clear hb
                go_wp2_with (go_at_call 45; ((with_reducible refine (hw1.out _).mono ?_); rintro e w2 ⟨rfl, hq2⟩; obtain rfl := hq2))
                go_ret
                exact ⟨_, rfl, (fun q => by rw [hf.out]; exact hgood.out), hBz⟩
              have b15 : (op == 15) = false := by simp [h15]
              clear h15
              go_wp2
              go_ret
              exact ⟨_, rfl, (fun q => by rw [hf.out]; exact hgood.out), hBz⟩
end Go.Proofs.Ytodjpbidjldblaa.H
