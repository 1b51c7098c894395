/- Plain: what is laid are bytes. -/
import Derived.Test.YtijdmnjkiiemlaaDoorCc4
import Derived.Test.YtijdmnjkiiemlaaDoorVq2
namespace Go.Proofs.YtijdmnjkiiemlaaDoor.H
open Go.RowKit Go.Proofs.YtijdmnjkiiemlaaDoorW.PrintWords
set_option linter.unusedVariables false
set_option linter.unusedSimpArgs false

theorem ByL.app {a b : List Int} (h : ByL a) (k : ByL b) : ByL (a ++ b) := fun x hx => (List.mem_append.1 hx).elim (h x) (k x)
theorem ByL.flat {α : Type} {l : List α} {f : α → List Int} (h : ∀ a ∈ l, ByL (f a)) : ByL (l.flatMap f) := fun x hx => by
  obtain ⟨a, ha, hx⟩ := List.mem_flatMap.1 hx
  exact h a ha x hx
theorem by_put {n : Int} (h : NumP n) : ByL (putL n) := fun x hx => putL_bytes n h.2 x hx
theorem by_zz {n : Int} (h : IntP n) : ByL (digs 9 (zz n)) := fun x hx => digs_bytes 9 (zz n) (zz_ge n) (by have := zz_le n h.1 h.2; omega) x hx
theorem by_let {x : SIns} {c : Int} (h : okLet c x) : ByL (letL x c) := by
  unfold okLet at h
  unfold letL
  split
  · rename_i h1; rw [if_pos h1] at h; exact by_zz h
  · rename_i h1
    rw [if_neg h1] at h
    split
    · rename_i h2
      rw [if_pos h2] at h
      refine (by_put ⟨by omega, by have := h.1; omega⟩).app ?_
      unfold listL
      rw [← List.flatMap_def]
      exact ByL.flat fun a ha => by_put (h.2 a ha)
    · rename_i h2; rw [if_neg h2] at h; exact by_put h
theorem ins_let {x : SIns} (h : InsP x) : ∀ c ∈ partsL x.f0, okLet c x := fun c hc => by
  have hb := h.bad
  unfold insBad at hb
  simp only [Bool.or_eq_false_iff] at hb
  have hl := (List.any_eq_false.1 hb.2.2) c hc
  unfold letBad at hl
  unfold okLet
  split
  · exact h.ok.f4
  · rename_i h1
    rw [if_neg h1] at hl
    split
    · rename_i h2
      rw [if_pos h2] at hl
      have h19 : x.f0 = 19 := by
        subst h2
        rcases parts_cases x.f0 with h0 | ⟨h0, h1, ⟨h19, h0 | h0 | h0 | h0 | h0 | h0 | h0 | h0 | h0 | h0 | h0 | h0⟩ | h19⟩
        all_goals first | exact h19 | (rw [h0] at hc; simp at hc)
      have hf := h.few
      unfold longB at hf
      rw [h19] at hf
      refine ⟨by simpa using hf, fun a ha => ?_⟩
      simp only [Bool.not_eq_true, List.any_eq_false] at hl
      have := hl a ha
      unfold negB at this
      exact ⟨by simpa using this, (h.ok.f6 a ha).2⟩
    · rename_i h2
      rw [if_neg h2] at hl
      unfold negB at hl
      exact ⟨by simpa using hl, (fld_ok h.ok c).2⟩
theorem by_ins {x : SIns} (h : InsP x) : ByL (insL x) := by
  have hb := h.bad
  unfold insBad negB at hb
  simp only [Bool.or_eq_false_iff, decide_eq_false_iff_not] at hb
  exact (by_put ⟨by have := hb.2.1; omega, h.ok.f0.2⟩).app (ByL.flat fun c hc => by_let (ins_let h c hc))
theorem by_fn {f : SFunc} (h : FnP f) : ByL (fnL f) := by
  have hn : ∀ n : Nat, n ≤ 48 → ByL (putL (n : Int)) := fun n hn => by_put ⟨by omega, by omega⟩
  unfold fnL headL listL
  rw [kbsL_zip _ _ h.len]
  refine (((hn _ h.l0).app (ByL.flat fun a ha => ?_)).app ?_).app (ByL.flat fun b hb => ?_)
  · have := h.ks a ha
    unfold kbL
    refine (by_put this.1.1).app ?_
    split
    · rename_i h2; have h3 := this.2; rw [if_pos h2] at h3; exact by_put h3
    · exact fun x hx => by cases hx
  · rw [← List.flatMap_def]
    refine ByL.flat fun a ha => ?_
    rcases List.mem_cons.1 ha with rfl | ha
    · exact by_put h.f2
    · rcases List.mem_cons.1 ha with rfl | ha
      · exact by_put h.f3
      · rw [List.mem_singleton.1 ha]
        exact hn _ (by have := h.l4; omega)
  · exact (hn _ (by have := (h.bl b hb).1; omega)).app (ByL.flat fun x hx => by_ins ((h.bl b hb).2 x hx))
theorem enc_by {l : List SFunc} (hi : ∀ f ∈ l, FuncIn f) (h : encE l = 0) : ByL (encL l) := by
  obtain ⟨h1, h2⟩ := enc_ok hi h
  rw [h2]
  exact (by_put ⟨by omega, by have := h1.1.2; omega⟩).app (ByL.flat fun f hf => by_fn (h1.2 f hf))
end Go.Proofs.YtijdmnjkiiemlaaDoor.H
