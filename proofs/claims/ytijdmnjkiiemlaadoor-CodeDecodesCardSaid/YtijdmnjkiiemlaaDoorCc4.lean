/- Plain: a program that is encoded is one that may be laid, and the other way round. -/
import Derived.Test.YtijdmnjkiiemlaaDoorCc3
namespace Go.Proofs.YtijdmnjkiiemlaaDoor.H
open Go.RowKit Go.Proofs.YtijdmnjkiiemlaaDoorW.PrintWords
set_option linter.unusedVariables false
set_option linter.unusedSimpArgs false

theorem kbsBad_zip (a b : List Int) (h : b.length = a.length) : kbsBad a b a.length = (a.zip b).any fun x => kbBad x.1 x.2 := by
  have : ∀ n, n ≤ a.length → kbsBad a b n = ((a.zip b).take n).any fun x => kbBad x.1 x.2 := by
    intro n
    induction n with
    | zero => intro _; simp [kbsBad]
    | succ n ih =>
      intro hn
      have hz : n < (a.zip b).length := by rw [(zip_lists a b h).2.2]; omega
      rw [kbsBad_snoc, ih (by omega), List.take_succ_eq_append_getElem hz, List.any_append]
      congr 1
      simp only [List.any_cons, List.any_nil, Bool.or_false, List.getElem_zip]
      have e0 : rd a (n : Int) = a[n] := by simp [rd, List.getD_eq_getElem?_getD, List.getElem?_eq_getElem (show n < a.length by omega)]
      have e1 : rd b (n : Int) = b[n] := by simp [rd, List.getD_eq_getElem?_getD, List.getElem?_eq_getElem (show n < b.length by omega)]
      rw [e0, e1]
  rw [this a.length (Nat.le_refl _), List.take_of_length_le (by rw [(zip_lists a b h).2.2]; exact Nat.le_refl _)]
theorem kind_iff {a : Int × Int} (h0 : IntP a.1) (h1 : IntP a.2) : kbBad a.1 a.2 = false ↔ KindP a := by
  unfold kbBad KindP negB NumP
  unfold IntP at h0 h1
  by_cases h : a.1 = 2
  · simp [h]; omega
  · simp [h]; omega
theorem zip_mem {a b : List Int} {x : Int × Int} (h : x ∈ a.zip b) : x.1 ∈ a ∧ x.2 ∈ b := by
  obtain ⟨p, q⟩ := x
  exact ⟨(List.of_mem_zip h).1, (List.of_mem_zip h).2⟩
theorem fn_ok {f : SFunc} (hi : FuncIn f) (hc : countsB f = true) (hb : fBad f = false) : FnP f := by
  unfold fBad fnBad at hb
  simp only [Bool.or_eq_false_iff, bne_eq_false_iff_eq] at hb
  obtain ⟨hl, ⟨hk, h2, h3⟩, h4⟩ := hb
  have ho := hi.ok hc
  unfold countsB at hc
  simp only [Bool.and_eq_true, decide_eq_true_eq, List.all_eq_true] at hc
  rw [kbsBad_zip _ _ hl] at hk
  unfold negB at h2 h3
  simp only [decide_eq_false_iff_not] at h2 h3
  refine ⟨hl, hc.1, fun a ha => ?_, ⟨by omega, hi.f2.2⟩, ⟨by omega, hi.f3.2⟩, hc.2.1, fun b hbm => ⟨ho.lb b hbm, fun x hx => ⟨hi.f4 b hbm x hx, ?_, ?_⟩⟩⟩
  · have := (List.any_eq_false.1 hk) a ha
    exact (kind_iff (hi.f0 _ (zip_mem ha).1) (hi.f1 _ (zip_mem ha).2)).1 (by simpa using this)
  · have := (List.any_eq_false.1 h4) b hbm
    unfold blockBad at this
    simp only [Bool.not_eq_true, List.any_eq_false] at this
    simpa using this x hx
  · have := hc.2.2 b hbm
    unfold blockB at this
    simp only [Bool.and_eq_true, Bool.not_eq_true', List.any_eq_false] at this
    simpa using this.2 x hx
theorem fn_in {f : SFunc} (h : FnP f) : FuncIn f ∧ countsB f = true ∧ fBad f = false := by
  obtain ⟨z1, z2, z3⟩ := zip_lists f.f0 f.f1 h.len
  have hk : ∀ a ∈ f.f0.zip f.f1, IntP a.1 ∧ IntP a.2 := fun a ha => by
    have := h.ks a ha
    unfold KindP NumP at this
    unfold IntP
    obtain ⟨h1, h2⟩ := this
    by_cases h0 : a.1 = 2
    · rw [if_pos h0] at h2; omega
    · rw [if_neg h0] at h2; omega
  refine ⟨⟨fun a ha => ?_, fun a ha => ?_, ⟨by have := h.f2.1; omega, h.f2.2⟩, ⟨by have := h.f3.1; omega, h.f3.2⟩, fun b hb x hx => ((h.bl b hb).2 x hx).ok⟩, ?_, ?_⟩
  · rw [← z1] at ha
    obtain ⟨p, hp, rfl⟩ := List.mem_map.1 ha
    exact (hk p hp).1
  · rw [← z2] at ha
    obtain ⟨p, hp, rfl⟩ := List.mem_map.1 ha
    exact (hk p hp).2
  · unfold countsB blockB
    simp only [Bool.and_eq_true, decide_eq_true_eq, List.all_eq_true, Bool.not_eq_true', List.any_eq_false]
    exact ⟨h.l0, h.l4, fun b hb => ⟨(h.bl b hb).1, fun x hx => by rw [((h.bl b hb).2 x hx).few]; decide⟩⟩
  · unfold fBad fnBad blockBad
    simp only [Bool.or_eq_false_iff, bne_eq_false_iff_eq, List.any_eq_false]
    refine ⟨h.len, ⟨?_, ?_, ?_⟩, fun b hb => by simp only [Bool.not_eq_true, List.any_eq_false]; exact fun x hx => by rw [((h.bl b hb).2 x hx).bad]⟩
    · rw [kbsBad_zip _ _ h.len, List.any_eq_false]
      exact fun a ha => by rw [(kind_iff (hk a ha).1 (hk a ha).2).2 (h.ks a ha)]; decide
    · exact decide_eq_false (by have := h.f2.1; omega)
    · exact decide_eq_false (by have := h.f3.1; omega)
theorem enc_ok {l : List SFunc} (hi : ∀ f ∈ l, FuncIn f) (h : encE l = 0) : ProgP l ∧ encL l = progL l := by
  have hL : encL l = progL l := by unfold encL; rw [if_pos h]; rfl
  unfold encE at h
  split at h
  · exact absurd h (by decide)
  · rename_i h1
    split at h
    · exact absurd h (by decide)
    · rename_i h2
      unfold limB at h1
      simp only [Bool.or_eq_true, decide_eq_true_eq, not_or, List.any_eq_true, not_exists, not_and, Bool.not_eq_true, Bool.not_eq_true', Bool.not_eq_false', Bool.not_eq_false] at h1 h2
      exact ⟨⟨⟨by omega, by omega⟩, fun f hf => fn_ok (hi f hf) (h1.2 f hf) (h2 f hf)⟩, hL⟩
theorem enc_of {l : List SFunc} (h : ProgP l) : (∀ f ∈ l, FuncIn f) ∧ encE l = 0 ∧ encL l = progL l := by
  have he : encE l = 0 := by
    unfold encE limB
    rw [if_neg, if_neg]
    · simp only [List.any_eq_true, not_exists, not_and]
      exact fun f hf => by rw [(fn_in (h.2 f hf)).2.2]; decide
    · simp only [Bool.or_eq_true, decide_eq_true_eq, List.any_eq_true, not_or, not_exists, not_and]
      exact ⟨⟨by have := h.1.1; omega, by have := h.1.2; omega⟩, fun f hf => by rw [(fn_in (h.2 f hf)).2.1]; decide⟩
  exact ⟨fun f hf => (fn_in (h.2 f hf)).1, he, by unfold encL; rw [if_pos he]; rfl⟩
/-- what is encoded is decoded as it was -/
theorem dec_enc {l : List SFunc} (hi : ∀ f ∈ l, FuncIn f) (h : encE l = 0) : decE (encL l) = 0 ∧ decL (encL l) = l := by
  obtain ⟨h1, h2⟩ := enc_ok hi h
  rw [h2]
  exact prog_back h1
/-- what is decoded has just those bytes -/
theorem enc_dec {b : List Int} (hb : ByL b) (h : decE b = 0) : encE (decL b) = 0 ∧ encL (decL b) = b := by
  obtain ⟨h1, h2⟩ := prog_just hb h
  obtain ⟨_, h3, h4⟩ := enc_of h1
  exact ⟨h3, h4.trans h2⟩
theorem dec_tail {l : List SFunc} (hi : ∀ f ∈ l, FuncIn f) (h : encE l = 0) (m : List Int) (hm : m ≠ []) : decE (encL l ++ m) = 11 := by
  obtain ⟨h1, h2⟩ := enc_ok hi h
  rw [h2]
  exact prog_tail h1 m hm
theorem dec_cut {l : List SFunc} (hi : ∀ f ∈ l, FuncIn f) (h : encE l = 0) (k : Nat) (hk : k < (encL l).length) : decE ((encL l).take k) = 2 := by
  obtain ⟨h1, h2⟩ := enc_ok hi h
  rw [h2] at hk ⊢
  exact prog_cut h1 _ ((progL l).drop k) (List.take_append_drop k _).symm (fun e => by have := congrArg List.length e; simp at this; omega)
theorem enc_once {l m : List SFunc} (hl : ∀ f ∈ l, FuncIn f) (hm : ∀ f ∈ m, FuncIn f) (h : encE l = 0) (h' : encE m = 0) : encL l = encL m ↔ l = m := by
  constructor
  · intro e
    rw [← (dec_enc hl h).2, e, (dec_enc hm h').2]
  · rintro rfl; rfl
theorem encL_pos {l : List SFunc} (h : encE l = 0) : 0 < (encL l).length := by
  unfold encL
  rw [if_pos h, List.length_append, putL_pos (by omega)]
  have := (digs_len 9 (l.length : Int)).1
  omega
theorem encL_len {l : List SFunc} (hi : ∀ f ∈ l, FuncIn f) : (encL l).length ≤ 2000000000 := by
  unfold encL
  split
  · rename_i h
    obtain ⟨⟨⟨h1, h2⟩, h3⟩, _⟩ := enc_ok hi h
    have e : ∀ m : List SFunc, (∀ f ∈ m, FuncOk f) → (m.flatMap fnL).length ≤ 150000000 * m.length := by
      intro m
      induction m with
      | nil => intro _; simp
      | cons a m ih =>
        intro hm
        have := ih (fun f hf => hm f (by simp [hf]))
        have := fnL_len (hm a (by simp))
        simp only [List.flatMap_cons, List.length_append, List.length_cons]
        omega
    have := e l (fun f hf => (fn_in (h3 f hf)).1.ok (fn_in (h3 f hf)).2.1)
    have := putL_len (l.length : Int)
    rw [List.length_append]
    omega
  · simp
end Go.Proofs.YtijdmnjkiiemlaaDoor.H
