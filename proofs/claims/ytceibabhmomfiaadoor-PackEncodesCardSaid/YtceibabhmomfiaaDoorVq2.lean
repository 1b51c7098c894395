/- The plain side of layer 1: lists. -/
import Derived.Test.YtceibabhmomfiaaDoorVq
import Derived.Test.YtceibabhmomfiaaDoorVi
namespace Go.Proofs.YtceibabhmomfiaaDoor.H
open Go Go.RowKit Go.Proofs.YtceibabhmomfiaaDoorW.PrintWords
set_option linter.unusedVariables false

theorem digs_bytes (n : Nat) : ∀ u : Int, 0 ≤ u → u < 128 ^ (n + 1) → ∀ x ∈ digs n u, 0 ≤ x ∧ x ≤ 255 := by
  induction n with
  | zero => intro u h0 h1 x hx; simp [digs] at hx; omega
  | succ n ih =>
    intro u h0 h1 x hx
    by_cases h : 128 ≤ u
    · rw [digs_great n u h] at hx
      rcases List.mem_cons.1 hx with rfl | hx
      · omega
      · exact ih (u / 128) (by omega) (by rw [Int.pow_succ] at h1; omega) x hx
    · rw [digs_small _ u (by omega)] at hx
      simp at hx
      omega
theorem putL_bytes (n : Int) (h : n ≤ 9223372036854775807) : ∀ x ∈ putL n, 0 ≤ x ∧ x ≤ 255 := by
  unfold putL
  split
  · simp
  · exact digs_bytes 9 n (by omega) (by omega)
theorem listL_bytes (l : List Int) (h : ∀ x ∈ l, -9223372036854775808 ≤ x ∧ x ≤ 9223372036854775807) : ∀ x ∈ listL l, 0 ≤ x ∧ x ≤ 255 := by
  intro x hx
  obtain ⟨y, hy, hxy⟩ := List.mem_flatten.1 hx
  obtain ⟨n, hn, rfl⟩ := List.mem_map.1 hy
  exact putL_bytes n (h n hn).2 x hxy
theorem listL_cons (x : Int) (r : List Int) : listL (x :: r) = putL x ++ listL r := by simp [listL]
theorem split_list (l : List Int) : ∀ (f : Nat) (out : List Int), (∀ x ∈ l, -9223372036854775808 ≤ x ∧ x ≤ 9223372036854775807) → (listL l).length < f → splitGo f (listL l) out = (out ++ l.filter (fun x => decide (0 ≤ x)), 0) := by
  induction l with
  | nil =>
    intro f out _ hf
    obtain ⟨f, rfl⟩ : ∃ g, f = g + 1 := ⟨f - 1, by omega⟩
    simp [listL, splitGo]
  | cons x r ih =>
    intro f out h hf
    have hx := h x List.mem_cons_self
    have hr := fun y hy => h y (List.mem_cons_of_mem x hy)
    rw [listL_cons] at hf ⊢
    by_cases h0 : 0 ≤ x
    · have e : putL x = digs 9 x := if_neg (by omega)
      have hd := (digs_len 9 x).1
      rw [e, List.length_append] at hf
      obtain ⟨f, rfl⟩ : ∃ g, f = g + 1 := ⟨f - 1, by omega⟩
      rw [e, splitGo, if_neg (fun c => by rw [List.append_eq_nil_iff] at c; rw [c.1] at hd; simp at hd), get_put x (listL r) h0 hx.2]
      simp only [ne_eq, not_true_eq_false, if_false, Int.toNat_natCast]
      rw [List.drop_left, ih f _ hr (by omega), List.filter_cons, if_pos (by simpa using h0)]
      simp
    · rw [show putL x = [] from if_pos (by omega), List.nil_append] at hf ⊢
      rw [ih f out hr hf, List.filter_cons, if_neg (by simpa using h0)]
end Go.Proofs.YtceibabhmomfiaaDoor.H
