/- Plain: how long charts' bytes are, and that they are bytes. -/
import Derived.Test.YtceibabhmomfiaaDoorQc
import Derived.Test.YtceibabhmomfiaaDoorVi
import Derived.Test.YtceibabhmomfiaaDoorVq2
namespace Go.Proofs.YtceibabhmomfiaaDoor.H
open Go.RowKit
set_option linter.unusedVariables false
set_option linter.unusedSimpArgs false

theorem growS_len {α : Type} {s : List α → α → List Int} {K : Nat} {l : List α} : ∀ pre, (∀ xs, ∀ x ∈ l, (s xs x).length ≤ K) → (growS s pre l).length ≤ K * l.length := by
  induction l with
  | nil => intro pre _; simp [growS]
  | cons x xs ih =>
    intro pre h
    have h1 := h pre x (by simp)
    have h2 := ih (pre ++ [x]) (fun ys y hy => h ys y (List.mem_cons_of_mem _ hy))
    simp only [growS, List.length_append, List.length_cons, Nat.mul_add]
    omega
theorem slots_len (rs : List SLoc) : (slotsOf rs).length ≤ rs.length := by
  induction rs with
  | nil => simp [slotsOf]
  | cons x xs ih => unfold slotsOf; split <;> simp <;> omega
theorem refsS_len (rs : List SLoc) : (refsS rs).length ≤ 20 + 10 * rs.length := by
  have h1 := putL_len (maskOf rs)
  have h2 := putL_len (slotsOf rs).length
  have h3 := growS_len (s := fun xs k => putL (k - lastI xs)) (K := 10) (l := slotsOf rs) [] (fun xs x _ => putL_len _)
  have h4 := slots_len rs
  unfold refsS stepsL
  simp only [List.length_append]
  omega
theorem flat_len {α : Type} {s : α → List Int} {K : Nat} {l : List α} (h : ∀ x ∈ l, (s x).length ≤ K) : (l.flatMap s).length ≤ K * l.length := by
  rw [← growS_flat s l []]
  exact growS_len [] (fun _ => h)
theorem dersS_len (ds : List SPair) : (dersS ds).length ≤ 10 + 20 * ds.length := by
  have h1 := putL_len ds.length
  have h2 := flat_len (s := pairS) (K := 20) (l := ds) (fun d _ => by have h1 := putL_len (nOf d.f0); have h2 := putL_len (nOf d.f1); unfold pairS; simp only [List.length_append]; omega)
  unfold dersS
  simp only [List.length_append]
  omega
theorem chartS_len {c : SChart} (h : ChartP c) (last : Int) : (chartS last c).length ≤ 6000 := by
  have h1 := putL_len (c.f0 - last)
  have h2 := refsS_len c.f1
  have h3 := dersS_len c.f2
  have h4 := h.refs.few
  have h5 := h.ders.few
  unfold chartS
  simp only [List.length_append]
  omega
theorem encC_len {l : List SChart} (h : RightP l) : (encC l).length ≤ 12000010 := by
  have h1 := putL_len l.length
  have h2 := growS_len (s := fun xs c => chartS (lastA xs) c) (K := 6000) (l := l) [] (fun xs c hc => chartS_len (h.all c hc) _)
  have h3 := h.few
  unfold encC chartsS
  simp only [List.length_append]
  omega
theorem by_put {n : Int} (h : n ≤ 9223372036854775807) : ByL (putL n) := fun x hx => putL_bytes n h x hx
theorem growS_by {α : Type} {s : List α → α → List Int} {P : List α → α → Prop} {l : List α} (h : ∀ xs x, P xs x → ByL (s xs x)) : ∀ pre, growP P pre l → ByL (growS s pre l) := by
  induction l with
  | nil => intro pre _ x hx; cases hx
  | cons x xs ih => intro pre hp; exact (h _ _ hp.1).app (ih _ hp.2)
theorem mask_ok {rs : List SLoc} (h : RefsP rs) : 0 ≤ maskOf rs ∧ maskOf rs < 4294967296 := by
  obtain ⟨ns, ks, rfl, h1, h2, h3, h4⟩ := h.split
  obtain ⟨h5, h6⟩ := regs_bits ns 32 h1 h2
  rw [maskOf_app, (mask_slots ks).1, (mask_regs ns).1]
  obtain ⟨S, hS⟩ : ∃ S, (ns.map fun i => 2 ^ i).sum = S := ⟨_, rfl⟩
  rw [hS] at h5 ⊢
  omega
theorem slots_ok {rs : List SLoc} (h : RefsP rs) : Rise (· < ·) (slotsOf rs) ∧ ∀ k ∈ slotsOf rs, 0 ≤ k ∧ k < 160 := by
  obtain ⟨ns, ks, rfl, h1, h2, h3, h4⟩ := h.split
  have e : slotsOf ((ns.map fun (i : Nat) => (⟨1, (i : Int)⟩ : SLoc)) ++ ks.map (fun k => ⟨2, k⟩)) = ks := by rw [slotsOf_app, (mask_slots ks).2, (mask_regs ns).2]; rfl
  rw [e]
  exact ⟨h3, h4⟩
theorem grow_near {l : List Int} (h : Rise (· < ·) l ∧ ∀ k ∈ l, 0 ≤ k ∧ k < 160) : growP (fun ys y => y - lastI ys ≤ 9223372036854775807) [] l := by
  refine growP_mono (P := fun ys y => (∀ z, ys.getLast? = some z → 0 ≤ z) ∧ y < 160) (fun ys y hy => ?_) [] ?_
  · have : -1 ≤ lastI ys := by
      cases hl : ys.getLast? with
      | none => unfold lastI; rw [hl]; decide
      | some z => rw [lastI_of hl]; have := hy.1 z hl; omega
    have := hy.2
    omega
  · refine (growP_and []).2 ⟨grows_of_rise (R := fun z _ => 0 ≤ z) (fun i hi => (h.2 _ (List.getElem_mem _)).1), (growP_all []).2 fun x hx => (h.2 x hx).2⟩
theorem refsS_by {rs : List SLoc} (h : RefsP rs) : ByL (refsS rs) := by
  have h1 := mask_ok h
  have h2 := h.few
  have h3 := slots_len rs
  exact (by_put (by omega)).app ((by_put (by omega)).app (growS_by (fun xs x hx => by_put hx) [] (grow_near (slots_ok h))))
theorem dersS_by {rs : List SLoc} {ds : List SPair} (hr : RefsP rs) (h : DersP rs ds) : ByL (dersS ds) := by
  have h1 := h.few
  refine (by_put (by omega)).app (ByL.flat fun d hd => ?_)
  have h2 := h.may d hd
  exact (by_put (locN_nOf h2.1).2.1.2).app (by_put (locN_nOf (hr.may _ h2.2.2)).2.1.2)
theorem encC_by {l : List SChart} (h : RightP l) (hm : ∀ c ∈ l, c.f0 ≤ mx) : ByL (encC l) := by
  have h1 := h.few
  have hr : Rise (fun (z _ : SChart) => 0 ≤ z.f0) l := fun i hi => by
    have h8 : 1 ≤ (l[i]'(by omega)).f0 := ChartP.addr (h.all _ (List.getElem_mem _))
    exact Int.le_trans (by decide) h8
  refine (by_put (by omega)).app ?_
  refine growS_by (P := fun xs c => (∀ z, xs.getLast? = some z → 0 ≤ z.f0) ∧ (ChartP c ∧ c.f0 ≤ mx)) (fun xs c hc => ?_) [] ((growP_and []).2 ⟨grows_of_rise hr, (growP_all []).2 fun x hx => ⟨h.all x hx, hm x hx⟩⟩)
  have : 0 ≤ lastA xs := by
    cases hl : xs.getLast? with
    | none => unfold lastA; rw [hl]; decide
    | some z => rw [lastA_of hl]; exact hc.1 z hl
  have h2 := hc.2.2
  unfold mx at h2
  exact (by_put (by omega)).app ((refsS_by hc.2.1.refs).app (dersS_by hc.2.1.refs hc.2.1.ders))
theorem encC_pos {l : List SChart} : 0 < (encC l).length := by
  have : 1 ≤ (putL (l.length : Int)).length := by rw [putL_pos (by omega)]; exact (digs_len 9 _).1
  unfold encC
  rw [List.length_append]
  omega
end Go.Proofs.YtceibabhmomfiaaDoor.H
