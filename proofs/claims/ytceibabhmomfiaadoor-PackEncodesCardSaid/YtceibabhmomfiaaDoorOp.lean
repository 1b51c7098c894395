/- Words of this work: an argument of any shape, opened as a list of plain values. -/
import Derived.Test.YtceibabhmomfiaaDoorBa
import Derived.Deep.Slices
import Derived.SizedLaws
import Derived.ChangeArms
namespace Go.Proofs.YtceibabhmomfiaaDoor.H
open Go.RowKit Go.Proofs.YtceibabhmomfiaaDoorW.PrintWords Go.ChangeShapes Go.WideShapes Go.Deep
set_option linter.unusedVariables false
set_option linter.unusedSimpArgs false

section
variable {H : Type} {enc : TypeId × Value → H} {P : Program} {W : World}
/-- what reads as data of type t is a value of this kind -/
def Opens {H : Type} (enc : TypeId × Value → H) (P : Program) (W : World) {α : Type} (d : Kd α) (t : TypeId) (ok : α → Prop) : Prop :=
  ∀ (fuel : Nat) (cs : List Value) (x : DataW H × List MemPlace), DataW.trod enc P W 0 (fun _ => true) true fuel t cs = some x → (x.1.weights P t).all (· ≤ reachBytes) = true → ∃ a, d.K W a cs ∧ ok a
theorem Opens.mono {α : Type} {d : Kd α} {t : TypeId} {ok ok' : α → Prop} (h : Opens enc P W d t ok) (hk : ∀ a, ok a → ok' a) : Opens enc P W d t ok' := fun fuel cs x hx hw => by
  obtain ⟨a, h1, h2⟩ := h fuel cs x hx hw
  exact ⟨a, h1, hk a h2⟩
theorem Opens.int {t : TypeId} {k : IntKind} (ht : P.underlying t = some (.int k)) : Opens enc P W (Kd.int k) t (fun a => (Lit.int k a).wf = true) := fun fuel cs x hx _ => by
  obtain ⟨n, rfl, _, hw⟩ := DataW.trod_int ht hx
  exact ⟨n, rfl, hw⟩
theorem Opens.bool {t : TypeId} (ht : P.underlying t = some .bool) : Opens enc P W Kd.bool t (fun _ => True) := fun fuel cs x hx _ => by
  obtain ⟨b, rfl, _⟩ := DataW.trod_bool ht hx
  exact ⟨b, rfl, trivial⟩
theorem weightsAll_mem {e : TypeId} : ∀ {l : List (DataW H)} {d : DataW H}, d ∈ l → ∀ n ∈ d.weights P e, n ∈ DataW.weightsAll P e l
  | d0 :: l, d, hd, n, hn => by
    simp only [DataW.weightsAll, List.mem_append]
    rcases List.mem_cons.1 hd with rfl | hd
    · exact .inl hn
    · exact .inr (weightsAll_mem hd n hn)
theorem Opens.slice {α : Type} {d : Kd α} {t e B : Nat} {ok : α → Prop} (ht : P.underlying t = some (.slice e)) (hc : P.cellsOf e = d.sz) (hB : P.bytesOf e = B) (h : Opens enc P W d e ok) :
    Opens enc P W (Kd.slice e d) t (fun xs => xs.length * B ≤ 140737488351232 ∧ ∀ x ∈ xs, ok x) := fun fuel cs x hx hw => by
  classical
  rcases open_slice ht hx with ⟨rfl, rfl⟩ | ⟨a, len, cap, m, n, D, Pl, rfl, _, hl, hm, hmm, rfl, hi⟩
  · exact ⟨[], ⟨none, 0, rfl, Nat.le_refl _, rfl, by simp, fun h => by simp at h⟩, by simp, by simp⟩
  · have hmm : m = cap := by simpa using hmm
    subst hmm
    simp only [DataW.weights, ht, List.all_cons, List.all_append, Bool.and_eq_true, decide_eq_true_eq, List.length_map, List.length_range, hB] at hw
    obtain ⟨hw0, hw1, _⟩ := hw
    have hall : ∀ i, i < len → ∃ (c : List Value) (y : α), c.length = d.sz ∧ (∀ j u, c[j]? = some u → W.cell? (a.add (i * d.sz + j)) = some u) ∧ d.K W y c ∧ ok y := fun i hil => by
      obtain ⟨cs', h1, h2⟩ := hi i (by omega)
      rw [hc] at h1
      obtain ⟨_, h3, h4⟩ := World.cells?_some h1
      obtain ⟨y, hy, hk⟩ := h n cs' _ h2 (by
        rw [List.all_eq_true] at hw1 ⊢
        exact fun q hq => hw1 q (weightsAll_mem (List.mem_map.2 ⟨i, List.mem_range.2 hil, rfl⟩) q hq))
      refine ⟨cs', y, h3, fun j u hu => ?_, hy, hk⟩
      have hj : j < d.sz := by have := (List.getElem?_eq_some_iff.1 hu).1; omega
      rw [← Go.Deep.add_add, h4 j hj, hu]
    have key : ∀ k, k ≤ len → ∃ ys : List α, ys.length = k ∧ ∀ i y, ys[i]? = some y → ok y ∧ ∃ c : List Value, c.length = d.sz ∧ d.K W y c ∧ ∀ j u, c[j]? = some u → W.cell? (a.add (i * d.sz + j)) = some u := fun k => by
      induction k with
      | zero => exact fun _ => ⟨[], rfl, fun i y h => by simp at h⟩
      | succ k ih =>
        intro hk
        obtain ⟨ys, h1, h2⟩ := ih (by omega)
        obtain ⟨c, y, h3, h4, h5, h6⟩ := hall k (by omega)
        refine ⟨ys ++ [y], by simp [h1], fun i z hz => ?_⟩
        rcases Nat.lt_trichotomy i k with hik | hik | hik
        · rw [List.getElem?_append_left (by omega)] at hz
          exact h2 i z hz
        · subst hik
          rw [List.getElem?_append_right (by omega), h1, Nat.sub_self, List.getElem?_cons_zero, Option.some.injEq] at hz
          subst hz
          exact ⟨h6, c, h3, h5, h4⟩
        · rw [List.getElem?_append_right (by omega), List.getElem?_cons, if_neg (by omega)] at hz
          simp at hz
    obtain ⟨ys, h1, h2⟩ := key len (Nat.le_refl _)
    subst h1
    refine ⟨ys, ⟨some a, m, rfl, hl, rfl, by unfold maxLen at hm; omega, fun _ => ⟨a, rfl, fun j p hj => ?_⟩⟩, ?_, fun y hy => ?_⟩
    · obtain ⟨_, c, h3, h4, h5⟩ := h2 j p hj
      exact ⟨c, h3, h4, h5⟩
    · have : ys.length * B ≤ (ys.length + (m - ys.length)) * B := Nat.mul_le_mul_right _ (by omega)
      have h0 : reachBytes = 140737488351232 := by decide
      omega
    · obtain ⟨i, hi', rfl⟩ := List.mem_iff_getElem.1 hy
      exact (h2 i _ (List.getElem?_eq_getElem hi')).1
/-- a struct's fields, from offset o on -/
def OpensF {H : Type} (enc : TypeId × Value → H) (P : Program) (W : World) {α : Type} (d : Kd α) (fs : List Field) (o : Nat) (ok : α → Prop) : Prop :=
  ∀ (n : Nat) (cs : List Value) (xs : List (DataW H × List MemPlace)), cs.length = d.sz → xs.length = fs.length → (∀ (i : Nat) (f : Field), fs[i]? = some f → DataW.trod enc P W 0 (fun _ => true) true n f.type ((cs.drop (f.offset - o)).take (P.cellsOf f.type)) = xs[i]?) →
    (DataW.weightsEach P (fs.map (·.type)) (xs.map (·.1))).all (· ≤ reachBytes) = true → ∃ a, d.K W a cs ∧ ok a
theorem OpensF.last {α : Type} {d : Kd α} {f : Field} {o : Nat} {ok : α → Prop} (ho : f.offset = o) (hc : P.cellsOf f.type = d.sz) (h : Opens enc P W d f.type ok) : OpensF enc P W d [f] o ok := fun n cs xs hl hx ht hw => by
  obtain ⟨x, rfl⟩ : ∃ x, xs = [x] := List.length_eq_one_iff.1 hx
  have h1 := ht 0 f rfl
  rw [ho, Nat.sub_self, List.drop_zero, hc, ← hl, List.take_length] at h1
  exact h n cs x h1 (by simpa [DataW.weightsEach] using hw)
theorem OpensF.cons {α β : Type} {d : Kd α} {b : Kd β} {f : Field} {fs : List Field} {o : Nat} {ok : α → Prop} {ok2 : β → Prop} (ho : f.offset = o) (hc : P.cellsOf f.type = d.sz) (hle : ∀ g ∈ fs, o + d.sz ≤ g.offset) (h : Opens enc P W d f.type ok) (h2 : OpensF enc P W b fs (o + d.sz) ok2) :
    OpensF enc P W (Kd.pair d b) (f :: fs) o (fun x => ok x.1 ∧ ok2 x.2) := fun n cs xs hl hx ht hw => by
  rcases xs with _ | ⟨x, xs⟩
  · simp at hx
  have hl : cs.length = d.sz + b.sz := hl
  simp only [List.map_cons, DataW.weightsEach, List.all_append, Bool.and_eq_true] at hw
  have h1 := ht 0 f rfl
  rw [ho, Nat.sub_self, List.drop_zero, hc] at h1
  obtain ⟨a, ha, hk⟩ := h n _ x h1 hw.1
  obtain ⟨b', hb, hk2⟩ := h2 n (cs.drop d.sz) xs (by rw [List.length_drop]; omega) (by simpa using hx) (fun i g hg => by
    have h3 := ht (i + 1) g hg
    have h4 := hle g (List.mem_of_getElem? hg)
    rw [List.drop_drop, show d.sz + (g.offset - (o + d.sz)) = g.offset - o by omega]
    exact h3) hw.2
  exact ⟨(a, b'), ⟨cs.take d.sz, cs.drop d.sz, (List.take_append_drop _ _).symm, ha, hb⟩, hk, hk2⟩
theorem Opens.struct {α β : Type} {d : Kd α} {t : TypeId} {fs : Array Field} {ok : α → Prop} (ht : P.underlying t = some (.struct fs)) (hc : P.cellsOf t = d.sz) (h : OpensF enc P W d fs.toList 0 ok) (f : β → α) (g : α → β) (hfg : ∀ a, f (g a) = a) :
    Opens enc P W (Kd.iso d f) t (fun y => ok (f y)) := fun fuel cs x hx hw => by
  obtain ⟨xs, n, rfl, rfl, hl, hn, hf⟩ := DataW.trod_struct ht hx
  simp only [DataW.weights, ht] at hw
  obtain ⟨a, ha, hk⟩ := h n cs xs (by rw [hl, hc]) (by simpa using hn) (fun i f' hi => by
    rw [Nat.sub_zero]
    exact hf i f' (by simpa using hi)) hw
  exact ⟨g a, by show d.K W (f (g a)) cs; rw [hfg]; exact ha, by show ok (f (g a)); rw [hfg]; exact hk⟩
end
end Go.Proofs.YtceibabhmomfiaaDoor.H
