/- Plain: a list whose things lean on those before them, as bytes; tests; what rises. -/
import Derived.Test.YtceibabhmomfiaaDoorPp
namespace Go.Proofs.YtceibabhmomfiaaDoor.H
open Go.RowKit
set_option linter.unusedVariables false
set_option linter.unusedSimpArgs false

def growS {α : Type} (s : List α → α → List Int) : List α → List α → List Int
  | _, [] => []
  | pre, x :: xs => s pre x ++ growS s (pre ++ [x]) xs
def growP {α : Type} (P : List α → α → Prop) : List α → List α → Prop
  | _, [] => True
  | pre, x :: xs => P pre x ∧ growP P (pre ++ [x]) xs
theorem snocRec {α : Type} {P : List α → Prop} (h0 : P []) (h1 : ∀ xs x, P xs → P (xs ++ [x])) (l : List α) : P l := by
  have : ∀ n (l : List α), l.length = n → P l := by
    intro n
    induction n with
    | zero => intro l hl; rw [List.eq_nil_of_length_eq_zero hl]; exact h0
    | succ n ih =>
      intro l hl
      rcases List.eq_nil_or_concat l with rfl | ⟨zs, z, rfl⟩
      · exact h0
      · rw [List.concat_eq_append]
        exact h1 zs z (ih zs (by simpa using hl))
  exact this _ l rfl
section
variable {α β : Type}
theorem growS_snoc (s : List α → α → List Int) (xs : List α) (x : α) : ∀ pre, growS s pre (xs ++ [x]) = growS s pre xs ++ s (pre ++ xs) x := by
  induction xs with
  | nil => intro pre; simp [growS]
  | cons y ys ih => intro pre; simp only [List.cons_append, growS, ih, List.append_assoc, List.cons_append, List.nil_append]
theorem growP_snoc (P : List α → α → Prop) (xs : List α) (x : α) : ∀ pre, growP P pre (xs ++ [x]) ↔ growP P pre xs ∧ P (pre ++ xs) x := by
  induction xs with
  | nil => intro pre; simp [growP]
  | cons y ys ih => intro pre; simp only [List.cons_append, growP, ih, List.append_assoc, List.nil_append, and_assoc]
theorem Cod.grow {p : List α → List Int → PR α} {s : List α → α → List Int} {P : List α → α → Prop} (h : ∀ xs, growP P [] xs → Cod (p xs) (s xs) (P xs)) (n : Nat) :
    Cod (pGrow p n) (growS s []) (fun xs => xs.length = n ∧ growP P [] xs) := by
  induction n with
  | zero =>
    refine (Cod.ret (α := List α) []).congr (fun x hx => ?_) (fun x => ⟨fun hx => by subst hx; simp [growP], fun hx => List.eq_nil_of_length_eq_zero hx.1⟩)
    have : x = [] := List.eq_nil_of_length_eq_zero hx.1
    subst this
    rfl
  | succ k ih =>
    have h2 := ih.bind (β := List α) (f := fun xs => pBind (p xs) fun x => pRet (xs ++ [x])) (t := fun xs ys => ys.getLast?.elim [] (s xs)) (Q := fun xs ys => ∃ x, P xs x ∧ ys = xs ++ [x]) List.dropLast (fun xs hxs => by
      have h := h xs hxs.2
      refine ⟨fun ys hys r => ?_, fun l hl ys r hp => ?_, fun ys hys c u hc hu => ?_⟩
      · obtain ⟨⟨x, hx, rfl⟩, _⟩ := hys
        unfold pBind
        simp only [List.getLast?_append, List.getLast?_singleton, Option.some_or, Option.elim_some]
        rw [h.fwd x hx]
        rfl
      · unfold pBind at hp
        cases hpl : p xs l with
        | error q => rw [hpl] at hp; injection hp
        | ok z =>
          obtain ⟨x, r1⟩ := z
          rw [hpl] at hp
          unfold pRet at hp
          injection hp with hp
          injection hp with e1 e2
          subst e1
          subst e2
          obtain ⟨h1, h2⟩ := h.bwd l hl x r1 hpl
          exact ⟨⟨⟨x, h1, rfl⟩, by simp⟩, by simpa using h2⟩
      · obtain ⟨⟨x, hx, rfl⟩, _⟩ := hys
        simp only [List.getLast?_append, List.getLast?_singleton, Option.some_or, Option.elim_some] at hc
        unfold pBind
        rw [h.cut x hx c u hc hu])
    refine (h2.imp (p' := pGrow p (k + 1)) (fun l => rfl)).congr (fun ys hys => ?_) (fun ys => ⟨fun hys => ?_, fun hys => ?_⟩)
    · obtain ⟨h3, _⟩ := hys
      rcases List.eq_nil_or_concat ys with rfl | ⟨zs, z, rfl⟩
      · simp at h3
      · simp only [List.concat_eq_append, growS_snoc, List.dropLast_concat, List.getLast?_append, List.getLast?_singleton, Option.some_or, Option.elim_some, List.nil_append]
    · obtain ⟨⟨h3, h4⟩, x, h5, h6⟩ := hys
      rw [h6]
      exact ⟨by simp [h3], (growP_snoc P _ _ _).2 ⟨h4, h5⟩⟩
    · obtain ⟨h3, h4⟩ := hys
      rcases List.eq_nil_or_concat ys with rfl | ⟨zs, z, rfl⟩
      · simp at h3
      · simp only [List.concat_eq_append, List.dropLast_concat] at *
        obtain ⟨h5, h6⟩ := (growP_snoc P _ _ _).1 h4
        exact ⟨⟨by simpa using h3, h5⟩, z, h6, rfl⟩
theorem Cod.chk {b : Bool} {er : Int} {f : Unit → List Int → PR β} {s : β → List Int} {Q : β → Prop} (h : b = false → Cod (f ()) s Q) : Cod (pBind (pChk b er) f) s (fun y => b = false ∧ Q y) := by
  cases b with
  | true =>
    refine ⟨fun x hx => absurd hx.1 (by decide), fun l _ x r hp => ?_, fun x hx => absurd hx.1 (by decide)⟩
    unfold pBind pChk at hp
    simp at hp
  | false =>
    have h1 := h rfl
    exact ⟨fun x hx r => h1.fwd x hx.2 r, fun l hl x r hp => by obtain ⟨h2, h3⟩ := h1.bwd l hl x r hp; exact ⟨⟨rfl, h2⟩, h3⟩, fun x hx c t hc ht => h1.cut x hx.2 c t hc ht⟩
/-- each thing and the next one stand so -/
def Rise (R : α → α → Prop) (l : List α) : Prop := ∀ i (h : i + 1 < l.length), R (l[i]'(by omega)) l[i + 1]
theorem Rise.nil (R : α → α → Prop) : Rise R [] := fun i h => absurd h (by simp)
theorem Rise.snoc {R : α → α → Prop} {xs : List α} {x : α} : Rise R (xs ++ [x]) ↔ Rise R xs ∧ ∀ y, xs.getLast? = some y → R y x := by
  constructor
  · refine fun h => ⟨fun i hi => ?_, fun y hy => ?_⟩
    · have := h i (by simp; omega)
      rw [List.getElem_append_left (by omega), List.getElem_append_left (by omega)] at this
      exact this
    · rw [List.getLast?_eq_getElem?] at hy
      obtain ⟨h1, h2⟩ := List.getElem?_eq_some_iff.1 hy
      have := h (xs.length - 1) (by simp; omega)
      rw [List.getElem_append_left (by omega), h2, List.getElem_append_right (by omega)] at this
      simpa using this
  · rintro ⟨h1, h2⟩ i hi
    simp only [List.length_append, List.length_singleton] at hi
    by_cases h3 : i + 1 < xs.length
    · rw [List.getElem_append_left (by omega), List.getElem_append_left (by omega)]
      exact h1 i h3
    · rw [List.getElem_append_left (by omega), List.getElem_append_right (by omega)]
      simp only [List.getElem_singleton]
      exact h2 _ (by rw [List.getLast?_eq_getElem?, show xs.length - 1 = i by omega]; exact List.getElem?_eq_getElem (by omega))
theorem Rise.map {R : α → α → Prop} {S : β → β → Prop} {f : α → β} {l : List α} (h : Rise R l) (hf : ∀ x ∈ l, ∀ y ∈ l, R x y → S (f x) (f y)) : Rise S (l.map f) := fun i hi => by
  simp only [List.length_map] at hi
  simp only [List.getElem_map]
  exact hf _ (List.getElem_mem _) _ (List.getElem_mem _) (h i hi)
theorem Rise.grows {R : α → α → Prop} {l : List α} (h : growP (fun xs x => ∀ y, xs.getLast? = some y → R y x) [] l) : Rise R l := by
  induction l using snocRec with
  | h0 => exact Rise.nil R
  | h1 xs x ih =>
    obtain ⟨h1, h2⟩ := (growP_snoc _ _ _ _).1 h
    exact Rise.snoc.2 ⟨ih h1, h2⟩
theorem grows_of_rise {R : α → α → Prop} {l : List α} (h : Rise R l) : growP (fun xs x => ∀ y, xs.getLast? = some y → R y x) [] l := by
  induction l using snocRec with
  | h0 => trivial
  | h1 xs x ih =>
    obtain ⟨h1, h2⟩ := Rise.snoc.1 h
    exact (growP_snoc _ _ _ _).2 ⟨ih h1, h2⟩
theorem growP_and {P Q : List α → α → Prop} {l : List α} : ∀ pre, growP (fun xs x => P xs x ∧ Q xs x) pre l ↔ growP P pre l ∧ growP Q pre l := by
  induction l with
  | nil => intro pre; simp [growP]
  | cons x xs ih => intro pre; simp only [growP, ih]; exact ⟨fun h => ⟨⟨h.1.1, h.2.1⟩, h.1.2, h.2.2⟩, fun h => ⟨⟨h.1.1, h.2.1⟩, h.1.2, h.2.2⟩⟩
theorem growP_mono {P Q : List α → α → Prop} {l : List α} (h : ∀ xs x, P xs x → Q xs x) : ∀ pre, growP P pre l → growP Q pre l := by
  induction l with
  | nil => intro pre _; trivial
  | cons x xs ih => intro pre hp; exact ⟨h _ _ hp.1, ih _ hp.2⟩
theorem growP_all {P : α → Prop} {l : List α} : ∀ pre, growP (fun _ x => P x) pre l ↔ ∀ x ∈ l, P x := by
  induction l with
  | nil => intro pre; simp [growP]
  | cons x xs ih => intro pre; simp [growP, ih]
theorem growS_map {s : List β → β → List Int} {f : α → β} {l : List α} : ∀ pre, growS s (pre.map f) (l.map f) = growS (fun xs x => s (xs.map f) (f x)) pre l := by
  induction l with
  | nil => intro pre; rfl
  | cons x xs ih => intro pre; simp only [List.map_cons, growS]; rw [← ih (pre ++ [x])]; simp
end
/-- numbers that rise from a to below b are no more than b - a -/
theorem rise_ge {l : List Int} (h : Rise (· < ·) l) (a : Int) (ha : ∀ x ∈ l, a ≤ x) : ∀ i (hi : i < l.length), a + i ≤ l[i] := by
  intro i
  induction i with
  | zero => intro hi; have := ha _ (List.getElem_mem hi); omega
  | succ i ih =>
    intro hi
    have h1 := ih (by omega)
    have h2 := h i hi
    omega
theorem rise_len {l : List Int} (h : Rise (· < ·) l) (a b : Int) (hab : a ≤ b) (ha : ∀ x ∈ l, a ≤ x) (hb : ∀ x ∈ l, x < b) : (l.length : Int) ≤ b - a := by
  by_cases h0 : l.length = 0
  · omega
  · have h1 := rise_ge h a ha (l.length - 1) (by omega)
    have h2 := hb _ (List.getElem_mem (show l.length - 1 < l.length by omega))
    omega
theorem rise_lt {l : List Int} (h : Rise (· < ·) l) : ∀ i j (hij : i < j) (hj : j < l.length), l[i]'(by omega) < l[j] := by
  intro i j
  induction j with
  | zero => intro hij; omega
  | succ j ih =>
    intro hij hj
    have h2 := h j hj
    by_cases e : i = j
    · subst e; exact h2
    · have := ih (by omega) (by omega)
      omega
end Go.Proofs.YtceibabhmomfiaaDoor.H
