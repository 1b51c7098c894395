/- Plain: what is taken off bytes is what was laid, and nothing else. -/
import Derived.Test.YtceibabhmomfiaaDoorCq
import Derived.Test.YtceibabhmomfiaaDoorVg
import Derived.Test.YtceibabhmomfiaaDoorVq
namespace Go.Proofs.YtceibabhmomfiaaDoor.H
open Go.RowKit
set_option linter.unusedVariables false
set_option linter.unusedSimpArgs false

def ByL (l : List Int) : Prop := ∀ x ∈ l, 0 ≤ x ∧ x ≤ 255
theorem ByL.right {a b : List Int} (h : ByL (a ++ b)) : ByL b := fun x hx => h x (List.mem_append.2 (.inr hx))
theorem ByL.left {a b : List Int} (h : ByL (a ++ b)) : ByL a := fun x hx => h x (List.mem_append.2 (.inl hx))
/-- p takes off just what s lays, of what is P; what ends within it is too short -/
structure Cod {α : Type} (p : List Int → PR α) (s : α → List Int) (P : α → Prop) : Prop where
  fwd : ∀ x, P x → ∀ r, p (s x ++ r) = .ok (x, r)
  bwd : ∀ l, ByL l → ∀ x r, p l = .ok (x, r) → P x ∧ l = s x ++ r
  cut : ∀ x, P x → ∀ c t, s x = c ++ t → t ≠ [] → p c = .error 2
section
variable {α β : Type} {p : List Int → PR α} {s : α → List Int} {P : α → Prop}
theorem Cod.congr {s' : α → List Int} {P' : α → Prop} (h : Cod p s P) (hs : ∀ x, P' x → s x = s' x) (hP : ∀ x, P x ↔ P' x) : Cod p s' P' :=
  ⟨fun x hx r => by rw [← hs x hx]; exact h.fwd x ((hP x).2 hx) r, fun l hl x r hp => by
    obtain ⟨h1, h2⟩ := h.bwd l hl x r hp
    exact ⟨(hP x).1 h1, by rw [← hs x ((hP x).1 h1)]; exact h2⟩, fun x hx c t hc ht => h.cut x ((hP x).2 hx) c t (by rw [hs x hx]; exact hc) ht⟩
theorem Cod.imp {p' : List Int → PR α} (h : Cod p s P) (e : ∀ l, p' l = p l) : Cod p' s P := by
  have : p' = p := funext e
  rw [this]; exact h
theorem Cod.ret (x : α) : Cod (pRet x) (fun _ => []) (fun y => y = x) :=
  ⟨fun y hy r => by rw [hy]; rfl, fun l _ y r hp => by
    unfold pRet at hp
    injection hp with hp
    injection hp with h1 h2
    exact ⟨h1.symm, by rw [h2]; rfl⟩, fun _ _ c t h ht => by
    have := (List.append_eq_nil_iff.1 h.symm).2
    exact absurd this ht⟩
theorem app_split {a b c t : List Int} (h : a ++ b = c ++ t) : (∃ t', a = c ++ t' ∧ t' ≠ []) ∨ ∃ c', c = a ++ c' ∧ b = c' ++ t := by
  rcases List.append_eq_append_iff.1 h with ⟨a', h1, h2⟩ | ⟨c', h1, h2⟩
  · exact .inr ⟨a', h1, h2⟩
  · rcases c' with _ | ⟨y, c'⟩
    · exact .inr ⟨[], by rw [h1]; simp, by rw [h2]; rfl⟩
    · exact .inl ⟨_, h1, by simp⟩
theorem Cod.bind {f : α → List Int → PR β} {t : α → β → List Int} {Q : α → β → Prop} (h : Cod p s P) (π : β → α) (hf : ∀ x, P x → Cod (f x) (t x) (fun y => Q x y ∧ π y = x)) :
    Cod (pBind p f) (fun y => s (π y) ++ t (π y) y) (fun y => P (π y) ∧ Q (π y) y) := by
  refine ⟨fun y hy r => ?_, fun l hl y r hp => ?_, fun y hy c u hc hu => ?_⟩
  · unfold pBind
    rw [List.append_assoc, h.fwd _ hy.1]
    exact (hf _ hy.1).fwd y ⟨hy.2, rfl⟩ r
  · unfold pBind at hp
    cases hpl : p l with
    | error q => rw [hpl] at hp; injection hp
    | ok z =>
      obtain ⟨x, r1⟩ := z
      rw [hpl] at hp
      obtain ⟨h1, h2⟩ := h.bwd l hl x r1 hpl
      subst h2
      obtain ⟨⟨h3, h4⟩, h5⟩ := (hf x h1).bwd r1 hl.right y r hp
      subst h4
      exact ⟨⟨h1, h3⟩, by rw [List.append_assoc, ← h5]⟩
  · unfold pBind
    rcases app_split hc with ⟨t', h1, h2⟩ | ⟨c', h1, h2⟩
    · rw [h.cut _ hy.1 c t' h1 h2]
    · subst h1
      rw [h.fwd _ hy.1]
      exact (hf _ hy.1).cut y ⟨hy.2, rfl⟩ c' u h2 hu
/-- what is made of a thing alone -/
theorem Cod.map (h : Cod p s P) (g : α → β) (π : β → α) (hg : ∀ x, P x → π (g x) = x) : Cod (pBind p fun x => pRet (g x)) (fun y => s (π y)) (fun y => P (π y) ∧ y = g (π y)) := by
  refine (h.bind (t := fun _ _ => []) (Q := fun x y => y = g x) π (fun x hx => (Cod.ret (g x)).congr (fun _ _ => rfl) (fun y => ⟨fun hy => ⟨hy, by rw [hy]; exact hg x hx⟩, fun hy => hy.1⟩))).congr (fun y _ => by simp) (fun y => Iff.rfl)
theorem Cod.rep (h : Cod p s P) (n : Nat) : Cod (pRep p n) (fun xs => xs.flatMap s) (fun xs => xs.length = n ∧ ∀ x ∈ xs, P x) := by
  induction n with
  | zero =>
    refine (Cod.ret (α := List α) []).congr (fun x hx => ?_) (fun x => ⟨fun hx => by subst hx; simp, fun hx => List.eq_nil_of_length_eq_zero hx.1⟩)
    have : x = [] := List.eq_nil_of_length_eq_zero hx.1
    subst this
    rfl
  | succ k ih =>
    have h2 := ih.bind (β := List α) (f := fun xs => pBind p fun x => pRet (xs ++ [x])) (t := fun xs ys => ys.getLast?.elim [] s) (Q := fun xs ys => ∃ x, P x ∧ ys = xs ++ [x]) List.dropLast (fun xs hxs => by
      refine ⟨fun ys hys r => ?_, fun l hl ys r hp => ?_, fun ys hys c u hc hu => ?_⟩
      · obtain ⟨⟨x, hx, rfl⟩, _⟩ := hys
        unfold pBind
        simp only [List.getLast?_append, List.getLast?_singleton, Option.some_or, Option.elim_some]
        rw [h.fwd x hx]
        rfl
      · unfold pBind at hp
        cases hpl : p l with
        | error q => rw [hpl] at hp; injection hp
        | ok z =>
          obtain ⟨x, r1⟩ := z
          rw [hpl] at hp
          unfold pRet at hp
          injection hp with hp
          injection hp with e1 e2
          subst e1
          subst e2
          obtain ⟨h1, h2⟩ := h.bwd l hl x r1 hpl
          exact ⟨⟨⟨x, h1, rfl⟩, by simp⟩, by simpa using h2⟩
      · obtain ⟨⟨x, hx, rfl⟩, _⟩ := hys
        simp only [List.getLast?_append, List.getLast?_singleton, Option.some_or, Option.elim_some] at hc
        unfold pBind
        rw [h.cut x hx c u hc hu])
    refine (h2.imp (p' := pRep p (k + 1)) (fun l => rfl)).congr (fun ys hys => ?_) (fun ys => ⟨fun hys => ?_, fun hys => ?_⟩)
    · obtain ⟨h3, _⟩ := hys
      rcases List.eq_nil_or_concat ys with rfl | ⟨zs, z, rfl⟩
      · simp at h3
      · simp
    · obtain ⟨⟨h3, h4⟩, x, h5, h6⟩ := hys
      rw [h6]
      refine ⟨by simp [h3], fun y hy => ?_⟩
      rcases List.mem_append.1 hy with hy | hy
      · exact h4 y hy
      · rw [List.mem_singleton.1 hy]; exact h5
    · obtain ⟨h3, h4⟩ := hys
      rcases List.eq_nil_or_concat ys with rfl | ⟨zs, z, rfl⟩
      · simp at h3
      · simp only [List.concat_eq_append, List.dropLast_concat] at *
        exact ⟨⟨by simpa using h3, fun x hx => h4 x (by simp [hx])⟩, z, h4 z (by simp), rfl⟩
end

def NumP (n : Int) : Prop := 0 ≤ n ∧ n ≤ 9223372036854775807
def IntP (n : Int) : Prop := -9223372036854775808 ≤ n ∧ n ≤ 9223372036854775807
/-- a number that is cut off -/
theorem digs_cut (k : Nat) : ∀ (u : Int) (c t : List Int), digs k u = c ++ t → t ≠ [] → (∀ x ∈ c, 128 ≤ x) ∧ c.length ≤ k := by
  induction k with
  | zero =>
    intro u c t h ht
    unfold digs at h
    rcases c with _ | ⟨y, c⟩
    · simp
    · simp only [List.cons_append, List.cons.injEq] at h
      have := (List.append_eq_nil_iff.1 h.2.symm).2
      exact absurd this ht
  | succ k ih =>
    intro u c t h ht
    rcases c with _ | ⟨y, c⟩
    · simp
    · by_cases h1 : 128 ≤ u
      · rw [digs_great k u h1, List.cons_append] at h
        injection h with h2 h3
        obtain ⟨h4, h5⟩ := ih _ c t h3 ht
        refine ⟨fun x hx => ?_, by simp; omega⟩
        rcases List.mem_cons.1 hx with hx | hx
        · omega
        · exact h4 x hx
      · rw [digs_small _ u (by omega), List.cons_append] at h
        injection h with h2 h3
        have := (List.append_eq_nil_iff.1 h3.symm).2
        exact absurd this ht
theorem getGo_cut (most : Nat) (c : List Int) : ∀ (i : Nat) (u : Int), (∀ x ∈ c, 128 ≤ x) → i + c.length < most → i + c.length ≤ 9 → getGo most c i u = (0, 0, 2) := by
  induction c with
  | nil => intro i u _ h _; unfold getGo; rw [if_neg (by simp at h; omega)]
  | cons x c ih =>
    intro i u h1 h2 h3
    simp only [List.length_cons] at h2 h3
    unfold getGo
    rw [if_neg (by omega), if_neg (by omega), if_pos (h1 x (by simp))]
    exact ih (i + 1) _ (fun y hy => h1 y (by simp [hy])) (by omega) (by omega)
theorem putL_pos {n : Int} (h : 0 ≤ n) : putL n = digs 9 n := by unfold putL; rw [if_neg (by omega)]
theorem cod_num : Cod pNum putL NumP := by
  refine ⟨fun n hn r => ?_, fun l hl n r hp => ?_, fun n hn c t hc ht => ?_⟩
  · rw [putL_pos hn.1]
    unfold pNum
    rw [get_put n r hn.1 hn.2]
    simp
  · unfold pNum at hp
    split at hp
    · rename_i h0
      injection hp with hp
      injection hp with h1 h2
      have hg := getL_got 9 (by decide) l hl
      obtain ⟨h3, h4, h5, h6⟩ := put_get 9 (by decide) l (getL 9 l).1 (getL 9 l).2.1 hl (by rw [← h0])
      rw [h1] at h3 h6
      refine ⟨⟨h3, h1 ▸ hg.le9 (by decide)⟩, ?_⟩
      rw [putL_pos h3, h6, ← h2, List.take_append_drop]
    · injection hp
  · rw [putL_pos hn.1] at hc
    have hlen := digs_len_lt 8 9 n (by have := hn.2; omega)
    obtain ⟨h1, h2⟩ := digs_cut 9 n c t hc ht
    have h3 : c.length < 9 := by
      rw [hc, List.length_append] at hlen
      have := List.length_pos_iff.2 ht
      omega
    unfold pNum getL
    rw [getGo_cut 9 c 0 0 h1 (by omega) (by omega)]
    rfl
theorem cod_up (most er : Int) : Cod (pUp most er) putL (fun n => NumP n ∧ n ≤ most) := by
  have h := cod_num.bind (β := Int) (f := fun n l => if most < n then .error er else .ok (n, l)) (t := fun _ _ => []) (Q := fun x y => x ≤ most) id (fun x hx => by
    refine ⟨fun y hy r => ?_, fun l _ y r hp => ?_, fun y hy c t h ht => ?_⟩
    · obtain ⟨h1, h2⟩ := hy
      have h2 : y = x := h2
      subst h2
      rw [if_neg (by omega)]
      rfl
    · split at hp
      · injection hp
      · rename_i h1
        injection hp with hp
        injection hp with e1 e2
        exact ⟨⟨by omega, e1.symm⟩, by rw [e2]; rfl⟩
    · exact absurd (List.append_eq_nil_iff.1 h.symm).2 ht)
  exact (h.imp (fun l => rfl)).congr (fun x _ => by simp) (fun x => Iff.rfl)
end Go.Proofs.YtceibabhmomfiaaDoor.H
