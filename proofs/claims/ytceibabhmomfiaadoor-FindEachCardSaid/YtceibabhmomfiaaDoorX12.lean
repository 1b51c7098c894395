/- Texts of this work, joined: Qa, Qb. Conditions: each stands with its theorem. -/
import Derived.Test.YtceibabhmomfiaaDoorX03
import Derived.Test.YtceibabhmomfiaaDoorX05
/- Plain: a list whose things lean on those before them, as bytes; tests; what rises. -/
namespace Go.Proofs.YtceibabhmomfiaaDoor.H
open Go.RowKit
set_option linter.unusedVariables false
set_option linter.unusedSimpArgs false

def growS {α : Type} (s : List α → α → List Int) : List α → List α → List Int
  | _, [] => []
  | pre, x :: xs => s pre x ++ growS s (pre ++ [x]) xs
def growP {α : Type} (P : List α → α → Prop) : List α → List α → Prop
  | _, [] => True
  | pre, x :: xs => P pre x ∧ growP P (pre ++ [x]) xs
theorem snocRec {α : Type} {P : List α → Prop} (h0 : P []) (h1 : ∀ xs x, P xs → P (xs ++ [x])) (l : List α) : P l := by
  have : ∀ n (l : List α), l.length = n → P l := by
    intro n
    induction n with
    | zero => intro l hl; rw [List.eq_nil_of_length_eq_zero hl]; exact h0
    | succ n ih =>
      intro l hl
      rcases List.eq_nil_or_concat l with rfl | ⟨zs, z, rfl⟩
      · exact h0
      · rw [List.concat_eq_append]
        exact h1 zs z (ih zs (by simpa using hl))
  exact this _ l rfl
section
variable {α β : Type}
theorem growS_snoc (s : List α → α → List Int) (xs : List α) (x : α) : ∀ pre, growS s pre (xs ++ [x]) = growS s pre xs ++ s (pre ++ xs) x := by
  induction xs with
  | nil => intro pre; simp [growS]
  | cons y ys ih => intro pre; simp only [List.cons_append, growS, ih, List.append_assoc, List.cons_append, List.nil_append]
theorem growP_snoc (P : List α → α → Prop) (xs : List α) (x : α) : ∀ pre, growP P pre (xs ++ [x]) ↔ growP P pre xs ∧ P (pre ++ xs) x := by
  induction xs with
  | nil => intro pre; simp [growP]
  | cons y ys ih => intro pre; simp only [List.cons_append, growP, ih, List.append_assoc, List.nil_append, and_assoc]
theorem Cod.grow {p : List α → List Int → PR α} {s : List α → α → List Int} {P : List α → α → Prop} (h : ∀ xs, growP P [] xs → Cod (p xs) (s xs) (P xs)) (n : Nat) :
    Cod (pGrow p n) (growS s []) (fun xs => xs.length = n ∧ growP P [] xs) := by
  induction n with
  | zero =>
    refine (Cod.ret (α := List α) []).congr (fun x hx => ?_) (fun x => ⟨fun hx => by subst hx; simp [growP], fun hx => List.eq_nil_of_length_eq_zero hx.1⟩)
    have : x = [] := List.eq_nil_of_length_eq_zero hx.1
    subst this
    rfl
  | succ k ih =>
    have h2 := ih.bind (β := List α) (f := fun xs => pBind (p xs) fun x => pRet (xs ++ [x])) (t := fun xs ys => ys.getLast?.elim [] (s xs)) (Q := fun xs ys => ∃ x, P xs x ∧ ys = xs ++ [x]) List.dropLast (fun xs hxs => by
      have h := h xs hxs.2
      refine ⟨fun ys hys r => ?_, fun l hl ys r hp => ?_, fun ys hys c u hc hu => ?_⟩
      · obtain ⟨⟨x, hx, rfl⟩, _⟩ := hys
        unfold pBind
        simp only [List.getLast?_append, List.getLast?_singleton, Option.some_or, Option.elim_some]
        rw [h.fwd x hx]
        rfl
      · unfold pBind at hp
        cases hpl : p xs l with
        | error q => rw [hpl] at hp; injection hp
        | ok z =>
          obtain ⟨x, r1⟩ := z
          rw [hpl] at hp
          unfold pRet at hp
          injection hp with hp
          injection hp with e1 e2
          subst e1
          subst e2
          obtain ⟨h1, h2⟩ := h.bwd l hl x r1 hpl
          exact ⟨⟨⟨x, h1, rfl⟩, by simp⟩, by simpa using h2⟩
      · obtain ⟨⟨x, hx, rfl⟩, _⟩ := hys
        simp only [List.getLast?_append, List.getLast?_singleton, Option.some_or, Option.elim_some] at hc
        unfold pBind
        rw [h.cut x hx c u hc hu])
    refine (h2.imp (p' := pGrow p (k + 1)) (fun l => rfl)).congr (fun ys hys => ?_) (fun ys => ⟨fun hys => ?_, fun hys => ?_⟩)
    · obtain ⟨h3, _⟩ := hys
      rcases List.eq_nil_or_concat ys with rfl | ⟨zs, z, rfl⟩
      · simp at h3
      · simp only [List.concat_eq_append, growS_snoc, List.dropLast_concat, List.getLast?_append, List.getLast?_singleton, Option.some_or, Option.elim_some, List.nil_append]
    · obtain ⟨⟨h3, h4⟩, x, h5, h6⟩ := hys
      rw [h6]
      exact ⟨by simp [h3], (growP_snoc P _ _ _).2 ⟨h4, h5⟩⟩
    · obtain ⟨h3, h4⟩ := hys
      rcases List.eq_nil_or_concat ys with rfl | ⟨zs, z, rfl⟩
      · simp at h3
      · simp only [List.concat_eq_append, List.dropLast_concat] at *
        obtain ⟨h5, h6⟩ := (growP_snoc P _ _ _).1 h4
        exact ⟨⟨by simpa using h3, h5⟩, z, h6, rfl⟩
theorem Cod.chk {b : Bool} {er : Int} {f : Unit → List Int → PR β} {s : β → List Int} {Q : β → Prop} (h : b = false → Cod (f ()) s Q) : Cod (pBind (pChk b er) f) s (fun y => b = false ∧ Q y) := by
  cases b with
  | true =>
    refine ⟨fun x hx => absurd hx.1 (by decide), fun l _ x r hp => ?_, fun x hx => absurd hx.1 (by decide)⟩
    unfold pBind pChk at hp
    simp at hp
  | false =>
    have h1 := h rfl
    exact ⟨fun x hx r => h1.fwd x hx.2 r, fun l hl x r hp => by obtain ⟨h2, h3⟩ := h1.bwd l hl x r hp; exact ⟨⟨rfl, h2⟩, h3⟩, fun x hx c t hc ht => h1.cut x hx.2 c t hc ht⟩
/-- each thing and the next one stand so -/
def Rise (R : α → α → Prop) (l : List α) : Prop := ∀ i (h : i + 1 < l.length), R (l[i]'(by omega)) l[i + 1]
theorem Rise.nil (R : α → α → Prop) : Rise R [] := fun i h => absurd h (by simp)
theorem Rise.snoc {R : α → α → Prop} {xs : List α} {x : α} : Rise R (xs ++ [x]) ↔ Rise R xs ∧ ∀ y, xs.getLast? = some y → R y x := by
  constructor
  · refine fun h => ⟨fun i hi => ?_, fun y hy => ?_⟩
    · have := h i (by simp; omega)
      rw [List.getElem_append_left (by omega), List.getElem_append_left (by omega)] at this
      exact this
    · rw [List.getLast?_eq_getElem?] at hy
      obtain ⟨h1, h2⟩ := List.getElem?_eq_some_iff.1 hy
      have := h (xs.length - 1) (by simp; omega)
      rw [List.getElem_append_left (by omega), h2, List.getElem_append_right (by omega)] at this
      simpa using this
  · rintro ⟨h1, h2⟩ i hi
    simp only [List.length_append, List.length_singleton] at hi
    by_cases h3 : i + 1 < xs.length
    · rw [List.getElem_append_left (by omega), List.getElem_append_left (by omega)]
      exact h1 i h3
    · rw [List.getElem_append_left (by omega), List.getElem_append_right (by omega)]
      simp only [List.getElem_singleton]
      exact h2 _ (by rw [List.getLast?_eq_getElem?, show xs.length - 1 = i by omega]; exact List.getElem?_eq_getElem (by omega))
theorem Rise.map {R : α → α → Prop} {S : β → β → Prop} {f : α → β} {l : List α} (h : Rise R l) (hf : ∀ x ∈ l, ∀ y ∈ l, R x y → S (f x) (f y)) : Rise S (l.map f) := fun i hi => by
  simp only [List.length_map] at hi
  simp only [List.getElem_map]
  exact hf _ (List.getElem_mem _) _ (List.getElem_mem _) (h i hi)
theorem Rise.grows {R : α → α → Prop} {l : List α} (h : growP (fun xs x => ∀ y, xs.getLast? = some y → R y x) [] l) : Rise R l := by
  induction l using snocRec with
  | h0 => exact Rise.nil R
  | h1 xs x ih =>
    obtain ⟨h1, h2⟩ := (growP_snoc _ _ _ _).1 h
    exact Rise.snoc.2 ⟨ih h1, h2⟩
theorem grows_of_rise {R : α → α → Prop} {l : List α} (h : Rise R l) : growP (fun xs x => ∀ y, xs.getLast? = some y → R y x) [] l := by
  induction l using snocRec with
  | h0 => trivial
  | h1 xs x ih =>
    obtain ⟨h1, h2⟩ := Rise.snoc.1 h
    exact (growP_snoc _ _ _ _).2 ⟨ih h1, h2⟩
theorem growP_and {P Q : List α → α → Prop} {l : List α} : ∀ pre, growP (fun xs x => P xs x ∧ Q xs x) pre l ↔ growP P pre l ∧ growP Q pre l := by
  induction l with
  | nil => intro pre; simp [growP]
  | cons x xs ih => intro pre; simp only [growP, ih]; exact ⟨fun h => ⟨⟨h.1.1, h.2.1⟩, h.1.2, h.2.2⟩, fun h => ⟨⟨h.1.1, h.2.1⟩, h.1.2, h.2.2⟩⟩
theorem growP_mono {P Q : List α → α → Prop} {l : List α} (h : ∀ xs x, P xs x → Q xs x) : ∀ pre, growP P pre l → growP Q pre l := by
  induction l with
  | nil => intro pre _; trivial
  | cons x xs ih => intro pre hp; exact ⟨h _ _ hp.1, ih _ hp.2⟩
theorem growP_all {P : α → Prop} {l : List α} : ∀ pre, growP (fun _ x => P x) pre l ↔ ∀ x ∈ l, P x := by
  induction l with
  | nil => intro pre; simp [growP]
  | cons x xs ih => intro pre; simp [growP, ih]
theorem growS_map {s : List β → β → List Int} {f : α → β} {l : List α} : ∀ pre, growS s (pre.map f) (l.map f) = growS (fun xs x => s (xs.map f) (f x)) pre l := by
  induction l with
  | nil => intro pre; rfl
  | cons x xs ih => intro pre; simp only [List.map_cons, growS]; rw [← ih (pre ++ [x])]; simp
end
/-- numbers that rise from a to below b are no more than b - a -/
theorem rise_ge {l : List Int} (h : Rise (· < ·) l) (a : Int) (ha : ∀ x ∈ l, a ≤ x) : ∀ i (hi : i < l.length), a + i ≤ l[i] := by
  intro i
  induction i with
  | zero => intro hi; have := ha _ (List.getElem_mem hi); omega
  | succ i ih =>
    intro hi
    have h1 := ih (by omega)
    have h2 := h i hi
    omega
theorem rise_len {l : List Int} (h : Rise (· < ·) l) (a b : Int) (hab : a ≤ b) (ha : ∀ x ∈ l, a ≤ x) (hb : ∀ x ∈ l, x < b) : (l.length : Int) ≤ b - a := by
  by_cases h0 : l.length = 0
  · omega
  · have h1 := rise_ge h a ha (l.length - 1) (by omega)
    have h2 := hb _ (List.getElem_mem (show l.length - 1 < l.length by omega))
    omega
theorem rise_lt {l : List Int} (h : Rise (· < ·) l) : ∀ i j (hij : i < j) (hj : j < l.length), l[i]'(by omega) < l[j] := by
  intro i j
  induction j with
  | zero => intro hij; omega
  | succ j ih =>
    intro hij hj
    have h2 := h j hj
    by_cases e : i = j
    · subst e; exact h2
    · have := ih (by omega) (by omega)
      omega
end Go.Proofs.YtceibabhmomfiaaDoor.H

/- Plain: the bytes of a list of charts, and what is taken for charts. -/
namespace Go.Proofs.YtceibabhmomfiaaDoor.H
open Go.RowKit
set_option linter.unusedVariables false
set_option linter.unusedSimpArgs false

theorem putL_one {n : Int} (h : NumP n) : 1 ≤ (putL n).length ∧ (putL n).length ≤ 10 := by
  rw [putL_pos h.1]; exact digs_len 9 n
theorem loc_back {n : Int} (h0 : 0 ≤ n) (h : mayL (locN n) = true) : nOf (locN n) = n := by
  unfold nOf locN
  unfold mayL locN at h
  simp only at h ⊢
  by_cases h2 : n % 2 = 1
  · rw [h2]; rw [Int.tdiv_eq_ediv_of_nonneg (by omega)]; omega
  · have h3 : n % 2 = 0 := by omega
    rw [h3] at h ⊢
    by_cases hz : n = 0
    · subst hz; simp at h
    · rw [Int.tdiv_eq_ediv_of_nonneg (by omega)]; omega
theorem may_cases {x : SLoc} (h : mayL x = true) : (x.f0 = 1 ∧ 0 ≤ x.f1 ∧ x.f1 < 32) ∨ (x.f0 = 2 ∧ 0 ≤ x.f1 ∧ x.f1 < 160) := by
  unfold mayL at h
  split at h
  · rename_i h1; exact .inl ⟨h1, of_decide_eq_true h⟩
  · split at h
    · rename_i h1; exact .inr ⟨h1, of_decide_eq_true h⟩
    · cases h
theorem locN_nOf {x : SLoc} (h : mayL x = true) : locN (nOf x) = x ∧ NumP (nOf x) ∧ nOf x ≤ 400 ∧ 1 ≤ nOf x := by
  obtain ⟨a, b⟩ := x
  unfold locN nOf
  rcases may_cases h with ⟨h1, h2, h3⟩ | ⟨h1, h2, h3⟩ <;> simp only at h1 h2 h3 <;> subst h1
  · have e : (2 * b + 1) % 2 = 1 := by omega
    refine ⟨?_, ⟨by simp only; omega, by simp only; omega⟩, by simp only; omega, by simp only; omega⟩
    simp only [e]
    rw [Int.tdiv_eq_ediv_of_nonneg (by omega)]
    congr 1
    omega
  · have e : (2 * b + 2) % 2 = 0 := by omega
    refine ⟨?_, ⟨by simp only; omega, by simp only; omega⟩, by simp only; omega, by simp only; omega⟩
    simp only [e]
    rw [Int.tdiv_eq_ediv_of_nonneg (by omega)]
    congr 1
    omega
theorem Cod.retc {α : Type} (x : α) {P : α → Prop} (h : ∀ y, P y ↔ y = x) : Cod (pRet x) (fun _ => []) P := (Cod.ret x).congr (fun _ _ => rfl) (fun y => (h y).symm)
theorem cod_loc : Cod pLoc (fun x => putL (nOf x)) (fun x => mayL x = true) := by
  have h := (cod_up mx 5).bind' (f := fun n => pBind (pChk (!mayL (locN n)) 5) fun _ => pRet (locN n)) (t := fun _ _ => []) (Q := fun n y => mayL (locN n) = true ∧ y = locN n) nOf
    (fun n y hn hy => by rw [hy.2]; exact loc_back hn.1.1 hy.1)
    (fun n hn => (Cod.chk (fun _ => Cod.ret (locN n))).congr (fun _ _ => rfl) (fun y => by simp))
  refine (h.imp (fun l => rfl)).congr (fun x _ => by simp) (fun x => ⟨fun hx => ?_, fun hx => ?_⟩)
  · obtain ⟨_, h1, h2⟩ := hx
    rw [h2]; exact h1
  · obtain ⟨h1, h2, h3, h4⟩ := locN_nOf hx
    exact ⟨⟨h2, by unfold mx; omega⟩, by rw [h1]; exact hx, h1.symm⟩
theorem cod_above (last top : Int) (h0 : -1 ≤ last) (h1 : last ≤ top) (h2 : top ≤ mx) (h3 : top - last ≤ mx) : Cod (pAbove last top) (fun y => putL (y - last)) (fun y => last < y ∧ y ≤ top) := by
  have h := (cod_up mx 5).bind' (f := fun n => pBind (pChk (n == 0) 10) fun _ => pBind (pChk (decide (top - last < n)) 5) fun _ => pRet (last + n)) (t := fun _ _ => []) (Q := fun n y => n ≠ 0 ∧ n ≤ top - last ∧ y = last + n) (fun y => y - last)
    (fun n y hn hy => by rw [hy.2.2]; omega)
    (fun n hn => (Cod.chk (fun _ => Cod.chk (fun _ => Cod.ret (last + n)))).congr (fun _ _ => rfl) (fun y => by simp))
  refine (h.imp (fun l => rfl)).congr (fun x _ => by simp) (fun x => ⟨fun hx => ?_, fun hx => ?_⟩)
  · obtain ⟨⟨⟨h1, _⟩, _⟩, h2, h3, h4⟩ := hx
    exact ⟨by omega, by omega⟩
  · refine ⟨⟨⟨by omega, by unfold mx at *; omega⟩, by omega⟩, by omega, by omega, by omega⟩
/-- the registers' sum, the slots -/
def maskOf : List SLoc → Int
  | [] => 0
  | x :: xs => (if x.f0 = 1 then 2 ^ x.f1.toNat else 0) + maskOf xs
def slotsOf : List SLoc → List Int
  | [] => []
  | x :: xs => if x.f0 = 1 then slotsOf xs else x.f1 :: slotsOf xs
theorem maskOf_app (a b : List SLoc) : maskOf (a ++ b) = maskOf a + maskOf b := by
  induction a with
  | nil => simp [maskOf]
  | cons x xs ih => simp only [List.cons_append, maskOf, ih]; omega
theorem slotsOf_app (a b : List SLoc) : slotsOf (a ++ b) = slotsOf a ++ slotsOf b := by
  induction a with
  | nil => simp [slotsOf]
  | cons x xs ih => simp only [List.cons_append, slotsOf, ih]; split <;> simp
theorem mask_regs (ns : List Nat) : maskOf (ns.map fun (i : Nat) => (⟨1, (i : Int)⟩ : SLoc)) = ((ns.map fun i => 2 ^ i).sum : Nat) ∧ slotsOf (ns.map fun (i : Nat) => (⟨1, (i : Int)⟩ : SLoc)) = [] := by
  induction ns with
  | nil => simp [maskOf, slotsOf]
  | cons x xs ih => simp [maskOf, slotsOf, ih]
theorem mask_slots (ks : List Int) : maskOf (ks.map fun k => (⟨2, k⟩ : SLoc)) = 0 ∧ slotsOf (ks.map fun k => (⟨2, k⟩ : SLoc)) = ks := by
  induction ks with
  | nil => simp [maskOf, slotsOf]
  | cons x xs ih => simp [maskOf, slotsOf, ih]
theorem lowB_succ (m t : Nat) : lowB m (t + 1) = lowB m t ++ (if m.testBit t then [t] else []) := by
  unfold lowB
  rw [List.range_succ, List.filter_append]
  congr 1
  cases h : m.testBit t <;> simp [h]
theorem low_sum (m : Nat) : ∀ t, ((lowB m t).map fun i => 2 ^ i).sum = m % 2 ^ t := by
  intro t
  induction t with
  | zero => simp [lowB, Nat.mod_one]
  | succ t ih =>
    rw [lowB_succ, List.map_append, List.sum_append, ih, Nat.mod_pow_succ]
    have h2 := Nat.testBit_eq_decide_div_mod_eq (x := m) (i := t)
    by_cases h : m / 2 ^ t % 2 = 1
    · have h3 : m.testBit t = true := by rw [h2]; simpa using h
      rw [h3, h]; simp
    · have h3 : m.testBit t = false := by rw [h2]; simpa using h
      have h4 : m / 2 ^ t % 2 = 0 := by omega
      rw [h3, h4]; simp
theorem mask_bits (m : Nat) (h : m < 4294967296) : maskOf (bitsOf (m : Int)) = m ∧ slotsOf (bitsOf (m : Int)) = [] := by
  rw [bitsOf_low]
  obtain ⟨h1, h2⟩ := mask_regs (lowB m 32)
  refine ⟨?_, h2⟩
  rw [h1, low_sum, Nat.mod_eq_of_lt h]
/-- registers that rise are just their sum's bits -/
theorem regs_bits (ns : List Nat) : ∀ t, Rise (· < ·) ns → (∀ n ∈ ns, n < t) → ((ns.map fun i => 2 ^ i).sum < 2 ^ t) ∧ lowB ((ns.map fun i => 2 ^ i).sum) t = ns := by
  induction ns using snocRec with
  | h0 => intro t _ _; refine ⟨by simp; exact Nat.two_pow_pos t, ?_⟩; simp [lowB]
  | h1 ns x ih =>
    intro t hr ht
    obtain ⟨h1, h2⟩ := Rise.snoc.1 hr
    have hlt : ∀ n ∈ ns, n < x := by
      intro n hn
      obtain ⟨i, hi, rfl⟩ := List.getElem_of_mem hn
      have hl : ∀ i j (hij : i < j) (hj : j < (ns ++ [x]).length), (ns ++ [x])[i]'(by omega) < (ns ++ [x])[j] := by
        intro i j
        induction j with
        | zero => intro hij; omega
        | succ j ih2 =>
          intro hij hj
          have h3 := hr j hj
          by_cases e : i = j
          · subst e; exact h3
          · exact Nat.lt_trans (ih2 (by omega) (by omega)) h3
      have := hl i ns.length hi (by simp)
      rw [List.getElem_append_left hi, List.getElem_append_right (by omega)] at this
      simpa using this
    obtain ⟨h3, h4⟩ := ih x h1 hlt
    have hx : x < t := ht x (by simp)
    obtain ⟨S, hS⟩ : ∃ S, (ns.map fun i => 2 ^ i).sum = S := ⟨_, rfl⟩
    rw [hS] at h3 h4
    have e : ((ns ++ [x]).map fun i => 2 ^ i).sum = 2 ^ x + S := by simp [hS]; omega
    rw [e]
    have hp : 2 ^ x + S < 2 ^ (x + 1) := by rw [Nat.pow_succ]; omega
    have hpt : 2 ^ (x + 1) ≤ 2 ^ t := Nat.pow_le_pow_right (by decide) (by omega)
    refine ⟨by omega, ?_⟩
    rw [lowB_same _ (x + 1) t (by omega) (fun i hi _ => Nat.testBit_lt_two_pow (Nat.lt_of_lt_of_le hp (Nat.pow_le_pow_right (by decide) hi)))]
    rw [lowB_succ]
    have ht1 : (2 ^ x + S).testBit x = true := by
      rw [Nat.testBit_two_pow_add_eq, Nat.testBit_lt_two_pow h3]; rfl
    rw [ht1, if_pos rfl]
    congr 1
    rw [← h4]
    unfold lowB
    refine List.filter_congr fun i hi => ?_
    rw [Nat.testBit_two_pow_add_gt (List.mem_range.1 hi)]
/-- places that rise, all of which may be -/
structure RefsP (rs : List SLoc) : Prop where
  rise : Rise (fun x y => befL x y = true) rs
  may : ∀ x ∈ rs, mayL x = true
theorem bef_iff (x y : SLoc) : befL x y = true ↔ (x.f0 < y.f0 ∨ (x.f0 = y.f0 ∧ x.f1 < y.f1)) := by unfold befL; exact decide_eq_true_iff
theorem RefsP.split {rs : List SLoc} (h : RefsP rs) : ∃ (ns : List Nat) (ks : List Int), rs = (ns.map fun (i : Nat) => (⟨1, (i : Int)⟩ : SLoc)) ++ ks.map (fun k => ⟨2, k⟩) ∧ Rise (· < ·) ns ∧ (∀ n ∈ ns, n < 32) ∧ Rise (· < ·) ks ∧ ∀ k ∈ ks, 0 ≤ k ∧ k < 160 := by
  obtain ⟨h1, h2⟩ := h
  induction rs using snocRec with
  | h0 => exact ⟨[], [], rfl, Rise.nil _, by simp, Rise.nil _, by simp⟩
  | h1 rs x ih =>
    obtain ⟨h3, h4⟩ := Rise.snoc.1 h1
    obtain ⟨ns, ks, rfl, h5, h6, h7, h8⟩ := ih h3 (fun y hy => h2 y (List.mem_append_left _ hy))
    obtain ⟨a, b⟩ := x
    rcases may_cases (h2 ⟨a, b⟩ (by simp)) with ⟨h9, ha, hb⟩ | ⟨h9, ha, hb⟩ <;> simp only at h9 ha hb <;> subst h9
    · obtain rfl : ks = [] := by
        rcases List.eq_nil_or_concat ks with rfl | ⟨zs, z, rfl⟩
        · rfl
        · have := h4 ⟨2, z⟩ (by simp)
          rw [bef_iff] at this
          simp at this
      refine ⟨ns ++ [b.toNat], [], by simp; omega, Rise.snoc.2 ⟨h5, fun y hy => ?_⟩, fun n hn => ?_, h7, h8⟩
      · have := h4 ⟨1, y⟩ (by simp [hy])
        rw [bef_iff] at this
        simp at this
        omega
      · rcases List.mem_append.1 hn with hn | hn
        · exact h6 n hn
        · rw [List.mem_singleton.1 hn]; omega
    · refine ⟨ns, ks ++ [b], by simp, h5, h6, Rise.snoc.2 ⟨h7, fun y hy => ?_⟩, fun n hn => ?_⟩
      · have := h4 ⟨2, y⟩ (by simp [hy])
        rw [bef_iff] at this
        simp at this
        omega
      · rcases List.mem_append.1 hn with hn | hn
        · exact h8 n hn
        · rw [List.mem_singleton.1 hn]; omega
theorem RefsP.of_split {ns : List Nat} {ks : List Int} (h1 : Rise (· < ·) ns) (h2 : ∀ n ∈ ns, n < 32) (h3 : Rise (· < ·) ks) (h4 : ∀ k ∈ ks, 0 ≤ k ∧ k < 160) :
    RefsP ((ns.map fun (i : Nat) => (⟨1, (i : Int)⟩ : SLoc)) ++ ks.map (fun k => ⟨2, k⟩)) := by
  refine ⟨?_, fun x hx => ?_⟩
  · induction ks using snocRec with
    | h0 =>
      simp only [List.map_nil, List.append_nil]
      exact h1.map (fun x _ y _ hxy => by rw [bef_iff]; right; exact ⟨rfl, by simp only; omega⟩)
    | h1 ks x ih =>
      obtain ⟨h5, h6⟩ := Rise.snoc.1 h3
      rw [List.map_append, ← List.append_assoc]
      refine Rise.snoc.2 ⟨ih h5 (fun k hk => h4 k (List.mem_append_left _ hk)), fun y hy => ?_⟩
      rw [bef_iff]
      rcases List.eq_nil_or_concat ks with rfl | ⟨zs, z, rfl⟩
      · simp at hy
        obtain ⟨a, _, rfl⟩ := hy
        left; simp
      · simp at hy
        subst hy
        right
        exact ⟨rfl, h6 z (by simp)⟩
  · rcases List.mem_append.1 hx with hx | hx
    · obtain ⟨n, hn, rfl⟩ := List.mem_map.1 hx
      have := h2 n hn
      simp [mayL]; omega
    · obtain ⟨n, hn, rfl⟩ := List.mem_map.1 hx
      have := h4 n hn
      simp [mayL]; omega
theorem lowB_rise (m t : Nat) : Rise (· < ·) (lowB m t) ∧ ∀ n ∈ lowB m t, n < t := by
  induction t with
  | zero => exact ⟨by unfold lowB; exact Rise.nil _, by simp [lowB]⟩
  | succ t ih =>
    rw [lowB_succ]
    split
    · refine ⟨Rise.snoc.2 ⟨ih.1, fun y hy => ih.2 y (List.mem_of_getLast? hy)⟩, fun n hn => ?_⟩
      rcases List.mem_append.1 hn with hn | hn
      · have := ih.2 n hn; omega
      · rw [List.mem_singleton.1 hn]; omega
    · simp only [List.append_nil]
      exact ⟨ih.1, fun n hn => by have := ih.2 n hn; omega⟩
/-- slots' steps -/
def stepsL (ks : List Int) : List Int := growS (fun xs k => putL (k - lastI xs)) [] ks
def refsS (rs : List SLoc) : List Int := putL (maskOf rs) ++ (putL (slotsOf rs).length ++ stepsL (slotsOf rs))
theorem lastI_of {xs : List Int} {y : Int} (h : xs.getLast? = some y) : lastI xs = y := by unfold lastI; rw [h]; rfl
theorem lastI_ge {xs : List Int} (h : ∀ x ∈ xs, -1 ≤ x) : -1 ≤ lastI xs := by
  rcases List.eq_nil_or_concat xs with rfl | ⟨zs, z, rfl⟩
  · decide
  · have : lastI (zs.concat z) = z := lastI_of (by simp)
    rw [this]; exact h z (by simp)
theorem rise_last {xs : List Int} : growP (fun ys y => lastI ys < y ∧ y ≤ 159) [] xs ↔ Rise (· < ·) xs ∧ ∀ k ∈ xs, 0 ≤ k ∧ k < 160 := by
  induction xs using snocRec with
  | h0 => exact ⟨fun _ => ⟨Rise.nil _, by simp⟩, fun _ => trivial⟩
  | h1 xs x ih =>
    rw [growP_snoc, ih, Rise.snoc]
    constructor
    · rintro ⟨⟨h1, h2⟩, h3, h4⟩
      refine ⟨⟨h1, fun y hy => by rw [← lastI_of hy]; exact h3⟩, fun k hk => ?_⟩
      rcases List.mem_append.1 hk with hk | hk
      · exact h2 k hk
      · rw [List.mem_singleton.1 hk]
        have := lastI_ge (xs := xs) (fun x hx => by have := h2 x hx; omega)
        simp only [List.nil_append] at h3
        omega
    · rintro ⟨⟨h1, h2⟩, h3⟩
      refine ⟨⟨h1, fun k hk => h3 k (List.mem_append_left _ hk)⟩, ?_, by have := h3 x (by simp); omega⟩
      simp only [List.nil_append]
      cases hl : xs.getLast? with
      | none =>
        have : xs = [] := List.getLast?_eq_none_iff.1 hl
        subst this
        have := h3 x (by simp)
        show (-1 : Int) < x
        omega
      | some y => rw [lastI_of hl]; exact h2 y hl
theorem cod_steps (n : Nat) : Cod (pGrow (fun xs => pAbove (lastI xs) 159) n) stepsL (fun ks => ks.length = n ∧ (Rise (· < ·) ks ∧ ∀ k ∈ ks, 0 ≤ k ∧ k < 160)) := by
  refine (Cod.grow (P := fun ys y => lastI ys < y ∧ y ≤ 159) (fun xs hxs => ?_) n).congr (fun _ _ => rfl) (fun ks => by rw [rise_last])
  obtain ⟨h1, h2⟩ := rise_last.1 hxs
  have h3 := lastI_ge (xs := xs) (fun x hx => by have := h2 x hx; omega)
  have h4 : lastI xs ≤ 159 := by
    rcases List.eq_nil_or_concat xs with rfl | ⟨zs, z, rfl⟩
    · decide
    · have : lastI (zs.concat z) = z := lastI_of (by simp)
      rw [this]; have := h2 z (by simp); omega
  exact cod_above _ _ h3 h4 (by decide) (by unfold mx; omega)
theorem cod_refs : Cod pRefs refsS RefsP := by
  have h := (cod_up 4294967295 5).bind' (f := fun m => pBind (pUp 160 9) fun n => pBind (pGrow (fun xs => pAbove (lastI xs) 159) n.toNat) fun ks => pRet (bitsOf m ++ ks.map fun k => ⟨2, k⟩)) (t := fun _ rs => putL (slotsOf rs).length ++ stepsL (slotsOf rs)) (Q := fun m rs => ∃ ks, ks.length ≤ 160 ∧ (Rise (· < ·) ks ∧ ∀ k ∈ ks, 0 ≤ k ∧ k < 160) ∧ rs = bitsOf m ++ ks.map fun k => ⟨2, k⟩) maskOf
    (fun m rs hm hr => by
      obtain ⟨ks, _, _, rfl⟩ := hr
      obtain ⟨mN, rfl⟩ := Int.eq_ofNat_of_zero_le hm.1.1
      rw [maskOf_app, (mask_slots ks).1, (mask_bits mN (by have := hm.2; omega)).1]
      omega)
    (fun m hm => by
      obtain ⟨mN, rfl⟩ := Int.eq_ofNat_of_zero_le hm.1.1
      have hmb := mask_bits mN (by have := hm.2; omega)
      have h2 := (cod_up 160 9).bind' (f := fun n => pBind (pGrow (fun xs => pAbove (lastI xs) 159) n.toNat) fun ks => pRet (bitsOf (mN : Int) ++ ks.map fun k => (⟨2, k⟩ : SLoc))) (t := fun _ rs => stepsL (slotsOf rs)) (Q := fun n rs => ∃ ks, (ks.length = n.toNat ∧ (Rise (· < ·) ks ∧ ∀ k ∈ ks, 0 ≤ k ∧ k < 160)) ∧ rs = bitsOf (mN : Int) ++ ks.map fun k => (⟨2, k⟩ : SLoc)) (fun rs => ((slotsOf rs).length : Int))
        (fun n rs hn hr => by
          obtain ⟨ks, ⟨h3, _⟩, rfl⟩ := hr
          rw [slotsOf_app, (mask_slots ks).2, hmb.2]
          have := hn.1.1
          simp; omega)
        (fun n hn => ((cod_steps n.toNat).map (fun ks => bitsOf (mN : Int) ++ ks.map fun k => (⟨2, k⟩ : SLoc)) slotsOf (fun ks _ => by rw [slotsOf_app, (mask_slots ks).2, hmb.2]; rfl)).congr (fun _ _ => rfl) (fun rs => ⟨fun hr => ⟨_, hr.1, hr.2⟩, fun hr => by
          obtain ⟨ks, h3, rfl⟩ := hr
          have e : slotsOf (bitsOf (mN : Int) ++ ks.map fun k => (⟨2, k⟩ : SLoc)) = ks := by rw [slotsOf_app, (mask_slots ks).2, hmb.2]; rfl
          rw [e]; exact ⟨h3, rfl⟩⟩))
      refine h2.congr (fun _ _ => rfl) (fun rs => ⟨fun hr => ?_, fun hr => ?_⟩)
      · obtain ⟨⟨h3, h4⟩, ks, ⟨h5, h6⟩, h7⟩ := hr
        exact ⟨ks, by rw [h5]; omega, h6, h7⟩
      · obtain ⟨ks, h3, h4, rfl⟩ := hr
        have e : slotsOf (bitsOf (mN : Int) ++ ks.map fun k => (⟨2, k⟩ : SLoc)) = ks := by rw [slotsOf_app, (mask_slots ks).2, hmb.2]; rfl
        rw [e]
        exact ⟨⟨⟨by omega, by omega⟩, by omega⟩, ks, ⟨by omega, h4⟩, rfl⟩)
  refine (h.imp (fun l => rfl)).congr (fun rs _ => rfl) (fun rs => ⟨fun hr => ?_, fun hr => ?_⟩)
  · obtain ⟨⟨⟨h1, _⟩, h2⟩, ks, h3, h4, h5⟩ := hr
    obtain ⟨mN, hm⟩ := Int.eq_ofNat_of_zero_le h1
    rw [h5, hm, bitsOf_low]
    obtain ⟨h6, h7⟩ := lowB_rise mN 32
    exact RefsP.of_split h6 h7 h4.1 h4.2
  · obtain ⟨ns, ks, rfl, h1, h2, h3, h4⟩ := hr.split
    obtain ⟨h5, h6⟩ := regs_bits ns 32 h1 h2
    have hl := rise_len h3 0 160 (by decide) (fun x hx => (h4 x hx).1) (fun x hx => (h4 x hx).2)
    have em : maskOf ((ns.map fun (i : Nat) => (⟨1, (i : Int)⟩ : SLoc)) ++ ks.map (fun k => ⟨2, k⟩)) = (((ns.map fun i => 2 ^ i).sum : Nat) : Int) := by
      rw [maskOf_app, (mask_slots ks).1, (mask_regs ns).1]; omega
    obtain ⟨S, hS⟩ : ∃ S, (ns.map fun i => 2 ^ i).sum = S := ⟨_, rfl⟩
    rw [hS] at h5 h6 em
    rw [em]
    refine ⟨⟨⟨by omega, by omega⟩, by omega⟩, ks, by omega, ⟨h3, h4⟩, ?_⟩
    rw [bitsOf_low, h6]
end Go.Proofs.YtceibabhmomfiaaDoor.H
