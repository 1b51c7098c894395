/- Plain: what the encoder lays; an append of bytes. -/
import Derived.Test.YtceibabhmomfiaaDoorQd
import Derived.Test.YtceibabhmomfiaaDoorPa3
namespace Go.Proofs.YtceibabhmomfiaaDoor.H
open Go.RowKit Go.Proofs.YtceibabhmomfiaaDoorW.PrintWords Go.Proofs.YtceibabhmomfiaaDoorW.PrintLast
set_option linter.unusedVariables false
set_option linter.unusedSimpArgs false

section
variable {ops : Array Oper} {rest : List Oper} {o : Oper} {a : Act} {Q : Exit → Act → World → Prop}
/-- append(v, ys...), bytes, one's own row made from base on. -/
theorem app_bytes_ {base : Nat} {W : World} {v : Value} {xs ys : List Int} {A : Option Addr} {c : Nat} (HO : OwnAt (Kd.int .u8) 5 base W v xs) (hbase : base ≤ W.heap.size) (HR : RdB W A ys) (hgd : o.guard = none) (s x : Operand)
    (ho : o.op = .call { callee := .builtin .append, args := #[s, x], argTypes := #[22, 22] })
    (hl : xs.length + ys.length ≤ 140737488355328) (hs : a.eval s = v) (hx : a.eval x = .slice A ys.length c)
    (h : ∀ v1 w1, OwnAt (Kd.int .u8) 5 base w1 v1 (xs ++ ys) → KT [5] base W w1 → wpList Tryd.prog ops Q rest (a.put o.dst v1) w1) :
    wpList Tryd.prog ops Q (o :: rest) a W := by
  refine Kd.R_append_rows (Kd.int .u8) (Rr := (Kd.int .u8).K W) (w0 := W) base hgd s x 22 5 (.int .u8 0) 1 ho Tryd.underlying22 info_u8 rfl (by decide) (by omega) v xs ys A ys.length c (fun _ => True) (fun _ => False) hs hx HO.out HR.out (fun _ _ hk => hk) (fun _ hk => hk.elim) (fun _ _ => trivial) (Below.refl _ _) hbase (by omega) ?_
  intro v1 w1 ho hb hg hat
  obtain ⟨inner, hrow⟩ := Kd.R_own HO.out
  exact h v1 w1 ⟨ho⟩ (KT.grown hrow hg (by simp) (Nat.le_refl _) hbase)
end
/-- each number's distance from the one before -/
def diffs : Int → List Int → List Int
  | _, [] => []
  | a, k :: ks => (k - a) :: diffs k ks
theorem diffs_snoc (ks : List Int) (k : Int) : ∀ a, diffs a (ks ++ [k]) = diffs a ks ++ [k - (ks.getLast?.getD a)] := by
  induction ks with
  | nil => intro a; rfl
  | cons x xs ih =>
    intro a
    simp only [List.cons_append, diffs, ih]
    congr 3
    cases xs with
    | nil => rfl
    | cons y ys => simp [List.getLast?_cons]
theorem diffs_steps (ks : List Int) : stepsL ks = listL (diffs (-1) ks) := by
  induction ks using snocRec with
  | h0 => rfl
  | h1 ks k ih =>
    unfold stepsL at ih ⊢
    rw [growS_snoc, ih, diffs_snoc, listL_snoc]
    rfl
theorem diffs_len (ks : List Int) : ∀ a, (diffs a ks).length = ks.length := by
  induction ks with
  | nil => intro a; rfl
  | cons x xs ih => intro a; simp [diffs, ih]
theorem take_snocL {α : Type} (l : List α) (k : Nat) (h : k < l.length) : l.take (k + 1) = l.take k ++ [l[k]] := List.take_succ_eq_append_getElem h
theorem maskOf_one (x : SLoc) : maskOf [x] = if x.f0 = 1 then 2 ^ x.f1.toNat else 0 := by simp [maskOf]
theorem slotsOf_one (x : SLoc) : slotsOf [x] = if x.f0 = 1 then [] else [x.f1] := by simp [slotsOf]
/-- a register is above all the bits so far -/
theorem mask_below {rs : List SLoc} (h : RefsP rs) (j : Nat) (hj : j < rs.length) (h1 : (rs[j]).f0 = 1) : 0 ≤ maskOf (rs.take j) ∧ maskOf (rs.take j) < 2 ^ (rs[j]).f1.toNat ∧ 0 ≤ (rs[j]).f1 ∧ (rs[j]).f1 < 32 := by
  obtain ⟨ns, ks, rfl, hr, h2, h3, h4⟩ := h.split
  have hjn : j < ns.length := by
    refine Classical.byContradiction fun hn => ?_
    rw [List.getElem_append_right (by simp; omega)] at h1
    simp at h1
  have e1 : ((ns.map fun (i : Nat) => (⟨1, (i : Int)⟩ : SLoc)) ++ ks.map (fun k => (⟨2, k⟩ : SLoc))).take j = (ns.take j).map fun (i : Nat) => (⟨1, (i : Int)⟩ : SLoc) := by
    rw [List.take_append_of_le_length (by simp; omega), List.map_take]
  have e2 : ((ns.map fun (i : Nat) => (⟨1, (i : Int)⟩ : SLoc)) ++ ks.map (fun k => (⟨2, k⟩ : SLoc)))[j] = ⟨1, (ns[j] : Int)⟩ := by
    rw [List.getElem_append_left (by simpa using hjn)]; simp
  rw [e1, e2, (mask_regs _).1]
  have hrt : Rise (· < ·) (ns.take j) := fun i hi => by
    rw [List.length_take] at hi
    simp only [List.getElem_take]
    exact hr i (by omega)
  have hlt : ∀ n ∈ ns.take j, n < ns[j] := by
    intro n hn
    obtain ⟨i, hi, rfl⟩ := List.getElem_of_mem hn
    rw [List.length_take] at hi
    simp only [List.getElem_take]
    have hl : ∀ a b (hab : a < b) (hb : b < ns.length), ns[a]'(by omega) < ns[b] := by
      intro a b
      induction b with
      | zero => intro hab; omega
      | succ b ih =>
        intro hab hb
        have h3 := hr b hb
        by_cases e : a = b
        · subst e; exact h3
        · exact Nat.lt_trans (ih (by omega) (by omega)) h3
    exact hl i j (by omega) hjn
  obtain ⟨h5, _⟩ := regs_bits (ns.take j) ns[j] hrt hlt
  have h6 := h2 _ (List.getElem_mem hjn)
  obtain ⟨S, hS⟩ : ∃ S, ((ns.take j).map fun i => 2 ^ i).sum = S := ⟨_, rfl⟩
  rw [hS] at h5 ⊢
  refine ⟨by omega, ?_, by simp only; omega, by simp only; omega⟩
  simp only [Int.toNat_natCast]
  rw [show ((2 : Int) ^ ns[j]) = ((2 ^ ns[j] : Nat) : Int) by push_cast; rfl]
  exact Int.ofNat_lt.2 h5
theorem or_u32 (a n : Nat) (h : a < 2 ^ n) (hn : n < 32) : bits .or .u32 (a : Int) ((2 ^ n : Nat) : Int) = ((a + 2 ^ n : Nat) : Int) := by
  have hp : 2 ^ n ≤ 2 ^ 31 := Nat.pow_le_pow_right (by decide) (by omega)
  show IntKind.u32.wrap ((BitVec.ofInt 32 a ||| BitVec.ofInt 32 ((2 ^ n : Nat) : Int)).toNat : Int) = _
  rw [BitVec.toNat_or, BitVec.toNat_ofInt, BitVec.toNat_ofInt, IntKind.wrap_u32]
  have e1 : ((a : Int) % ((2 ^ 32 : Nat) : Int)).toNat = a := by omega
  have e2 : (((2 ^ n : Nat) : Int) % ((2 ^ 32 : Nat) : Int)).toNat = 2 ^ n := by omega
  rw [e1, e2, Nat.or_comm]
  have := Nat.two_pow_add_eq_or_of_lt h 1
  rw [Nat.mul_one] at this
  rw [← this]
  omega
theorem few_of {l : List SChart} (h : RightP l) : FewC l := ⟨by have := h.few; omega, fun c hc => ⟨by have := (h.all c hc).refs.few; omega, by have := (h.all c hc).ders.few; omega⟩⟩
theorem slots_take {rs : List SLoc} (h : RefsP rs) (j : Nat) : ∀ k ∈ slotsOf (rs.take j), 0 ≤ k ∧ k < 160 := by
  intro k hk
  have e : slotsOf rs = slotsOf (rs.take j) ++ slotsOf (rs.drop j) := by rw [← slotsOf_app, List.take_append_drop]
  exact (slots_ok h).2 k (by rw [e]; exact List.mem_append_left _ hk)
theorem diffs_ok (ks : List Int) : ∀ a, -1 ≤ a → a ≤ 200 → (∀ k ∈ ks, 0 ≤ k ∧ k < 160) → ∀ x ∈ diffs a ks, -1000 ≤ x ∧ x ≤ 1000 := by
  induction ks with
  | nil => intro a _ _ _ x hx; cases hx
  | cons k ks ih =>
    intro a h0 h1 hk x hx
    have h2 := hk k (by simp)
    rcases List.mem_cons.1 hx with rfl | hx
    · omega
    · exact ih k (by omega) (by omega) (fun y hy => hk y (List.mem_cons_of_mem _ hy)) x hx
theorem take_len {l : List SChart} (h : RightP l) (k : Nat) : (putL (l.length : Int) ++ chartsS (l.take k)).length ≤ 13000000 := by
  have h1 := putL_len l.length
  have h2 := growS_len (s := fun xs c => chartS (lastA xs) c) (K := 6000) (l := l.take k) [] (fun xs c hc => chartS_len (h.all c (List.mem_of_mem_take hc)) _)
  have h3 := h.few
  rw [List.length_take] at h2
  unfold chartsS
  simp only [List.length_append]
  omega
end Go.Proofs.YtceibabhmomfiaaDoor.H
