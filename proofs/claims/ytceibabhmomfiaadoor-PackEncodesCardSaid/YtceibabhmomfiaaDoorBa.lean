/- Words of this work: rows of the call's own, what is read, appends. -/
import Derived.Test.YtceibabhmomfiaaDoorProg
import Derived.Test.YtceibabhmomfiaaDoorWWords
import Derived.WalkSpells
import Derived.Deep.RegionLaw
namespace Go.Proofs.YtceibabhmomfiaaDoor.H
open Go.RowKit Go.Proofs.YtceibabhmomfiaaDoorW.PrintWords
set_option linter.unusedVariables false
set_option linter.unusedSimpArgs false

theorem info_u8 : (Tryd.prog.info? 5).map (fun i => (i.zero, i.size, i.bytes)) = some (some (.int .u8 0), 1, 1) := by kernel_rfl
theorem info_int : (Tryd.prog.info? 3).map (fun i => (i.zero, i.size, i.bytes)) = some (some (.int .i64 0), 1, 8) := by kernel_rfl

/-- the frame in another spelling -/
theorem norm_act {E : Exit → Act → World → Prop} {x : Exit} {a a' : Act} {w : World} (ha : a = a') (h : E x a' w) : E x a w := by
  subst ha
  exact h
/-- a slice's length -/
def lenV : Value → Nat
  | .slice _ n _ => n
  | _ => 0
theorem lenV_slice (A : Option Addr) (n c : Nat) : lenV (.slice A n c) = n := rfl
/-- What was there is as it was. -/
abbrev Bel (w0 W : World) : Prop := Aside0 (Below w0.heap.size w0 W)
/-- A row of the call's own (elements of type e). -/
abbrev Own {α : Type} (d : Kd α) (e : Nat) (w0 W : World) (v : Value) (xs : List α) : Prop := Aside0 (Kd.R d e W w0.heap.size (fun _ => True) v xs)
abbrev OwnB (w0 W : World) (v : Value) (xs : List Int) : Prop := Own (Kd.int .u8) 5 w0 W v xs
abbrev OwnI (w0 W : World) (v : Value) (xs : List Int) : Prop := Own (Kd.int .i64) 3 w0 W v xs
/-- A row that is read. -/
abbrev Rd {α : Type} (d : Kd α) (W : World) (A : Option Addr) (xs : List α) : Prop := Aside0 (Kd.C d W A xs.length xs)
abbrev RdB (W : World) (A : Option Addr) (xs : List Int) : Prop := Rd (Kd.int .u8) W A xs
abbrev RdI (W : World) (A : Option Addr) (xs : List Int) : Prop := Rd (Kd.int .i64) W A xs

theorem Bel.refl (w : World) : Bel w w := ⟨Below.refl _ _⟩
theorem Bel.size {w0 W : World} (h : Bel w0 W) : w0.heap.size ≤ W.heap.size := below_size h.out
theorem Bel.trans {w0 W W1 : World} (h : Bel w0 W) (k : Bel W W1) : Bel w0 W1 := ⟨below_then h.out h.size k.out⟩
theorem Bel.drewN {w0 W : World} (h : Bel w0 W) (n : Nat) : Bel w0 (W.drewN n) := ⟨pw_below_drewN h.out n⟩
theorem Bel.alloc {w0 W : World} (h : Bel w0 W) (o : Obj) : Bel w0 (W.alloc o) := ⟨below_alloc h.out o⟩
theorem Bel.drawn {w W : World} (h : Drawn0 w W) : Bel w W := ⟨h.below⟩

section
variable {α : Type} {d : Kd α} {e : Nat}
theorem Own.nil (d : Kd α) (e : Nat) (w0 W : World) : Own d e w0 W (.slice none 0 0) [] := ⟨Kd.R_nil _ _ _ _ _⟩
theorem Own.step {w0 W W1 : World} {v : Value} {xs : List α} (h : Own d e w0 W v xs) (k : Bel W W1) : Own d e w0 W1 v xs := ⟨Kd.R_below h.out k.out⟩
theorem Own.drewN {w0 W : World} {v : Value} {xs : List α} (h : Own d e w0 W v xs) (n : Nat) : Own d e w0 (W.drewN n) v xs := h.step ((Bel.refl W).drewN n)
theorem Own.alloc {w0 W : World} {v : Value} {xs : List α} (h : Own d e w0 W v xs) (o : Obj) : Own d e w0 (W.alloc o) v xs := h.step ((Bel.refl W).alloc o)
/-- What was made since is made since an elder world. -/
theorem Own.lower {w0 w1 W : World} {v : Value} {xs : List α} (h : Own d e w1 W v xs) (k : Bel w0 w1) : Own d e w0 W v xs := ⟨Kd.R_lower h.out k.size⟩
theorem Own.reads {w0 W : World} {v : Value} {xs : List α} (h : Own d e w0 W v xs) : ∃ A c, v = .slice A xs.length c ∧ xs.length ≤ c ∧ Rd d W A xs := by
  obtain ⟨A, c, h1, h2, h3⟩ := Kd.R_reads h.out
  exact ⟨A, c, h1, h2, ⟨h3⟩⟩
theorem Rd.step {W W1 : World} {A : Option Addr} {xs : List α} (h : Rd d W A xs) (k : Bel W W1) : Rd d W1 A xs := ⟨Kd.C_below h.out k.out⟩
theorem Rd.drewN {W : World} {A : Option Addr} {xs : List α} (h : Rd d W A xs) (n : Nat) : Rd d (W.drewN n) A xs := h.step ((Bel.refl W).drewN n)
theorem Rd.alloc {W : World} {A : Option Addr} {xs : List α} (h : Rd d W A xs) (o : Obj) : Rd d (W.alloc o) A xs := h.step ((Bel.refl W).alloc o)
end

theorem Own.of_nums {k : IntKind} {e : Nat} {w0 W : World} {v : Value} {xs : List Int} (h : W.ownsRow w0.heap.size e 1 v xs.length (nums k xs)) : Own (Kd.int k) e w0 W v xs :=
  ⟨fun _ _ => trivial, nums k xs, h, by simp [nums, Kd.int, Kd.scalar], fun j q hq => by
    have hj := (List.getElem?_eq_some_iff.1 hq).1
    simp only [Kd.int, Kd.scalar, Nat.mul_one]
    rw [List.take_one, List.head?_drop]
    simp only [nums, List.getElem?_map, hq, Option.map_some]; rfl⟩
/-- A literal's row. -/
theorem Own.lit (k : IntKind) (e : Nat) {w0 W : World} (HB : Bel w0 W) (xs : List Int) (hm : xs.length ≤ 9223372036854775807) :
    Own (Kd.int k) e w0 (W.alloc (.cells (nums k xs).toArray e)) (.slice (some ⟨W.heap.size, 0, none⟩) xs.length xs.length) xs := Own.of_nums (own_lit W _ e k xs HB.size hm)
theorem Rd.lit (k : IntKind) (e : Nat) (W : World) (xs : List Int) (hm : xs.length ≤ 9223372036854775807) : Rd (Kd.int k) (W.alloc (.cells (nums k xs).toArray e)) (some ⟨W.heap.size, 0, none⟩) xs := by
  obtain ⟨A, c, h1, _, h3⟩ := (Own.lit k e (Bel.refl W) xs hm).reads
  injection h1 with h1
  rw [h1]
  exact h3
theorem rd_at {k : IntKind} {W : World} {A : Option Addr} {xs : List Int} (h : Rd (Kd.int k) W A xs) (i : Int) (h0 : 0 ≤ i) (h1 : i < (xs.length : Int)) : ∃ ad, A = some ad ∧ W.cell? (ad.add i.toNat) = some (.int k (rd xs i)) := Kd.at_int h.out i h0 h1

theorem Rd.nil_of {α : Type} {d : Kd α} {W : World} {A : Option Addr} {xs : List α} (h : Rd d W A xs) : A = none → xs = [] := by
  rintro rfl
  rcases Nat.eq_zero_or_pos xs.length with h0 | h0
  · exact List.eq_nil_of_length_eq_zero h0
  · obtain ⟨ad, e, _⟩ := h.out.2.2 h0
    cases e
theorem Rd.len {α : Type} {d : Kd α} {W : World} {A : Option Addr} {xs : List α} (h : Rd d W A xs) : xs.length ≤ 9223372036854775807 := h.out.2.1
/-- b[m:]: what is left is read as before. -/
theorem cut_u8 (A : Option Addr) (c : Nat) (xs : List Int) (m : Nat) (hm : m ≤ xs.length) (hc : xs.length ≤ c) :
    ∃ A' : Option Addr, (∀ W : World, (Instr.slice 22 (.slice A xs.length c) (some (.int .i64 (m : Int))) none none).run Tryd.prog W = .ok (.slice A' (xs.drop m).length (c - m)) W) ∧
      (∀ W : World, RdB W A xs → RdB W A' (xs.drop m)) ∧ (xs.drop m).length ≤ c - m := by
  obtain ⟨i0, hi, _, hsz, _⟩ := info_parts info_u8
  obtain ⟨A', h1, h2, h3⟩ := print_drop_of (P := Tryd.prog) (Value.int .u8) 0 22 5 .i64 Tryd.underlying22 hi hsz A c xs (m : Int) (by omega) (by omega) hc
  simp only [Int.toNat_natCast] at h1 h2 h3
  exact ⟨A', h1, fun W h => ⟨Kd.C_of_reads (h1 := fun _ => rfl) (h2 W (Kd.reads_of_C h.out))⟩, h3⟩
theorem rd_atN {k : IntKind} {W : World} {A : Option Addr} {xs : List Int} (h : Rd (Kd.int k) W A xs) (i : Nat) (h1 : i < xs.length) : ∃ ad, A = some ad ∧ W.cell? (ad.add i) = some (.int k (rd xs (i : Int))) := by
  obtain ⟨ad, e, hc⟩ := rd_at h (i : Int) (by omega) (by omega)
  exact ⟨ad, e, by simpa using hc⟩

section
variable {ops : Array Oper} {rest : List Oper} {o : Oper} {a : Act} {Q : Exit → Act → World → Prop}
theorem gate_b {b : Builtin} {xs : Array Operand} {ts : Array TypeId} (_ho : o.op = .call { callee := .builtin b, args := xs, argTypes := ts }) {W : World} (h : wpList Tryd.prog ops Q (o :: rest) a W) : wpList Tryd.prog ops Q (o :: rest) a W := h

/-- append(v, p), a byte. -/
theorem app_byte {w0 W : World} {v : Value} {xs : List Int} (HO : OwnB w0 W v xs) (HB : Bel w0 W) (hgd : o.guard = none) (s x : Operand) (p : Int)
    (ho : o.op = .call { callee := .builtin .append, args := #[s, x], argTypes := #[22, 22] })
    (hl : xs.length < 140737488355328) (hs : a.eval s = v) (hx : a.eval x = .slice (some ⟨W.heap.size, 0, none⟩) 1 1)
    (h : ∀ v1 w1, OwnB w0 w1 v1 (xs ++ [p]) → Bel w0 w1 → wpList Tryd.prog ops Q rest (a.put o.dst v1) w1) :
    wpList Tryd.prog ops Q (o :: rest) a (W.alloc (.cells #[.int .u8 p] 5)) := by
  refine Kd.R_append (Kd.int .u8) (w0 := w0) w0.heap.size hgd s x 22 5 (.int .u8 0) 1 ho Tryd.underlying22 info_u8 rfl (by decide) (by omega) v xs p [.int .u8 p] (fun _ => True) (fun _ => False) hs hx rfl (fun _ hk => hk.elim) (fun _ _ => trivial) HO.out HB.out (below_size HB.out) (by omega) ?_
  intro v1 w1 ho hb hg hat
  exact h v1 w1 ⟨ho⟩ ⟨hb⟩

/-- append(v, p), an int. -/
theorem app_int {w0 W : World} {v : Value} {xs : List Int} (HO : OwnI w0 W v xs) (HB : Bel w0 W) (hgd : o.guard = none) (s x : Operand) (p : Int)
    (ho : o.op = .call { callee := .builtin .append, args := #[s, x], argTypes := #[52, 52] })
    (hl : xs.length < 17592186044415) (hs : a.eval s = v) (hx : a.eval x = .slice (some ⟨W.heap.size, 0, none⟩) 1 1)
    (h : ∀ v1 w1, OwnI w0 w1 v1 (xs ++ [p]) → Bel w0 w1 → wpList Tryd.prog ops Q rest (a.put o.dst v1) w1) :
    wpList Tryd.prog ops Q (o :: rest) a (W.alloc (.cells #[.int .i64 p] 3)) := by
  refine Kd.R_append (Kd.int .i64) (w0 := w0) w0.heap.size hgd s x 52 3 (.int .i64 0) 8 ho Tryd.underlying52 info_int rfl (by decide) (by omega) v xs p [.int .i64 p] (fun _ => True) (fun _ => False) hs hx rfl (fun _ hk => hk.elim) (fun _ _ => trivial) HO.out HB.out (below_size HB.out) (by omega) ?_
  intro v1 w1 ho hb hg hat
  exact h v1 w1 ⟨ho⟩ ⟨hb⟩

/-- The same, in a region that draws its order. -/
theorem app_int_step {Kc : Act → World → Prop} {w0 W : World} {v : Value} {xs : List Int} (HO : OwnI w0 W v xs) (HB : Bel w0 W) (hgd : o.guard = none) (s x : Operand) (p : Int)
    (ho : o.op = .call { callee := .builtin .append, args := #[s, x], argTypes := #[52, 52] })
    (hl : xs.length < 17592186044415) (hs : a.eval s = v) (hx : a.eval x = .slice (some ⟨W.heap.size, 0, none⟩) 1 1)
    (h : ∀ v1 w1, OwnI w0 w1 v1 (xs ++ [p]) → Bel w0 w1 → Kc (a.put o.dst v1) w1) :
    if Region.wanted o (yielded ops a.tmps) = true then Oper.wp Tryd.prog o a (W.alloc (.cells #[.int .i64 p] 3)) Kc Q else Kc (a.put o.dst undef) (W.alloc (.cells #[.int .i64 p] 3)) := by
  refine Kd.R_append_step (Kd.int .i64) (w0 := w0) w0.heap.size (by simp [Region.wanted, hgd]) s x 52 3 (.int .i64 0) 8 ho Tryd.underlying52 info_int rfl (by decide) (by omega) v xs p [.int .i64 p] (fun _ => True) (fun _ => False) hs hx rfl (fun _ hk => hk.elim) (fun _ _ => trivial) HO.out HB.out (below_size HB.out) (by omega) ?_
  intro v1 w1 ho hb hg hat
  exact h v1 w1 ⟨ho⟩ ⟨hb⟩

/-- append(v, ys...), bytes. -/
theorem app_bytes {w0 W : World} {v : Value} {xs ys : List Int} {A : Option Addr} {c : Nat} (HO : OwnB w0 W v xs) (HB : Bel w0 W) (HR : RdB W A ys) (hgd : o.guard = none) (s x : Operand)
    (ho : o.op = .call { callee := .builtin .append, args := #[s, x], argTypes := #[22, 22] })
    (hl : xs.length + ys.length ≤ 140737488355328) (hs : a.eval s = v) (hx : a.eval x = .slice A ys.length c)
    (h : ∀ v1 w1, OwnB w0 w1 v1 (xs ++ ys) → Bel w0 w1 → wpList Tryd.prog ops Q rest (a.put o.dst v1) w1) :
    wpList Tryd.prog ops Q (o :: rest) a W := by
  refine Kd.R_append_rows (Kd.int .u8) (Rr := (Kd.int .u8).K W) (w0 := w0) w0.heap.size hgd s x 22 5 (.int .u8 0) 1 ho Tryd.underlying22 info_u8 rfl (by decide) (by omega) v xs ys A ys.length c (fun _ => True) (fun _ => False) hs hx HO.out HR.out (fun _ _ hk => hk) (fun _ hk => hk.elim) (fun _ _ => trivial) HB.out (below_size HB.out) (by omega) ?_
  intro v1 w1 ho hb hg hat
  exact h v1 w1 ⟨ho⟩ ⟨hb⟩

/-- A row of the call's own, or one that came in and has no room left. -/
def Full (w0 W : World) (v : Value) (xs : List Int) : Prop := Own (Kd.int .u8) 5 w0 W v xs ∨ ∃ A, v = .slice A xs.length xs.length ∧ (A = none → xs = []) ∧ Rd (Kd.int .u8) W A xs
abbrev FullB (w0 W : World) (v : Value) (xs : List Int) : Prop := Aside0 (Full w0 W v xs)
set_option maxRecDepth 100000
/-- append(v, p), a byte, behind a row without room. -/
theorem app_full {w0 W : World} {v : Value} {xs : List Int} (HO : FullB w0 W v xs) (HB : Bel w0 W) (hgd : o.guard = none) (s x : Operand) (p : Int)
    (ho : o.op = .call { callee := .builtin .append, args := #[s, x], argTypes := #[22, 22] })
    (hl : xs.length < 140737488355328) (hs : a.eval s = v) (hx : a.eval x = .slice (some ⟨W.heap.size, 0, none⟩) 1 1)
    (h : ∀ v1 w1, OwnB w0 w1 v1 (xs ++ [p]) → Bel w0 w1 → wpList Tryd.prog ops Q rest (a.put o.dst v1) w1) :
    wpList Tryd.prog ops Q (o :: rest) a (W.alloc (.cells #[.int .u8 p] 5)) := by
  rcases HO.out with HO | ⟨A, rfl, hA, HR⟩
  · exact app_byte HO HB hgd s x p ho hl hs hx h
  obtain ⟨i0, hi, hz0, hz1, hz2⟩ := info_parts info_u8
  have HB1 := HB.alloc (.cells #[.int .u8 p] 5)
  refine wpList_append_grows (W.alloc (.cells #[.int .u8 p] 5)) hgd s x 22 ho 5 i0 (.int .u8 0) 1 1 Tryd.underlying22 hi hz0 hz1 hz2 rfl (by decide) A xs.length xs.length (nums .u8 xs) hs (fun hn => by simp [hA hn]) (by simp [nums]) ?_
    ⟨W.heap.size, 0, none⟩ 1 1 [.int .u8 p] hx rfl (World.news_of_block (cs := #[.int .u8 p]) (t := 5) (fr := (0, 0)) (heap_alloc_new W _)) (fun u hu => by rw [List.mem_singleton.1 hu]; rfl) (by omega) (by simp only [maxLen]; omega) (by omega) ?_
  · intro b hb j u hu
    have hj : j < xs.length := by have := (List.getElem?_eq_some_iff.1 hu).1; simpa [nums] using this
    obtain ⟨ad, e, hc⟩ := rd_at (HR.alloc (.cells #[.int .u8 p] 5)) (j : Int) (by omega) (by omega)
    rw [hb] at e
    injection e with e
    subst e
    rw [show ((j : Int)).toNat = j by omega] at hc
    rw [hc]
    have : u = .int .u8 (xs.getD j 0) := by
      simp only [nums, List.getElem?_map, List.getElem?_eq_getElem hj, Option.map_some, Option.some.injEq] at hu
      rw [← hu, List.getD_eq_getElem?_getD, List.getElem?_eq_getElem hj]; rfl
    rw [this]; simp [rd]
  · intro v1 w1 hown hg
    have hb1 : Bel w0 w1 := ⟨pw_below_grown HB1.out none HB1.size hg (by simp)⟩
    exact h v1 w1 (Own.of_nums (by have := own_weaken hown HB1.size; simpa [nums] using this)) hb1
end
end Go.Proofs.YtceibabhmomfiaaDoor.H
