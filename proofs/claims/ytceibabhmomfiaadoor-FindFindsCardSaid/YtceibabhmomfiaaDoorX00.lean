/- Texts of this work, joined: Ba, Bk, Fa. Conditions: each stands with its theorem. -/
import Derived.Test.YtceibabhmomfiaaDoorProg
import Derived.Test.YtceibabhmomfiaaDoorWWords
import Derived.WalkSpells
import Derived.Deep.RegionLaw
import Derived.Test.YtceibabhmomfiaaDoorWLast
import Derived.Defers
import Derived.Laws.Pointers
import Derived.Laws.LoneSync
import Derived.RegionCalls
/- Words of this work: rows of the call's own, what is read, appends. -/
namespace Go.Proofs.YtceibabhmomfiaaDoor.H
open Go.RowKit Go.Proofs.YtceibabhmomfiaaDoorW.PrintWords
set_option linter.unusedVariables false
set_option linter.unusedSimpArgs false

theorem info_u8 : (Tryd.prog.info? 5).map (fun i => (i.zero, i.size, i.bytes)) = some (some (.int .u8 0), 1, 1) := by kernel_rfl
theorem info_int : (Tryd.prog.info? 3).map (fun i => (i.zero, i.size, i.bytes)) = some (some (.int .i64 0), 1, 8) := by kernel_rfl

/-- the frame in another spelling -/
theorem norm_act {E : Exit → Act → World → Prop} {x : Exit} {a a' : Act} {w : World} (ha : a = a') (h : E x a' w) : E x a w := by
  subst ha
  exact h
/-- a slice's length -/
def lenV : Value → Nat
  | .slice _ n _ => n
  | _ => 0
theorem lenV_slice (A : Option Addr) (n c : Nat) : lenV (.slice A n c) = n := rfl
/-- What was there is as it was. -/
abbrev Bel (w0 W : World) : Prop := Aside0 (Below w0.heap.size w0 W)
/-- A row of the call's own (elements of type e). -/
abbrev Own {α : Type} (d : Kd α) (e : Nat) (w0 W : World) (v : Value) (xs : List α) : Prop := Aside0 (Kd.R d e W w0.heap.size (fun _ => True) v xs)
abbrev OwnB (w0 W : World) (v : Value) (xs : List Int) : Prop := Own (Kd.int .u8) 5 w0 W v xs
abbrev OwnI (w0 W : World) (v : Value) (xs : List Int) : Prop := Own (Kd.int .i64) 3 w0 W v xs
/-- A row that is read. -/
abbrev Rd {α : Type} (d : Kd α) (W : World) (A : Option Addr) (xs : List α) : Prop := Aside0 (Kd.C d W A xs.length xs)
abbrev RdB (W : World) (A : Option Addr) (xs : List Int) : Prop := Rd (Kd.int .u8) W A xs
abbrev RdI (W : World) (A : Option Addr) (xs : List Int) : Prop := Rd (Kd.int .i64) W A xs

theorem Bel.refl (w : World) : Bel w w := ⟨Below.refl _ _⟩
theorem Bel.size {w0 W : World} (h : Bel w0 W) : w0.heap.size ≤ W.heap.size := below_size h.out
theorem Bel.trans {w0 W W1 : World} (h : Bel w0 W) (k : Bel W W1) : Bel w0 W1 := ⟨below_then h.out h.size k.out⟩
theorem Bel.drewN {w0 W : World} (h : Bel w0 W) (n : Nat) : Bel w0 (W.drewN n) := ⟨pw_below_drewN h.out n⟩
theorem Bel.alloc {w0 W : World} (h : Bel w0 W) (o : Obj) : Bel w0 (W.alloc o) := ⟨below_alloc h.out o⟩
theorem Bel.drawn {w W : World} (h : Drawn0 w W) : Bel w W := ⟨h.below⟩

section
variable {α : Type} {d : Kd α} {e : Nat}
theorem Own.nil (d : Kd α) (e : Nat) (w0 W : World) : Own d e w0 W (.slice none 0 0) [] := ⟨Kd.R_nil _ _ _ _ _⟩
theorem Own.step {w0 W W1 : World} {v : Value} {xs : List α} (h : Own d e w0 W v xs) (k : Bel W W1) : Own d e w0 W1 v xs := ⟨Kd.R_below h.out k.out⟩
theorem Own.drewN {w0 W : World} {v : Value} {xs : List α} (h : Own d e w0 W v xs) (n : Nat) : Own d e w0 (W.drewN n) v xs := h.step ((Bel.refl W).drewN n)
theorem Own.alloc {w0 W : World} {v : Value} {xs : List α} (h : Own d e w0 W v xs) (o : Obj) : Own d e w0 (W.alloc o) v xs := h.step ((Bel.refl W).alloc o)
/-- What was made since is made since an elder world. -/
theorem Own.lower {w0 w1 W : World} {v : Value} {xs : List α} (h : Own d e w1 W v xs) (k : Bel w0 w1) : Own d e w0 W v xs := ⟨Kd.R_lower h.out k.size⟩
theorem Own.reads {w0 W : World} {v : Value} {xs : List α} (h : Own d e w0 W v xs) : ∃ A c, v = .slice A xs.length c ∧ xs.length ≤ c ∧ Rd d W A xs := by
  obtain ⟨A, c, h1, h2, h3⟩ := Kd.R_reads h.out
  exact ⟨A, c, h1, h2, ⟨h3⟩⟩
theorem Rd.step {W W1 : World} {A : Option Addr} {xs : List α} (h : Rd d W A xs) (k : Bel W W1) : Rd d W1 A xs := ⟨Kd.C_below h.out k.out⟩
theorem Rd.drewN {W : World} {A : Option Addr} {xs : List α} (h : Rd d W A xs) (n : Nat) : Rd d (W.drewN n) A xs := h.step ((Bel.refl W).drewN n)
theorem Rd.alloc {W : World} {A : Option Addr} {xs : List α} (h : Rd d W A xs) (o : Obj) : Rd d (W.alloc o) A xs := h.step ((Bel.refl W).alloc o)
end

theorem Own.of_nums {k : IntKind} {e : Nat} {w0 W : World} {v : Value} {xs : List Int} (h : W.ownsRow w0.heap.size e 1 v xs.length (nums k xs)) : Own (Kd.int k) e w0 W v xs :=
  ⟨fun _ _ => trivial, nums k xs, h, by simp [nums, Kd.int, Kd.scalar], fun j q hq => by
    have hj := (List.getElem?_eq_some_iff.1 hq).1
    simp only [Kd.int, Kd.scalar, Nat.mul_one]
    rw [List.take_one, List.head?_drop]
    simp only [nums, List.getElem?_map, hq, Option.map_some]; rfl⟩
/-- A literal's row. -/
theorem Own.lit (k : IntKind) (e : Nat) {w0 W : World} (HB : Bel w0 W) (xs : List Int) (hm : xs.length ≤ 9223372036854775807) :
    Own (Kd.int k) e w0 (W.alloc (.cells (nums k xs).toArray e)) (.slice (some ⟨W.heap.size, 0, none⟩) xs.length xs.length) xs := Own.of_nums (own_lit W _ e k xs HB.size hm)
theorem Rd.lit (k : IntKind) (e : Nat) (W : World) (xs : List Int) (hm : xs.length ≤ 9223372036854775807) : Rd (Kd.int k) (W.alloc (.cells (nums k xs).toArray e)) (some ⟨W.heap.size, 0, none⟩) xs := by
  obtain ⟨A, c, h1, _, h3⟩ := (Own.lit k e (Bel.refl W) xs hm).reads
  injection h1 with h1
  rw [h1]
  exact h3
theorem rd_at {k : IntKind} {W : World} {A : Option Addr} {xs : List Int} (h : Rd (Kd.int k) W A xs) (i : Int) (h0 : 0 ≤ i) (h1 : i < (xs.length : Int)) : ∃ ad, A = some ad ∧ W.cell? (ad.add i.toNat) = some (.int k (rd xs i)) := Kd.at_int h.out i h0 h1

theorem Rd.nil_of {α : Type} {d : Kd α} {W : World} {A : Option Addr} {xs : List α} (h : Rd d W A xs) : A = none → xs = [] := by
  rintro rfl
  rcases Nat.eq_zero_or_pos xs.length with h0 | h0
  · exact List.eq_nil_of_length_eq_zero h0
  · obtain ⟨ad, e, _⟩ := h.out.2.2 h0
    cases e
theorem Rd.len {α : Type} {d : Kd α} {W : World} {A : Option Addr} {xs : List α} (h : Rd d W A xs) : xs.length ≤ 9223372036854775807 := h.out.2.1
/-- b[m:]: what is left is read as before. -/
theorem cut_u8 (A : Option Addr) (c : Nat) (xs : List Int) (m : Nat) (hm : m ≤ xs.length) (hc : xs.length ≤ c) :
    ∃ A' : Option Addr, (∀ W : World, (Instr.slice 22 (.slice A xs.length c) (some (.int .i64 (m : Int))) none none).run Tryd.prog W = .ok (.slice A' (xs.drop m).length (c - m)) W) ∧
      (∀ W : World, RdB W A xs → RdB W A' (xs.drop m)) ∧ (xs.drop m).length ≤ c - m := by
  obtain ⟨i0, hi, _, hsz, _⟩ := info_parts info_u8
  obtain ⟨A', h1, h2, h3⟩ := print_drop_of (P := Tryd.prog) (Value.int .u8) 0 22 5 .i64 Tryd.underlying22 hi hsz A c xs (m : Int) (by omega) (by omega) hc
  simp only [Int.toNat_natCast] at h1 h2 h3
  exact ⟨A', h1, fun W h => ⟨Kd.C_of_reads (h1 := fun _ => rfl) (h2 W (Kd.reads_of_C h.out))⟩, h3⟩
theorem rd_atN {k : IntKind} {W : World} {A : Option Addr} {xs : List Int} (h : Rd (Kd.int k) W A xs) (i : Nat) (h1 : i < xs.length) : ∃ ad, A = some ad ∧ W.cell? (ad.add i) = some (.int k (rd xs (i : Int))) := by
  obtain ⟨ad, e, hc⟩ := rd_at h (i : Int) (by omega) (by omega)
  exact ⟨ad, e, by simpa using hc⟩

section
variable {ops : Array Oper} {rest : List Oper} {o : Oper} {a : Act} {Q : Exit → Act → World → Prop}
theorem gate_b {b : Builtin} {xs : Array Operand} {ts : Array TypeId} (_ho : o.op = .call { callee := .builtin b, args := xs, argTypes := ts }) {W : World} (h : wpList Tryd.prog ops Q (o :: rest) a W) : wpList Tryd.prog ops Q (o :: rest) a W := h

/-- append(v, p), a byte. -/
theorem app_byte {w0 W : World} {v : Value} {xs : List Int} (HO : OwnB w0 W v xs) (HB : Bel w0 W) (hgd : o.guard = none) (s x : Operand) (p : Int)
    (ho : o.op = .call { callee := .builtin .append, args := #[s, x], argTypes := #[22, 22] })
    (hl : xs.length < 140737488355328) (hs : a.eval s = v) (hx : a.eval x = .slice (some ⟨W.heap.size, 0, none⟩) 1 1)
    (h : ∀ v1 w1, OwnB w0 w1 v1 (xs ++ [p]) → Bel w0 w1 → wpList Tryd.prog ops Q rest (a.put o.dst v1) w1) :
    wpList Tryd.prog ops Q (o :: rest) a (W.alloc (.cells #[.int .u8 p] 5)) := by
  refine Kd.R_append (Kd.int .u8) (w0 := w0) w0.heap.size hgd s x 22 5 (.int .u8 0) 1 ho Tryd.underlying22 info_u8 rfl (by decide) (by omega) v xs p [.int .u8 p] (fun _ => True) (fun _ => False) hs hx rfl (fun _ hk => hk.elim) (fun _ _ => trivial) HO.out HB.out (below_size HB.out) (by omega) ?_
  intro v1 w1 ho hb hg hat
  exact h v1 w1 ⟨ho⟩ ⟨hb⟩

/-- append(v, p), an int. -/
theorem app_int {w0 W : World} {v : Value} {xs : List Int} (HO : OwnI w0 W v xs) (HB : Bel w0 W) (hgd : o.guard = none) (s x : Operand) (p : Int)
    (ho : o.op = .call { callee := .builtin .append, args := #[s, x], argTypes := #[52, 52] })
    (hl : xs.length < 17592186044415) (hs : a.eval s = v) (hx : a.eval x = .slice (some ⟨W.heap.size, 0, none⟩) 1 1)
    (h : ∀ v1 w1, OwnI w0 w1 v1 (xs ++ [p]) → Bel w0 w1 → wpList Tryd.prog ops Q rest (a.put o.dst v1) w1) :
    wpList Tryd.prog ops Q (o :: rest) a (W.alloc (.cells #[.int .i64 p] 3)) := by
  refine Kd.R_append (Kd.int .i64) (w0 := w0) w0.heap.size hgd s x 52 3 (.int .i64 0) 8 ho Tryd.underlying52 info_int rfl (by decide) (by omega) v xs p [.int .i64 p] (fun _ => True) (fun _ => False) hs hx rfl (fun _ hk => hk.elim) (fun _ _ => trivial) HO.out HB.out (below_size HB.out) (by omega) ?_
  intro v1 w1 ho hb hg hat
  exact h v1 w1 ⟨ho⟩ ⟨hb⟩

/-- The same, in a region that draws its order. -/
theorem app_int_step {Kc : Act → World → Prop} {w0 W : World} {v : Value} {xs : List Int} (HO : OwnI w0 W v xs) (HB : Bel w0 W) (hgd : o.guard = none) (s x : Operand) (p : Int)
    (ho : o.op = .call { callee := .builtin .append, args := #[s, x], argTypes := #[52, 52] })
    (hl : xs.length < 17592186044415) (hs : a.eval s = v) (hx : a.eval x = .slice (some ⟨W.heap.size, 0, none⟩) 1 1)
    (h : ∀ v1 w1, OwnI w0 w1 v1 (xs ++ [p]) → Bel w0 w1 → Kc (a.put o.dst v1) w1) :
    if Region.wanted o (yielded ops a.tmps) = true then Oper.wp Tryd.prog o a (W.alloc (.cells #[.int .i64 p] 3)) Kc Q else Kc (a.put o.dst undef) (W.alloc (.cells #[.int .i64 p] 3)) := by
  refine Kd.R_append_step (Kd.int .i64) (w0 := w0) w0.heap.size (by simp [Region.wanted, hgd]) s x 52 3 (.int .i64 0) 8 ho Tryd.underlying52 info_int rfl (by decide) (by omega) v xs p [.int .i64 p] (fun _ => True) (fun _ => False) hs hx rfl (fun _ hk => hk.elim) (fun _ _ => trivial) HO.out HB.out (below_size HB.out) (by omega) ?_
  intro v1 w1 ho hb hg hat
  exact h v1 w1 ⟨ho⟩ ⟨hb⟩

/-- append(v, ys...), bytes. -/
theorem app_bytes {w0 W : World} {v : Value} {xs ys : List Int} {A : Option Addr} {c : Nat} (HO : OwnB w0 W v xs) (HB : Bel w0 W) (HR : RdB W A ys) (hgd : o.guard = none) (s x : Operand)
    (ho : o.op = .call { callee := .builtin .append, args := #[s, x], argTypes := #[22, 22] })
    (hl : xs.length + ys.length ≤ 140737488355328) (hs : a.eval s = v) (hx : a.eval x = .slice A ys.length c)
    (h : ∀ v1 w1, OwnB w0 w1 v1 (xs ++ ys) → Bel w0 w1 → wpList Tryd.prog ops Q rest (a.put o.dst v1) w1) :
    wpList Tryd.prog ops Q (o :: rest) a W := by
  refine Kd.R_append_rows (Kd.int .u8) (Rr := (Kd.int .u8).K W) (w0 := w0) w0.heap.size hgd s x 22 5 (.int .u8 0) 1 ho Tryd.underlying22 info_u8 rfl (by decide) (by omega) v xs ys A ys.length c (fun _ => True) (fun _ => False) hs hx HO.out HR.out (fun _ _ hk => hk) (fun _ hk => hk.elim) (fun _ _ => trivial) HB.out (below_size HB.out) (by omega) ?_
  intro v1 w1 ho hb hg hat
  exact h v1 w1 ⟨ho⟩ ⟨hb⟩

/-- A row of the call's own, or one that came in and has no room left. -/
def Full (w0 W : World) (v : Value) (xs : List Int) : Prop := Own (Kd.int .u8) 5 w0 W v xs ∨ ∃ A, v = .slice A xs.length xs.length ∧ (A = none → xs = []) ∧ Rd (Kd.int .u8) W A xs
abbrev FullB (w0 W : World) (v : Value) (xs : List Int) : Prop := Aside0 (Full w0 W v xs)
set_option maxRecDepth 100000
/-- append(v, p), a byte, behind a row without room. -/
theorem app_full {w0 W : World} {v : Value} {xs : List Int} (HO : FullB w0 W v xs) (HB : Bel w0 W) (hgd : o.guard = none) (s x : Operand) (p : Int)
    (ho : o.op = .call { callee := .builtin .append, args := #[s, x], argTypes := #[22, 22] })
    (hl : xs.length < 140737488355328) (hs : a.eval s = v) (hx : a.eval x = .slice (some ⟨W.heap.size, 0, none⟩) 1 1)
    (h : ∀ v1 w1, OwnB w0 w1 v1 (xs ++ [p]) → Bel w0 w1 → wpList Tryd.prog ops Q rest (a.put o.dst v1) w1) :
    wpList Tryd.prog ops Q (o :: rest) a (W.alloc (.cells #[.int .u8 p] 5)) := by
  rcases HO.out with HO | ⟨A, rfl, hA, HR⟩
  · exact app_byte HO HB hgd s x p ho hl hs hx h
  obtain ⟨i0, hi, hz0, hz1, hz2⟩ := info_parts info_u8
  have HB1 := HB.alloc (.cells #[.int .u8 p] 5)
  refine wpList_append_grows (W.alloc (.cells #[.int .u8 p] 5)) hgd s x 22 ho 5 i0 (.int .u8 0) 1 1 Tryd.underlying22 hi hz0 hz1 hz2 rfl (by decide) A xs.length xs.length (nums .u8 xs) hs (fun hn => by simp [hA hn]) (by simp [nums]) ?_
    ⟨W.heap.size, 0, none⟩ 1 1 [.int .u8 p] hx rfl (World.news_of_block (cs := #[.int .u8 p]) (t := 5) (fr := (0, 0)) (heap_alloc_new W _)) (fun u hu => by rw [List.mem_singleton.1 hu]; rfl) (by omega) (by simp only [maxLen]; omega) (by omega) ?_
  · intro b hb j u hu
    have hj : j < xs.length := by have := (List.getElem?_eq_some_iff.1 hu).1; simpa [nums] using this
    obtain ⟨ad, e, hc⟩ := rd_at (HR.alloc (.cells #[.int .u8 p] 5)) (j : Int) (by omega) (by omega)
    rw [hb] at e
    injection e with e
    subst e
    rw [show ((j : Int)).toNat = j by omega] at hc
    rw [hc]
    have : u = .int .u8 (xs.getD j 0) := by
      simp only [nums, List.getElem?_map, List.getElem?_eq_getElem hj, Option.map_some, Option.some.injEq] at hu
      rw [← hu, List.getD_eq_getElem?_getD, List.getElem?_eq_getElem hj]; rfl
    rw [this]; simp [rd]
  · intro v1 w1 hown hg
    have hb1 : Bel w0 w1 := ⟨pw_below_grown HB1.out none HB1.size hg (by simp)⟩
    exact h v1 w1 (Own.of_nums (by have := own_weaken hown HB1.size; simpa [nums] using this)) hb1
end
end Go.Proofs.YtceibabhmomfiaaDoor.H

/- Words of this work: what a call keeps where it writes blocks of some types alone; what is read meanwhile. -/
namespace Go.Proofs.YtceibabhmomfiaaDoor.H
open Go.RowKit Go.Proofs.YtceibabhmomfiaaDoorW.PrintWords
set_option linter.unusedVariables false
set_option linter.unusedSimpArgs false

/-- From w to w' nothing below base has turned, and of the rest no block of a type that isn't one of ts. -/
structure KT (ts : List Nat) (base : Nat) (w w' : World) : Prop where
  below : Below base w w'
  keep : ∀ (i : Nat) (cs : Array Value) (t : TypeId) (fr : Nat × Nat), w.heap[i]? = some (.cells cs t fr) → t ∉ ts → w'.heap[i]? = w.heap[i]?

section
variable {ts : List Nat} {base : Nat} {w w1 w2 : World}
theorem KT.refl (ts : List Nat) (base : Nat) (w : World) : KT ts base w w := ⟨Below.refl _ _, fun _ _ _ _ _ _ => rfl⟩
theorem KT.trans (h : KT ts base w w1) (k : KT ts base w1 w2) : KT ts base w w2 :=
  ⟨h.below.trans k.below, fun i cs t fr hb ht => by
    have h1 := h.keep i cs t fr hb ht
    rw [hb] at h1
    rw [k.keep i cs t fr h1 ht, h1, hb]⟩
theorem KT.size (h : KT ts base w w1) : w.heap.size ≤ w1.heap.size := h.below.size
theorem KT.of_bel (h : Bel w w1) (hb : base ≤ w.heap.size) (ts : List Nat) : KT ts base w w1 :=
  ⟨h.out.mono hb, fun i cs t fr hi _ => h.out.block i (blk_lt hi)⟩
theorem KT.mono {ts' : List Nat} {base' : Nat} (h : KT ts base w w1) (hb : base' ≤ base) (ht : ∀ t, t ∈ ts → t ∈ ts') : KT ts' base' w w1 :=
  ⟨h.below.mono hb, fun i cs t fr hi hn => h.keep i cs t fr hi (fun hm => hn (ht t hm))⟩
theorem KT.blk (h : KT ts base w w1) {g t : Nat} {cs : Array Value} {fr : Nat × Nat} (hb : w.heap[g]? = some (.cells cs t fr)) (ht : t ∉ ts) : w1.heap[g]? = some (.cells cs t fr) := (h.keep g cs t fr hb ht).trans hb
/-- a store into a block of one of the types -/
theorem KT.set {g t : Nat} {cs : Array Value} {fr : Nat × Nat} (hb : w.heap[g]? = some (.cells cs t fr)) (ht : t ∈ ts) (hg : base ≤ g) (j : Nat) (u : Value) : KT ts base w (w.setCell ⟨g, j, none⟩ u) :=
  ⟨(Below.refl _ _).setCell (p := ⟨g, j, none⟩) hg u, fun i cs' t' fr' hi hn => Below.heap_setCell w ⟨g, j, none⟩ u i (fun e => by
    have e : i = g := e
    subst e
    rw [hi] at hb
    injection hb with hb
    injection hb with _ hb _
    exact hn (hb ▸ ht))⟩
/-- an append to a row of one's own, of elements of one of the types -/
theorem KT.grown {e size n b : Nat} {v : Value} {xs : List Value} (ho : w.ownsRow b e size v n xs) (hg : w.grownBy w1 v.ownBlock) (he : e ∈ ts) (hb : base ≤ b) (hs : base ≤ w.heap.size) : KT ts base w w1 :=
  ⟨(Below.refl _ _).grown hg hs (fun k hk => Nat.le_trans hb (own_base ho k hk)), fun i cs t fr hi hn => hg.block i (blk_lt hi) (fun e' => by
    obtain ⟨cells, hc⟩ := own_typed ho i e'.symm
    rw [hi] at hc
    injection hc with hc
    injection hc with _ hc _
    exact hn (hc ▸ he))⟩
end

/-- A row of one's own, made from base on. -/
abbrev OwnAt {α : Type} (d : Kd α) (e : Nat) (base : Nat) (W : World) (v : Value) (xs : List α) : Prop := Aside0 (Kd.R d e W base (fun _ => True) v xs)
theorem OwnAt.keep {α : Type} {d : Kd α} {e base b : Nat} {W W1 : World} {v : Value} {xs : List α} {ts : List Nat} (h : OwnAt d e base W v xs) (k : KT ts b W W1) (ht : ∀ q, q ∈ e :: d.E → q ∉ ts) : OwnAt d e base W1 v xs :=
  ⟨Kd.R_mono (Kd.R_move (Kd.R_bound h.out) (fun i hi => by
    obtain ⟨_, _, _, q, hq, cells, hc⟩ := hi
    exact k.keep i cells q (0, 0) hc (ht q hq))) (fun _ hk => hk.1)⟩
theorem OwnAt.step {α : Type} {d : Kd α} {e base : Nat} {W W1 : World} {v : Value} {xs : List α} (h : OwnAt d e base W v xs) (k : Bel W W1) : OwnAt d e base W1 v xs := ⟨Kd.R_below h.out k.out⟩
theorem OwnAt.of_own {α : Type} {d : Kd α} {e base : Nat} {w0 W : World} {v : Value} {xs : List α} (h : Own d e w0 W v xs) (hb : base ≤ w0.heap.size) : OwnAt d e base W v xs := ⟨Kd.R_lower h.out hb⟩
theorem OwnAt.nil {α : Type} (d : Kd α) (e base : Nat) (W : World) : OwnAt d e base W (.slice none 0 0) [] := ⟨Kd.R_nil _ _ _ _ _⟩
theorem OwnAt.reads {α : Type} {d : Kd α} {e base : Nat} {W : World} {v : Value} {xs : List α} (h : OwnAt d e base W v xs) : ∃ A c, v = .slice A xs.length c ∧ xs.length ≤ c ∧ Rd d W A xs := by
  obtain ⟨A, c, h1, h2, h3⟩ := Kd.R_reads h.out
  exact ⟨A, c, h1, h2, ⟨h3⟩⟩

/-- A row that is read, whatever is written to blocks of these types from base on. -/
abbrev RdK {α : Type} (d : Kd α) (ts : List Nat) (base : Nat) (W : World) (A : Option Addr) (xs : List α) : Prop := Aside0 (∀ W', KT ts base W W' → Rd d W' A xs)
section
variable {α : Type} {d : Kd α} {ts : List Nat} {base : Nat} {W W1 : World} {A : Option Addr} {xs : List α}
theorem RdK.now (h : RdK d ts base W A xs) : Rd d W A xs := h.out W (KT.refl _ _ _)
theorem RdK.keep (h : RdK d ts base W A xs) (k : KT ts base W W1) : RdK d ts base W1 A xs := ⟨fun W' k' => h.out W' (k.trans k')⟩
theorem RdK.step (h : RdK d ts base W A xs) (k : Bel W W1) (hb : base ≤ W.heap.size) : RdK d ts base W1 A xs := h.keep (KT.of_bel k hb ts)
/-- what came in, base being the heap's size then -/
theorem RdK.came {w0 : World} (h : Rd d w0 A xs) (k : Below w0.heap.size w0 W) (ts : List Nat) : RdK d ts w0.heap.size W A xs :=
  ⟨fun W' k' => ⟨Kd.C_below h.out (k.trans k'.below)⟩⟩
/-- a row of one's own, of other types -/
theorem RdK.own {e b n c : Nat} (h : OwnAt d e b W (.slice A n c) xs) (ht : ∀ q, q ∈ e :: d.E → q ∉ ts) (base : Nat) : RdK d ts base W A xs :=
  ⟨fun W' k' => by
    obtain ⟨A', c', h1, _, h3⟩ := (h.keep k' ht).reads
    injection h1 with h1
    rw [h1]
    exact h3⟩
theorem RdK.nil (d : Kd α) (ts : List Nat) (base : Nat) (W : World) : RdK d ts base W none [] := ⟨fun _ _ => ⟨rfl, by simp, fun h => by simp at h⟩⟩
end

section
variable {ops : Array Oper} {rest : List Oper} {o : Oper} {a : Act} {Q : Exit → Act → World → Prop}
/-- append(v, ys...), bytes, one's own row made from base on; as one step of a region that draws its order. -/
theorem app_bytes_step {Kc : Act → World → Prop} {base : Nat} {W : World} {v : Value} {xs ys : List Int} {A : Option Addr} {c : Nat} (HO : OwnAt (Kd.int .u8) 5 base W v xs) (hbase : base ≤ W.heap.size) (HR : RdB W A ys) (hgd : o.guard = none) (s x : Operand)
    (ho : o.op = .call { callee := .builtin .append, args := #[s, x], argTypes := #[22, 22] })
    (hl : xs.length + ys.length ≤ 140737488355328) (hs : a.eval s = v) (hx : a.eval x = .slice A ys.length c)
    (h : ∀ v1 w1, OwnAt (Kd.int .u8) 5 base w1 v1 (xs ++ ys) → KT [5] base W w1 → Kc (a.put o.dst v1) w1) :
    if Region.wanted o (yielded ops a.tmps) = true then Oper.wp Tryd.prog o a W Kc Q else Kc (a.put o.dst undef) W := by
  refine Kd.R_append_rows_step (Kd.int .u8) (Rr := (Kd.int .u8).K W) (w0 := W) base (by simp [Region.wanted, hgd]) s x 22 5 (.int .u8 0) 1 ho Tryd.underlying22 info_u8 rfl (by decide) (by omega) v xs ys A ys.length c (fun _ => True) (fun _ => False) hs hx HO.out HR.out (fun _ _ hk => hk) (fun _ hk => hk.elim) (fun _ _ => trivial) (Below.refl _ _) hbase (by omega) ?_
  intro v1 w1 ho hb hg hat
  obtain ⟨inner, hrow⟩ := Kd.R_own HO.out
  exact h v1 w1 ⟨ho⟩ (KT.grown hrow hg (by simp) (Nat.le_refl _) hbase)
end
end Go.Proofs.YtceibabhmomfiaaDoor.H

/- Layer 1, law23: what the library's sync and atomic functions do (one goroutine, the lock free). -/
namespace Go.Proofs.YtceibabhmomfiaaDoor.H
open Go.RowKit Go.Proofs.YtceibabhmomfiaaDoorW.PrintWords Go.Proofs.YtceibabhmomfiaaDoorW.PrintLast
set_option linter.unusedVariables false
set_option linter.unusedSimpArgs false
set_option maxRecDepth 100000

theorem s_disable (w : World) : (callFunc 104 #[]).run Tryd.prog w = .ok (.value (.tuple #[])) w := run_call_mark0 Tryd.func104 (by kernel_rfl) (by kernel_rfl) (by kernel_rfl) .disable (by kernel_rfl) w
theorem s_enable (w : World) : (callFunc 106 #[]).run Tryd.prog w = .ok (.value (.tuple #[])) w := run_call_mark0 Tryd.func106 (by kernel_rfl) (by kernel_rfl) (by kernel_rfl) .enable (by kernel_rfl) w
theorem s_acquire (a : Addr) (w : World) : (callFunc 107 #[.pointer (some a)]).run Tryd.prog w = .ok (.value (.tuple #[])) w := run_call_marked Tryd.func107 (by kernel_rfl) (by kernel_rfl) (by kernel_rfl) .acquire (by kernel_rfl) a w
theorem s_merge (a : Addr) (w : World) : (callFunc 109 #[.pointer (some a)]).run Tryd.prog w = .ok (.value (.tuple #[])) w := run_call_marked Tryd.func109 (by kernel_rfl) (by kernel_rfl) (by kernel_rfl) .releaseMerge (by kernel_rfl) a w

set_option maxHeartbeats 2000000 in
theorem s_store (a : Addr) (x : Value) (u : FrameMode) (w : World) (hc : w.cell? a = some x) (hz : w.frozen? a = false) :
    CallsD Tryd.prog 98 #[.pointer (some a), .bool true] u w fun e u' w' => u' = u ∧ (e = .returned (.tuple #[]) ∧ w' = w.drew.setCell a (.int .u32 1)) := by
  have hc' : w.drew.cell? a = some x := by go_simp
  have hz' : w.drew.frozen? a = false := by go_simp
  have hst := run_call_store (P := Tryd.prog) Tryd.func102 (by kernel_rfl) (by kernel_rfl) (by kernel_rfl) (by kernel_rfl) (k := .u32) (y := 1) hc' hz'
  go_enter_d Tryd.func98, Tryd.ntmps98
  go_wp2
  go_region_calls
  all_goals (go_end0; exact ⟨rfl, rfl⟩)

set_option maxHeartbeats 2000000 in
theorem s_unlock (a : Addr) (u : FrameMode) (w : World) (hc : w.cell? a = some (.int .i32 1)) (hz : w.frozen? a = false) :
    CallsD Tryd.prog 97 #[.pointer (some a)] u w fun e u' w' => u' = u ∧ (e = .returned (.tuple #[]) ∧ w' = w.setCell a (.int .i32 0)) := by
  have hd := s_disable
  have he := s_enable
  have hr := s_merge
  have hadd := run_call_add (P := Tryd.prog) Tryd.func110 (by kernel_rfl) (by kernel_rfl) (by kernel_rfl) .i32 (by kernel_rfl) (y := -1) (s := 0) hc hz (by simp [go_sem]; rfl)
  have hcv := run_convert_to_unsafe (P := Tryd.prog) (src := 147) (dst := 151) Tryd.underlying147 Tryd.underlying151 (by kernel_rfl) hc
  go_enter_d Tryd.func97, Tryd.ntmps97
  go_wp2
  go_end0
  go_wp2
  go_end0
  exact ⟨rfl, rfl⟩

set_option maxHeartbeats 2000000 in
theorem s_lock (a : Addr) (w : World) (hc : w.cell? a = some (.int .i32 0)) (hz : w.frozen? a = false) :
    Calls Tryd.prog 96 #[.pointer (some a)] w fun e w' => e = .returned (.tuple #[]) ∧ w' = w.setCell a (.int .i32 1) := by
  have hd := s_disable
  have he := s_enable
  have ha := s_acquire
  have hcas := run_call_cas_hit (P := Tryd.prog) Tryd.func105 (by kernel_rfl) (by kernel_rfl) (by kernel_rfl) .i32 (by kernel_rfl) (y := 1) hc hz
  have hc' : (w.setCell a (.int .i32 1)).cell? a = some (.int .i32 1) := World.cell?_setCell_same w a _ hc
  have hcv := run_convert_to_unsafe (P := Tryd.prog) (src := 147) (dst := 151) Tryd.underlying147 Tryd.underlying151 (by kernel_rfl) hc'
  go_enter Tryd.func96, Tryd.ntmps96
  go_wp2
  first | go_end0 | (simp only [Exit.inBlock, Exit.then]; refine bodyPost_ret (results_none rfl _ _ _) rfl ?_) | refine bodyPost_ret (results_none rfl _ _ _) rfl ?_
  go_wp2
  go_end0
  exact ⟨rfl, rfl⟩

set_option maxHeartbeats 2000000 in
theorem s_bload (a : Addr) (x : Int) (w : World) (hc : w.cell? a = some (.int .u32 x)) :
    Calls Tryd.prog 82 #[.pointer (some a)] w fun e w' => e = .returned (.bool (x != 0)) ∧ w' = w := by
  have hl := run_call_load (P := Tryd.prog) Tryd.func95 (by kernel_rfl) (by kernel_rfl) (by kernel_rfl) .u32 (by kernel_rfl) hc
  go_enter Tryd.func82, Tryd.ntmps82
  go_wp2
  go_ret
  exact ⟨rfl, rfl⟩

set_option maxHeartbeats 2000000 in
theorem s_iload (a : Addr) (x : Int) (w : World) (hc : w.cell? a = some (.int .i64 x)) :
    Calls Tryd.prog 58 #[.pointer (some a)] w fun e w' => e = .returned (.int .i64 x) ∧ w' = w := by
  have hl := run_call_load (P := Tryd.prog) Tryd.func84 (by kernel_rfl) (by kernel_rfl) (by kernel_rfl) .i64 (by kernel_rfl) hc
  go_enter Tryd.func58, Tryd.ntmps58
  go_wp2
  go_ret
  exact ⟨rfl, rfl⟩

set_option maxHeartbeats 2000000 in
theorem s_iadd (a : Addr) (x : Int) (w : World) (hc : w.cell? a = some (.int .i64 x)) (hz : w.frozen? a = false) (h0 : 0 ≤ x) (h1 : x ≤ 1099511627776) :
    Calls Tryd.prog 52 #[.pointer (some a), .int .i64 1] w fun e w' => e = .returned (.int .i64 (x + 1)) ∧ w' = w.setCell a (.int .i64 (x + 1)) := by
  have hs : IntKind.i64.wrap (x + 1) = x + 1 := by rw [IntKind.wrap_i64]; omega
  have hadd := run_call_add (P := Tryd.prog) Tryd.func81 (by kernel_rfl) (by kernel_rfl) (by kernel_rfl) .i64 (by kernel_rfl) (y := 1) (s := x + 1) hc hz (by simp [go_sem, hs])
  go_enter Tryd.func52, Tryd.ntmps52
  go_wp2
  go_ret
  exact ⟨rfl, rfl⟩
end Go.Proofs.YtceibabhmomfiaaDoor.H
