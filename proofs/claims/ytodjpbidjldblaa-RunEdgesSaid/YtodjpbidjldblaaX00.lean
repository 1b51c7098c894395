/- Texts joined. Conditions: each stands with its theorem. -/
import Derived.Test.YtodjpbidjldblaaV00
import Derived.OrdersHeld
import Derived.Test.YtodjpbidjldblaaProg
import Derived.Test.YtodjpbidjldblaaV01
import Derived.WalkSpells
import Derived.Deep.RegionLaw
import Derived.Test.YtodjpbidjldblaaV02
import Derived.Test.YtodjpbidjldblaaP01
import Derived.Test.YtodjpbidjldblaaP02
import Derived.Test.YtodjpbidjldblaaP03
namespace Go.Proofs.Ytodjpbidjldblaa.H
open Go.RowKit Go.Proofs.YtodjpbidjldblaaW.PrintLast
set_option linter.unusedVariables false
section
variable {P : Program} {md : Region.Mode} {ops : Array Oper} {Q : Exit → Act → World → Prop} {S : World → Prop} {ds : List Nat} {w : World}
def TakeI (P : Program) (ops : Array Oper) (Q : Exit → Act → World → Prop) (S : World → Prop) (K : Nat → Array Bool → Act → Prop) : List Nat → Nat → Array Bool → Act → Prop
 | [], fuel, listed, a => K fuel listed a
 | i :: r, fuel, listed, a => ∃ f oi v, fuel = f + 1 ∧ ops[i]? = some oi ∧ (∀ c a w, Q (.panic c) (a.put oi.dst v) w → Q (.panic c) a w) ∧ YieldsIf P ops S oi v a ∧ TakeI P ops Q S K r f (listed.setIfInBounds i true) (a.put oi.dst v)
theorem takeI {K : Nat → Array Bool → Act → Prop} {i : Nat} {r : List Nat} {fuel f : Nat} {listed : Array Bool} {a : Act} {oi : Oper} {v : Value} (hf : fuel = f + 1) (hi : ops[i]? = some oi) (hQ : ∀ c a w, Q (.panic c) (a.put oi.dst v) w → Q (.panic c) a w) (hy : YieldsIf P ops S oi v a) (h : TakeI P ops Q S K r f (listed.setIfInBounds i true) (a.put oi.dst v)) :
  TakeI P ops Q S K (i :: r) fuel listed a := ⟨f, oi, v, hf, hi, hQ, hy, h⟩
theorem takeE {K : Nat → Array Bool → Act → Prop} {fuel : Nat} {listed : Array Bool} {a : Act} (h : K fuel listed a) : TakeI P ops Q S K [] fuel listed a := h
def okH (md : Region.Mode) (ops : Array Oper) : List Nat → Array Bool → Bool
 | [], _ => true
 | i :: r, listed => Region.free md ops listed i && ((Region.ready md ops listed).contains i && okH md ops r (listed.setIfInBounds i true))
theorem takeH (is : List Nat) {fuel : Nat} {listed : Array Bool} {a : Act} (hs : Region.noSelect ops = true) (hok : okH md ops is listed = true) (hS : S w) (h : TakeI P ops Q S (fun f l a => wpAnyH P md ops Q S f l a w) is fuel listed a) : wpAnyH P md ops Q S fuel listed a w := by
 induction is generalizing fuel listed a with
 | nil => exact h
 | cons i r ih =>
  obtain ⟨f, oi, v, rfl, hi, hQ, hy, h⟩ := h
  simp only [okH, Bool.and_eq_true] at hok
  exact wpAnyH_take hi hs hok.1 hok.2.1 hQ hy hS (ih hok.2.2 h)
def okL (md : Region.Mode) (ops : Array Oper) (ds : List Nat) : List Nat → Array Bool → Bool
 | [], _ => true
 | i :: r, listed => Region.free md ops listed i && ((Region.ready md ops listed).contains i && (Region.closedB md ops listed && (Region.lastB md ops listed ds i && okL md ops ds r (listed.setIfInBounds i true))))
theorem takeL (is : List Nat) {fuel : Nat} {listed : Array Bool} {a : Act} (hs : Region.noSelect ops = true) (hok : okL md ops ds is listed = true) (hS : S w) (h : TakeI P ops Q S (fun f l a => wpAnyLast P md ops Q S ds f l a w) is fuel listed a) : wpAnyLast P md ops Q S ds fuel listed a w := by
 induction is generalizing fuel listed a with
 | nil => exact h
 | cons i r ih =>
  obtain ⟨f, oi, v, rfl, hi, hQ, hy, h⟩ := h
  simp only [okL, Bool.and_eq_true] at hok
  exact wpAnyLast_take hi hs hok.1 hok.2.1 hok.2.2.1 hok.2.2.2.1 hQ hy hS (ih hok.2.2.2.2 h)
end
end Go.Proofs.Ytodjpbidjldblaa.H
namespace Go.Proofs.Ytodjpbidjldblaa.H
open Go.RowKit Go.Proofs.YtodjpbidjldblaaW.PrintWords
set_option linter.unusedVariables false
set_option linter.unusedSimpArgs false
theorem info_int : (Try.prog.info? 3).map (fun i => (i.zero, i.size, i.bytes)) = some (some (.int .i64 0), 1, 8) := by kernel_rfl
def lenV : Value → Nat
 | .slice _ n _ => n
 | _ => 0
abbrev Bel (w0 W : World) : Prop := Aside0 (Below w0.heap.size w0 W)
abbrev Own {α : Type} (d : Kd α) (e : Nat) (w0 W : World) (v : Value) (xs : List α) : Prop := Aside0 (Kd.R d e W w0.heap.size (fun _ => True) v xs)
abbrev OwnI (w0 W : World) (v : Value) (xs : List Int) : Prop := Own (Kd.int .i64) 3 w0 W v xs
abbrev Rd {α : Type} (d : Kd α) (W : World) (A : Option Addr) (xs : List α) : Prop := Aside0 (Kd.C d W A xs.length xs)
abbrev RdI (W : World) (A : Option Addr) (xs : List Int) : Prop := Rd (Kd.int .i64) W A xs
theorem Bel.refl (w : World) : Bel w w := ⟨Below.refl _ _⟩
theorem Bel.size {w0 W : World} (h : Bel w0 W) : w0.heap.size ≤ W.heap.size := below_size h.out
theorem Bel.trans {w0 W W1 : World} (h : Bel w0 W) (k : Bel W W1) : Bel w0 W1 := ⟨below_then h.out h.size k.out⟩
theorem Bel.drewN {w0 W : World} (h : Bel w0 W) (n : Nat) : Bel w0 (W.drewN n) := ⟨pw_below_drewN h.out n⟩
theorem Bel.alloc {w0 W : World} (h : Bel w0 W) (o : Obj) : Bel w0 (W.alloc o) := ⟨below_alloc h.out o⟩
theorem Bel.drawn {w W : World} (h : Drawn0 w W) : Bel w W := ⟨h.below⟩
section
variable {α : Type} {d : Kd α} {e : Nat}
theorem Own.nil (d : Kd α) (e : Nat) (w0 W : World) : Own d e w0 W (.slice none 0 0) [] := ⟨Kd.R_nil _ _ _ _ _⟩
theorem Own.step {w0 W W1 : World} {v : Value} {xs : List α} (h : Own d e w0 W v xs) (k : Bel W W1) : Own d e w0 W1 v xs := ⟨Kd.R_below h.out k.out⟩
theorem Own.drewN {w0 W : World} {v : Value} {xs : List α} (h : Own d e w0 W v xs) (n : Nat) : Own d e w0 (W.drewN n) v xs := h.step ((Bel.refl W).drewN n)
theorem Own.alloc {w0 W : World} {v : Value} {xs : List α} (h : Own d e w0 W v xs) (o : Obj) : Own d e w0 (W.alloc o) v xs := h.step ((Bel.refl W).alloc o)
theorem Own.lower {w0 w1 W : World} {v : Value} {xs : List α} (h : Own d e w1 W v xs) (k : Bel w0 w1) : Own d e w0 W v xs := ⟨Kd.R_lower h.out k.size⟩
theorem Own.reads {w0 W : World} {v : Value} {xs : List α} (h : Own d e w0 W v xs) : ∃ A c, v = .slice A xs.length c ∧ xs.length ≤ c ∧ Rd d W A xs := by
 obtain ⟨A, c, h1, h2, h3⟩ := Kd.R_reads h.out
 exact ⟨A, c, h1, h2, ⟨h3⟩⟩
theorem Rd.step {W W1 : World} {A : Option Addr} {xs : List α} (h : Rd d W A xs) (k : Bel W W1) : Rd d W1 A xs := ⟨Kd.C_below h.out k.out⟩
theorem Rd.drewN {W : World} {A : Option Addr} {xs : List α} (h : Rd d W A xs) (n : Nat) : Rd d (W.drewN n) A xs := h.step ((Bel.refl W).drewN n)
theorem Rd.alloc {W : World} {A : Option Addr} {xs : List α} (h : Rd d W A xs) (o : Obj) : Rd d (W.alloc o) A xs := h.step ((Bel.refl W).alloc o)
end
theorem Own.of_nums {k : IntKind} {e : Nat} {w0 W : World} {v : Value} {xs : List Int} (h : W.ownsRow w0.heap.size e 1 v xs.length (nums k xs)) : Own (Kd.int k) e w0 W v xs :=
 ⟨fun _ _ => trivial, nums k xs, h, by simp [nums, Kd.int, Kd.scalar], fun j q hq => by
  have hj := (List.getElem?_eq_some_iff.1 hq).1
  simp only [Kd.int, Kd.scalar, Nat.mul_one]
  rw [List.take_one, List.head?_drop]
  simp only [nums, List.getElem?_map, hq, Option.map_some]; rfl⟩
theorem Own.lit (k : IntKind) (e : Nat) {w0 W : World} (HB : Bel w0 W) (xs : List Int) (hm : xs.length ≤ 9223372036854775807) :
  Own (Kd.int k) e w0 (W.alloc (.cells (nums k xs).toArray e)) (.slice (some ⟨W.heap.size, 0, none⟩) xs.length xs.length) xs := Own.of_nums (own_lit W _ e k xs HB.size hm)
theorem Rd.lit (k : IntKind) (e : Nat) (W : World) (xs : List Int) (hm : xs.length ≤ 9223372036854775807) : Rd (Kd.int k) (W.alloc (.cells (nums k xs).toArray e)) (some ⟨W.heap.size, 0, none⟩) xs := by
 obtain ⟨A, c, h1, _, h3⟩ := (Own.lit k e (Bel.refl W) xs hm).reads
 injection h1 with h1
 rw [h1]
 exact h3
theorem rd_at {k : IntKind} {W : World} {A : Option Addr} {xs : List Int} (h : Rd (Kd.int k) W A xs) (i : Int) (h0 : 0 ≤ i) (h1 : i < (xs.length : Int)) : ∃ ad, A = some ad ∧ W.cell? (ad.add i.toNat) = some (.int k (rd xs i)) := Kd.at_int h.out i h0 h1
theorem Rd.nil_of {α : Type} {d : Kd α} {W : World} {A : Option Addr} {xs : List α} (h : Rd d W A xs) : A = none → xs = [] := by
 rintro rfl
 rcases Nat.eq_zero_or_pos xs.length with h0 | h0
 ·exact List.eq_nil_of_length_eq_zero h0
 ·obtain ⟨ad, e, _⟩ := h.out.2.2 h0
  cases e
theorem Rd.len {α : Type} {d : Kd α} {W : World} {A : Option Addr} {xs : List α} (h : Rd d W A xs) : xs.length ≤ 9223372036854775807 := h.out.2.1
theorem rd_atN {k : IntKind} {W : World} {A : Option Addr} {xs : List Int} (h : Rd (Kd.int k) W A xs) (i : Nat) (h1 : i < xs.length) : ∃ ad, A = some ad ∧ W.cell? (ad.add i) = some (.int k (rd xs (i : Int))) := by
 obtain ⟨ad, e, hc⟩ := rd_at h (i : Int) (by omega) (by omega)
 exact ⟨ad, e, by simpa using hc⟩
section
variable {ops : Array Oper} {rest : List Oper} {o : Oper} {a : Act} {Q : Exit → Act → World → Prop}
theorem gate_b {b : Builtin} {xs : Array Operand} {ts : Array TypeId} (_ho : o.op = .call { callee := .builtin b, args := xs, argTypes := ts }) {W : World} (h : wpList Try.prog ops Q (o :: rest) a W) : wpList Try.prog ops Q (o :: rest) a W := h
theorem app_int {w0 W : World} {v : Value} {xs : List Int} (HO : OwnI w0 W v xs) (HB : Bel w0 W) (hgd : o.guard = none) (s x : Operand) (p : Int)
  (ho : o.op = .call { callee := .builtin .append, args := #[s, x], argTypes := #[31, 31] })
  (hl : xs.length < 17592186044415) (hs : a.eval s = v) (hx : a.eval x = .slice (some ⟨W.heap.size, 0, none⟩) 1 1)
  (h : ∀ v1 w1, OwnI w0 w1 v1 (xs ++ [p]) → Bel w0 w1 → wpList Try.prog ops Q rest (a.put o.dst v1) w1) :
  wpList Try.prog ops Q (o :: rest) a (W.alloc (.cells #[.int .i64 p] 3)) := by
 refine Kd.R_append (Kd.int .i64) (w0 := w0) w0.heap.size hgd s x 31 3 (.int .i64 0) 8 ho Try.underlying31 info_int rfl (by decide) (by omega) v xs p [.int .i64 p] (fun _ => True) (fun _ => False) hs hx rfl (fun _ hk => hk.elim) (fun _ _ => trivial) HO.out HB.out (below_size HB.out) (by omega) ?_
 intro v1 w1 ho hb hg hat
 exact h v1 w1 ⟨ho⟩ ⟨hb⟩
end
structure SIns where
 f0 : Int
 f1 : Int
 f2 : Int
 f3 : Int
 f4 : Int
 f5 : Int
 f6 : (List Int)
def zIns : SIns := ⟨(0 : Int), (0 : Int), (0 : Int), (0 : Int), (0 : Int), (0 : Int), ([] : List Int)⟩
def kIns : Kd SIns := Kd.iso (Kd.pair (Kd.int .i64) (Kd.pair (Kd.int .i64) (Kd.pair (Kd.int .i64) (Kd.pair (Kd.int .i64) (Kd.pair (Kd.int .i64) (Kd.pair (Kd.int .i64) (Kd.slice 3 (Kd.int .i64)))))))) (fun x : SIns => (x.f0, x.f1, x.f2, x.f3, x.f4, x.f5, x.f6))
theorem kIns_open {w : World} {x : SIns} {cs : List Value} (h : kIns.K w x cs) : ∃ A6 c6, cs = [.int .i64 x.f0, .int .i64 x.f1, .int .i64 x.f2, .int .i64 x.f3, .int .i64 x.f4, .int .i64 x.f5, .slice A6 x.f6.length c6] ∧ x.f6.length ≤ c6 ∧ (Kd.int .i64).C w A6 x.f6.length x.f6 := by
 obtain ⟨_, _, rfl, rfl, ⟨_, _, rfl, rfl, ⟨_, _, rfl, rfl, ⟨_, _, rfl, rfl, ⟨_, _, rfl, rfl, ⟨_, _, rfl, rfl, ⟨A6, c6, rfl, l6, g6⟩⟩⟩⟩⟩⟩⟩ := h
 exact ⟨A6, c6, rfl, l6, g6⟩
theorem kIns_mk (w : World) (x : SIns) {A6 : Option Addr} {c6 : Nat} (l6 : x.f6.length ≤ c6) (g6 : (Kd.int .i64).C w A6 x.f6.length x.f6) : kIns.K w x [.int .i64 x.f0, .int .i64 x.f1, .int .i64 x.f2, .int .i64 x.f3, .int .i64 x.f4, .int .i64 x.f5, .slice A6 x.f6.length c6] := ⟨[.int .i64 x.f0], [.int .i64 x.f1, .int .i64 x.f2, .int .i64 x.f3, .int .i64 x.f4, .int .i64 x.f5, .slice A6 x.f6.length c6], rfl, rfl, ⟨[.int .i64 x.f1], [.int .i64 x.f2, .int .i64 x.f3, .int .i64 x.f4, .int .i64 x.f5, .slice A6 x.f6.length c6], rfl, rfl, ⟨[.int .i64 x.f2], [.int .i64 x.f3, .int .i64 x.f4, .int .i64 x.f5, .slice A6 x.f6.length c6], rfl, rfl, ⟨[.int .i64 x.f3], [.int .i64 x.f4, .int .i64 x.f5, .slice A6 x.f6.length c6], rfl, rfl, ⟨[.int .i64 x.f4], [.int .i64 x.f5, .slice A6 x.f6.length c6], rfl, rfl, ⟨[.int .i64 x.f5], [.slice A6 x.f6.length c6], rfl, rfl, ⟨A6, c6, rfl, l6, g6⟩⟩⟩⟩⟩⟩⟩
def rd_TIns (xs : List SIns) (i : Int) : SIns := xs.getD i.toNat zIns
theorem at_TIns {w : World} {A : Option Addr} {n : Nat} {xs : List SIns} (h : Kd.C kIns w A n xs) (i : Int) (h0 : 0 ≤ i) (h1 : i < n) : ∃ ad A6 c6, A = some ad ∧ w.cell? (ad.add (i.toNat * 7)) = some (.int .i64 (rd_TIns xs i).f0) ∧ w.cell? ⟨(ad.add (i.toNat * 7)).block, (ad.add (i.toNat * 7)).off + 1, none⟩ = some (.int .i64 (rd_TIns xs i).f1) ∧ w.cell? ⟨(ad.add (i.toNat * 7)).block, (ad.add (i.toNat * 7)).off + 2, none⟩ = some (.int .i64 (rd_TIns xs i).f2) ∧ w.cell? ⟨(ad.add (i.toNat * 7)).block, (ad.add (i.toNat * 7)).off + 3, none⟩ = some (.int .i64 (rd_TIns xs i).f3) ∧ w.cell? ⟨(ad.add (i.toNat * 7)).block, (ad.add (i.toNat * 7)).off + 4, none⟩ = some (.int .i64 (rd_TIns xs i).f4) ∧ w.cell? ⟨(ad.add (i.toNat * 7)).block, (ad.add (i.toNat * 7)).off + 5, none⟩ = some (.int .i64 (rd_TIns xs i).f5) ∧ w.cell? ⟨(ad.add (i.toNat * 7)).block, (ad.add (i.toNat * 7)).off + 6, none⟩ = some (.slice A6 (rd_TIns xs i).f6.length c6) ∧ (rd_TIns xs i).f6.length ≤ c6 ∧ (Kd.int .i64).C w A6 (rd_TIns xs i).f6.length (rd_TIns xs i).f6 := by
 obtain ⟨ad, c, e, _, hK, hc0⟩ := Kd.C_get h zIns i h0 h1
 have hc : ∀ j u, c[j]? = some u → w.cell? (ad.add (i.toNat * 7 + j)) = some u := hc0
 obtain ⟨A6, c6, rfl, l6, g6⟩ := kIns_open hK
 exact ⟨ad, A6, c6, e, hc 0 _ rfl, by rw [← add_field _ _ 1 (by omega)]; exact hc 1 _ rfl, by rw [← add_field _ _ 2 (by omega)]; exact hc 2 _ rfl, by rw [← add_field _ _ 3 (by omega)]; exact hc 3 _ rfl, by rw [← add_field _ _ 4 (by omega)]; exact hc 4 _ rfl, by rw [← add_field _ _ 5 (by omega)]; exact hc 5 _ rfl, by rw [← add_field _ _ 6 (by omega)]; exact hc 6 _ rfl, l6, g6⟩
structure SBlock where
 f0 : (List SIns)
def zBlock : SBlock := ⟨([] : List SIns)⟩
def kBlock : Kd SBlock := Kd.iso (Kd.slice 57 kIns) (fun x : SBlock => x.f0)
theorem kBlock_open {w : World} {x : SBlock} {cs : List Value} (h : kBlock.K w x cs) : ∃ A0 c0, cs = [.slice A0 x.f0.length c0] ∧ x.f0.length ≤ c0 ∧ kIns.C w A0 x.f0.length x.f0 := by
 obtain ⟨A0, c0, rfl, l0, g0⟩ := h
 exact ⟨A0, c0, rfl, l0, g0⟩
theorem kBlock_mk (w : World) (x : SBlock) {A0 : Option Addr} {c0 : Nat} (l0 : x.f0.length ≤ c0) (g0 : kIns.C w A0 x.f0.length x.f0) : kBlock.K w x [.slice A0 x.f0.length c0] := ⟨A0, c0, rfl, l0, g0⟩
def rd_TBlock (xs : List SBlock) (i : Int) : SBlock := xs.getD i.toNat zBlock
theorem at_TBlock {w : World} {A : Option Addr} {n : Nat} {xs : List SBlock} (h : Kd.C kBlock w A n xs) (i : Int) (h0 : 0 ≤ i) (h1 : i < n) : ∃ ad A0 c0, A = some ad ∧ w.cell? (ad.add i.toNat) = some (.slice A0 (rd_TBlock xs i).f0.length c0) ∧ (rd_TBlock xs i).f0.length ≤ c0 ∧ kIns.C w A0 (rd_TBlock xs i).f0.length (rd_TBlock xs i).f0 := by
 obtain ⟨ad, c, e, _, hK, hc0⟩ := Kd.C_get h zBlock i h0 h1
 have hc : ∀ j u, c[j]? = some u → w.cell? (ad.add (i.toNat * 1 + j)) = some u := hc0
 obtain ⟨A0, c0, rfl, l0, g0⟩ := kBlock_open hK
 exact ⟨ad, A0, c0, e, by have hq := hc 0 _ rfl; rwa [Nat.mul_one, Nat.add_zero] at hq, l0, g0⟩
structure SFunc where
 f0 : (List Int)
 f1 : (List Int)
 f2 : Int
 f3 : Int
 f4 : (List SBlock)
def zFunc : SFunc := ⟨([] : List Int), ([] : List Int), (0 : Int), (0 : Int), ([] : List SBlock)⟩
def kFunc : Kd SFunc := Kd.iso (Kd.pair (Kd.slice 3 (Kd.int .i64)) (Kd.pair (Kd.slice 3 (Kd.int .i64)) (Kd.pair (Kd.int .i64) (Kd.pair (Kd.int .i64) (Kd.slice 55 kBlock))))) (fun x : SFunc => (x.f0, x.f1, x.f2, x.f3, x.f4))
theorem kFunc_open {w : World} {x : SFunc} {cs : List Value} (h : kFunc.K w x cs) : ∃ A0 c0 A1 c1 A4 c4, cs = [.slice A0 x.f0.length c0, .slice A1 x.f1.length c1, .int .i64 x.f2, .int .i64 x.f3, .slice A4 x.f4.length c4] ∧ x.f0.length ≤ c0 ∧ (Kd.int .i64).C w A0 x.f0.length x.f0 ∧ x.f1.length ≤ c1 ∧ (Kd.int .i64).C w A1 x.f1.length x.f1 ∧ x.f4.length ≤ c4 ∧ kBlock.C w A4 x.f4.length x.f4 := by
 obtain ⟨_, _, rfl, ⟨A0, c0, rfl, l0, g0⟩, ⟨_, _, rfl, ⟨A1, c1, rfl, l1, g1⟩, ⟨_, _, rfl, rfl, ⟨_, _, rfl, rfl, ⟨A4, c4, rfl, l4, g4⟩⟩⟩⟩⟩ := h
 exact ⟨A0, c0, A1, c1, A4, c4, rfl, l0, g0, l1, g1, l4, g4⟩
theorem kFunc_mk (w : World) (x : SFunc) {A0 : Option Addr} {c0 : Nat} (l0 : x.f0.length ≤ c0) (g0 : (Kd.int .i64).C w A0 x.f0.length x.f0) {A1 : Option Addr} {c1 : Nat} (l1 : x.f1.length ≤ c1) (g1 : (Kd.int .i64).C w A1 x.f1.length x.f1) {A4 : Option Addr} {c4 : Nat} (l4 : x.f4.length ≤ c4) (g4 : kBlock.C w A4 x.f4.length x.f4) : kFunc.K w x [.slice A0 x.f0.length c0, .slice A1 x.f1.length c1, .int .i64 x.f2, .int .i64 x.f3, .slice A4 x.f4.length c4] := ⟨[.slice A0 x.f0.length c0], [.slice A1 x.f1.length c1, .int .i64 x.f2, .int .i64 x.f3, .slice A4 x.f4.length c4], rfl, ⟨A0, c0, rfl, l0, g0⟩, ⟨[.slice A1 x.f1.length c1], [.int .i64 x.f2, .int .i64 x.f3, .slice A4 x.f4.length c4], rfl, ⟨A1, c1, rfl, l1, g1⟩, ⟨[.int .i64 x.f2], [.int .i64 x.f3, .slice A4 x.f4.length c4], rfl, rfl, ⟨[.int .i64 x.f3], [.slice A4 x.f4.length c4], rfl, rfl, ⟨A4, c4, rfl, l4, g4⟩⟩⟩⟩⟩
def rd_TFunc (xs : List SFunc) (i : Int) : SFunc := xs.getD i.toNat zFunc
theorem at_TFunc {w : World} {A : Option Addr} {n : Nat} {xs : List SFunc} (h : Kd.C kFunc w A n xs) (i : Int) (h0 : 0 ≤ i) (h1 : i < n) : ∃ ad A0 c0 A1 c1 A4 c4, A = some ad ∧ w.cell? (ad.add (i.toNat * 5)) = some (.slice A0 (rd_TFunc xs i).f0.length c0) ∧ w.cell? ⟨(ad.add (i.toNat * 5)).block, (ad.add (i.toNat * 5)).off + 1, none⟩ = some (.slice A1 (rd_TFunc xs i).f1.length c1) ∧ w.cell? ⟨(ad.add (i.toNat * 5)).block, (ad.add (i.toNat * 5)).off + 2, none⟩ = some (.int .i64 (rd_TFunc xs i).f2) ∧ w.cell? ⟨(ad.add (i.toNat * 5)).block, (ad.add (i.toNat * 5)).off + 3, none⟩ = some (.int .i64 (rd_TFunc xs i).f3) ∧ w.cell? ⟨(ad.add (i.toNat * 5)).block, (ad.add (i.toNat * 5)).off + 4, none⟩ = some (.slice A4 (rd_TFunc xs i).f4.length c4) ∧ (rd_TFunc xs i).f0.length ≤ c0 ∧ (Kd.int .i64).C w A0 (rd_TFunc xs i).f0.length (rd_TFunc xs i).f0 ∧ (rd_TFunc xs i).f1.length ≤ c1 ∧ (Kd.int .i64).C w A1 (rd_TFunc xs i).f1.length (rd_TFunc xs i).f1 ∧ (rd_TFunc xs i).f4.length ≤ c4 ∧ kBlock.C w A4 (rd_TFunc xs i).f4.length (rd_TFunc xs i).f4 := by
 obtain ⟨ad, c, e, _, hK, hc0⟩ := Kd.C_get h zFunc i h0 h1
 have hc : ∀ j u, c[j]? = some u → w.cell? (ad.add (i.toNat * 5 + j)) = some u := hc0
 obtain ⟨A0, c0, A1, c1, A4, c4, rfl, l0, g0, l1, g1, l4, g4⟩ := kFunc_open hK
 exact ⟨ad, A0, c0, A1, c1, A4, c4, e, hc 0 _ rfl, by rw [← add_field _ _ 1 (by omega)]; exact hc 1 _ rfl, by rw [← add_field _ _ 2 (by omega)]; exact hc 2 _ rfl, by rw [← add_field _ _ 3 (by omega)]; exact hc 3 _ rfl, by rw [← add_field _ _ 4 (by omega)]; exact hc 4 _ rfl, l0, g0, l1, g1, l4, g4⟩
structure SProg where
 f0 : (List SFunc)
def kProg : Kd SProg := Kd.iso (Kd.slice 52 kFunc) (fun x : SProg => x.f0)
theorem kProg_open {w : World} {x : SProg} {cs : List Value} (h : kProg.K w x cs) : ∃ A0 c0, cs = [.slice A0 x.f0.length c0] ∧ x.f0.length ≤ c0 ∧ kFunc.C w A0 x.f0.length x.f0 := by
 obtain ⟨A0, c0, rfl, l0, g0⟩ := h
 exact ⟨A0, c0, rfl, l0, g0⟩
structure SVal where
 f0 : Int
 f1 : Int
 f2 : Int
def zVal : SVal := ⟨(0 : Int), (0 : Int), (0 : Int)⟩
def kVal : Kd SVal := Kd.iso (Kd.pair (Kd.int .i64) (Kd.pair (Kd.int .i64) (Kd.int .i64))) (fun x : SVal => (x.f0, x.f1, x.f2))
theorem kVal_open {w : World} {x : SVal} {cs : List Value} (h : kVal.K w x cs) : cs = [.int .i64 x.f0, .int .i64 x.f1, .int .i64 x.f2] := by
 obtain ⟨_, _, rfl, rfl, ⟨_, _, rfl, rfl, rfl⟩⟩ := h
 exact rfl
theorem kVal_mkM (w : World) (base : Nat) (ok : Nat → Prop) (x : SVal)  : kVal.M w base ok x [.int .i64 x.f0, .int .i64 x.f1, .int .i64 x.f2] := ⟨[.int .i64 x.f0], [.int .i64 x.f1, .int .i64 x.f2], rfl, rfl, ⟨[.int .i64 x.f1], [.int .i64 x.f2], rfl, rfl, rfl⟩⟩
def rd_TVal (xs : List SVal) (i : Int) : SVal := xs.getD i.toNat zVal
theorem at_TVal {w : World} {A : Option Addr} {n : Nat} {xs : List SVal} (h : Kd.C kVal w A n xs) (i : Int) (h0 : 0 ≤ i) (h1 : i < n) : ∃ ad , A = some ad ∧ w.cell? (ad.add (i.toNat * 3)) = some (.int .i64 (rd_TVal xs i).f0) ∧ w.cell? ⟨(ad.add (i.toNat * 3)).block, (ad.add (i.toNat * 3)).off + 1, none⟩ = some (.int .i64 (rd_TVal xs i).f1) ∧ w.cell? ⟨(ad.add (i.toNat * 3)).block, (ad.add (i.toNat * 3)).off + 2, none⟩ = some (.int .i64 (rd_TVal xs i).f2) := by
 obtain ⟨ad, c, e, _, hK, hc0⟩ := Kd.C_get h zVal i h0 h1
 have hc : ∀ j u, c[j]? = some u → w.cell? (ad.add (i.toNat * 3 + j)) = some u := hc0
 obtain rfl := kVal_open hK
 exact ⟨ad, e, hc 0 _ rfl, by rw [← add_field _ _ 1 (by omega)]; exact hc 1 _ rfl, by rw [← add_field _ _ 2 (by omega)]; exact hc 2 _ rfl⟩
structure SObj where
 f0 : (List Int)
 f1 : (List Int)
def zObj : SObj := ⟨([] : List Int), ([] : List Int)⟩
def kObj : Kd SObj := Kd.iso (Kd.pair (Kd.slice 3 (Kd.int .i64)) (Kd.slice 3 (Kd.int .i64))) (fun x : SObj => (x.f0, x.f1))
theorem kObj_open {w : World} {x : SObj} {cs : List Value} (h : kObj.K w x cs) : ∃ A0 c0 A1 c1, cs = [.slice A0 x.f0.length c0, .slice A1 x.f1.length c1] ∧ x.f0.length ≤ c0 ∧ (Kd.int .i64).C w A0 x.f0.length x.f0 ∧ x.f1.length ≤ c1 ∧ (Kd.int .i64).C w A1 x.f1.length x.f1 := by
 obtain ⟨_, _, rfl, ⟨A0, c0, rfl, l0, g0⟩, ⟨A1, c1, rfl, l1, g1⟩⟩ := h
 exact ⟨A0, c0, A1, c1, rfl, l0, g0, l1, g1⟩
theorem kObj_mk (w : World) (x : SObj) {A0 : Option Addr} {c0 : Nat} (l0 : x.f0.length ≤ c0) (g0 : (Kd.int .i64).C w A0 x.f0.length x.f0) {A1 : Option Addr} {c1 : Nat} (l1 : x.f1.length ≤ c1) (g1 : (Kd.int .i64).C w A1 x.f1.length x.f1) : kObj.K w x [.slice A0 x.f0.length c0, .slice A1 x.f1.length c1] := ⟨[.slice A0 x.f0.length c0], [.slice A1 x.f1.length c1], rfl, ⟨A0, c0, rfl, l0, g0⟩, ⟨A1, c1, rfl, l1, g1⟩⟩
theorem kObj_openF {W : World} {ok : Nat → Prop} {x : SObj} {cs : List Value} (h : Kd.FK kObj W ok x cs) : ∃ A0 c0 A1 c1, cs = [.slice A0 x.f0.length c0, .slice A1 x.f1.length c1] ∧ x.f0.length ≤ c0 ∧ Kd.F (Kd.int .i64) W ok A0 x.f0.length x.f0 ∧ x.f1.length ≤ c1 ∧ Kd.F (Kd.int .i64) W ok A1 x.f1.length x.f1 := by
 obtain ⟨A0, c0, A1, c1, rfl, l0, _, l1, _⟩ := kObj_open (Kd.FK_now h)
 exact ⟨A0, c0, A1, c1, rfl, l0, (fun W' hW => by obtain ⟨A0_, c0_, A1_, c1_, he, l0_, g0_, l1_, g1_⟩ := kObj_open (h W' hW); injection (Option.some.inj (show some (Value.slice A0 x.f0.length c0) = some (Value.slice A0_ x.f0.length c0_) from congrArg (fun l => l[0]?) he)) with ha_ _ _; rw [ha_]; exact g0_), l1, (fun W' hW => by obtain ⟨A0_, c0_, A1_, c1_, he, l0_, g0_, l1_, g1_⟩ := kObj_open (h W' hW); injection (Option.some.inj (show some (Value.slice A1 x.f1.length c1) = some (Value.slice A1_ x.f1.length c1_) from congrArg (fun l => l[1]?) he)) with ha_ _ _; rw [ha_]; exact g1_)⟩
theorem kObj_mkF (W : World) (ok : Nat → Prop) (x : SObj) {A0 : Option Addr} {c0 : Nat} (l0 : x.f0.length ≤ c0) (g0 : Kd.F (Kd.int .i64) W ok A0 x.f0.length x.f0) {A1 : Option Addr} {c1 : Nat} (l1 : x.f1.length ≤ c1) (g1 : Kd.F (Kd.int .i64) W ok A1 x.f1.length x.f1) : Kd.FK kObj W ok x [.slice A0 x.f0.length c0, .slice A1 x.f1.length c1] := fun W2 hW => kObj_mk W2 x l0 (g0 W2 hW) l1 (g1 W2 hW)
def rd_TObj (xs : List SObj) (i : Int) : SObj := xs.getD i.toNat zObj
theorem at_TObj {w : World} {A : Option Addr} {n : Nat} {xs : List SObj} (h : Kd.C kObj w A n xs) (i : Int) (h0 : 0 ≤ i) (h1 : i < n) : ∃ ad A0 c0 A1 c1, A = some ad ∧ w.cell? (ad.add (i.toNat * 2)) = some (.slice A0 (rd_TObj xs i).f0.length c0) ∧ w.cell? ⟨(ad.add (i.toNat * 2)).block, (ad.add (i.toNat * 2)).off + 1, none⟩ = some (.slice A1 (rd_TObj xs i).f1.length c1) ∧ (rd_TObj xs i).f0.length ≤ c0 ∧ (Kd.int .i64).C w A0 (rd_TObj xs i).f0.length (rd_TObj xs i).f0 ∧ (rd_TObj xs i).f1.length ≤ c1 ∧ (Kd.int .i64).C w A1 (rd_TObj xs i).f1.length (rd_TObj xs i).f1 := by
 obtain ⟨ad, c, e, _, hK, hc0⟩ := Kd.C_get h zObj i h0 h1
 have hc : ∀ j u, c[j]? = some u → w.cell? (ad.add (i.toNat * 2 + j)) = some u := hc0
 obtain ⟨A0, c0, A1, c1, rfl, l0, g0, l1, g1⟩ := kObj_open hK
 exact ⟨ad, A0, c0, A1, c1, e, hc 0 _ rfl, by rw [← add_field _ _ 1 (by omega)]; exact hc 1 _ rfl, l0, g0, l1, g1⟩
structure VFr where
 fn : Nat
 vars : List SVal
 blk : Nat
 pos : Nat
 want : Nat
structure VSt where
 stack : List VFr
 heap : List SObj
 evs : List Int
 fin : Int
 val : Int
 code : Int
 steps : Nat
def wr64 (n : Int) : Int := wrap64 n
def fnAt (p : SProg) (n : Nat) : SFunc := p.f0.getD n zFunc
def codeAt (p : SProg) (n b : Nat) : List SIns := ((fnAt p n).f4.getD b zBlock).f0
def insAt (p : SProg) (f : VFr) : SIns := (codeAt p f.fn f.blk).getD f.pos zIns
def varAt (vs : List SVal) (i : Int) : SVal := vs.getD i.toNat zVal
def bitV (b : Bool) : SVal := ⟨if b then 1 else 0, 0, 0⟩
def reckonL (x : SIns) (a b : SVal) : Option SVal :=
 if x.f0 = 1 then some ⟨x.f4, 0, 0⟩ else if x.f0 = 2 then some a
 else if x.f0 = 3 then some ⟨wr64 (a.f0 + b.f0), 0, 0⟩ else if x.f0 = 4 then some ⟨wr64 (a.f0 - b.f0), 0, 0⟩ else if x.f0 = 5 then some ⟨wr64 (a.f0 * b.f0), 0, 0⟩
 else if x.f0 = 6 then some (bitV (decide (a.f0 < b.f0))) else if x.f0 = 7 then some ⟨0, 0, 0⟩ else if x.f0 = 8 then some (bitV (a.f1 == 0)) else if x.f0 = 9 then some (bitV (a.f1 == b.f1))
 else if x.f0 = 16 then some ⟨a.f0, a.f1, wr64 (a.f2 + x.f4)⟩ else none
def objAt (h : List SObj) (o : Int) : SObj := h.getD (o - 1).toNat ⟨[], []⟩
def objE (h : List SObj) (o : Int) : Int := if 1 ≤ o ∧ o ≤ h.length then 0 else 14
def fldE (l : List Int) (n : Int) : Int := if 0 ≤ n ∧ n < l.length then 0 else 15
def getF (h : List SObj) (o : Int) (l : List Int) (n : Int) : Int × Int :=
 if objE h o ≠ 0 then (0, 14) else if fldE l n ≠ 0 then (0, 15) else (l.getD n.toNat 0, 0)
def putF (h : List SObj) (o : Int) (l : List Int) (n : Int) (s : SObj) : List SObj × Int :=
 if objE h o ≠ 0 then (h, 14) else if fldE l n ≠ 0 then (h, 15) else (h.set (o - 1).toNat s, 0)
def getI (h : List SObj) (o n : Int) : Int × Int := getF h o (objAt h o).f1 n
def getR (h : List SObj) (o n : Int) : Int × Int := getF h o (objAt h o).f0 n
def putI (h : List SObj) (o n v : Int) : List SObj × Int := putF h o (objAt h o).f1 n ⟨(objAt h o).f0, (objAt h o).f1.set n.toNat v⟩
def putR (h : List SObj) (o n v : Int) : List SObj × Int := putF h o (objAt h o).f0 n ⟨(objAt h o).f0.set n.toNat v, (objAt h o).f1⟩
def derE (o : Int) : Int := if o = 0 then 14 else 0
def touchL (x : SIns) (a b : SVal) (h : List SObj) : Option (List SObj × SVal × Int) :=
 if x.f0 = 10 then some (h ++ [⟨List.replicate x.f4.toNat 0, List.replicate x.f5.toNat 0⟩], ⟨0, h.length + 1, 0⟩, 0)
 else if x.f0 = 11 then some (h, ⟨(getI h a.f1 x.f4).1, 0, 0⟩, (getI h a.f1 x.f4).2)
 else if x.f0 = 12 then some ((putI h a.f1 x.f4 b.f0).1, ⟨0, 0, 0⟩, (putI h a.f1 x.f4 b.f0).2)
 else if x.f0 = 13 then some (h, ⟨0, (getR h a.f1 x.f4).1, 0⟩, (getR h a.f1 x.f4).2)
 else if x.f0 = 14 then some ((putR h a.f1 x.f4 b.f1).1, ⟨0, 0, 0⟩, (putR h a.f1 x.f4 b.f1).2)
 else if x.f0 = 15 then some (h, ⟨0, a.f1, x.f4⟩, derE a.f1)
 else if x.f0 = 17 then some (h, ⟨(getI h a.f1 a.f2).1, 0, 0⟩, (getI h a.f1 a.f2).2)
 else if x.f0 = 18 then some ((putI h a.f1 a.f2 b.f0).1, ⟨0, 0, 0⟩, (putI h a.f1 a.f2 b.f0).2)
 else none
def setsL (op : Int) : Bool := !(op == 12) && !(op == 14) && !(op == 18)
def beginL (p : SProg) (n : Nat) (args : List SVal) : VFr := ⟨n, args ++ List.replicate ((fnAt p n).f0.length - args.length) zVal, 0, 0, 0⟩
def leaveL (s : VSt) (v : SVal) : List VFr → VSt
 | [] => { s with stack := [], fin := 1, val := v.f0 }
 | g :: r => { s with stack := { g with vars := g.vars.set g.want v } :: r }
def leadL (p : SProg) (x : SIns) (s : VSt) (f : VFr) (r : List VFr) : VSt :=
 if x.f0 = 19 then (if 60 ≤ r.length + 1 then { s with stack := f :: r, fin := 2, code := 18 } else { s with stack := beginL p x.f4.toNat (x.f6.map (varAt f.vars)) :: { f with want := x.f1.toNat } :: r })
 else if x.f0 = 20 then { s with stack := f :: r, evs := s.evs ++ [(varAt f.vars x.f2).f0] }
 else if x.f0 = 21 then { s with stack := { f with blk := x.f4.toNat, pos := 0 } :: r }
 else if x.f0 = 22 then { s with stack := { f with blk := if (varAt f.vars x.f2).f0 = 0 then x.f5.toNat else x.f4.toNat, pos := 0 } :: r }
 else if x.f0 = 23 then leaveL s (varAt f.vars x.f2) r
 else { s with stack := f :: r }
def stepL (p : SProg) (s : VSt) : VSt :=
 match s.stack with
 | [] => s
 | f :: r =>
  let x := insAt p f
  let f1 := { f with pos := f.pos + 1 }
  let s1 := { s with steps := s.steps + 1 }
  let a := varAt f.vars x.f2
  let b := varAt f.vars x.f3
  match reckonL x a b with
  | some v => { s1 with stack := { f1 with vars := f1.vars.set x.f1.toNat v } :: r }
  | none =>
   match touchL x a b s.heap with
   | some (h, v, e) => if e ≠ 0 then { s1 with stack := f1 :: r, heap := h, fin := 2, code := e } else if setsL x.f0 then { s1 with stack := { f1 with vars := f1.vars.set x.f1.toNat v } :: r, heap := h } else { s1 with stack := f1 :: r, heap := h }
   | none => leadL p x s1 f1 r
def startL (p : SProg) : VSt := ⟨[beginL p 0 []], [], [], 0, 0, 0, 0⟩
def runL (p : SProg) : Nat → VSt → VSt
 | 0, s => s
 | n + 1, s => if s.fin = 0 then runL p n (stepL p s) else s
end Go.Proofs.Ytodjpbidjldblaa.H
namespace Go.Proofs.Ytodjpbidjldblaa.H
open Go Go.RowKit Go.Proofs.YtodjpbidjldblaaW.PrintWords
set_option linter.unusedVariables false
def partsT : List (List Int) := [[], [68, 110], [68, 65], [68, 65, 66], [68, 65, 66], [68, 65, 66], [68, 65, 66], [68], [68, 65], [68, 65, 66], [68, 78, 77], [68, 65, 78], [65, 78, 66], [68, 65, 78], [65, 78, 66], [68, 65, 78], [68, 65, 110], [68, 65], [65, 66], [68, 78, 76], [65], [78], [65, 78, 77], [65]]
def partsN (k : Nat) : List Int := partsT.getD k []
def partsL (op : Int) : List Int := if 0 ≤ op ∧ op < 24 then partsN op.toNat else []
def Letter (c : Int) : Prop := c = 68 ∨ c = 65 ∨ c = 66 ∨ c = 77 ∨ c = 78 ∨ c = 110 ∨ c = 76
instance (c : Int) : Decidable (Letter c) := by unfold Letter; infer_instance
end Go.Proofs.Ytodjpbidjldblaa.H
namespace Go.Proofs.Ytodjpbidjldblaa.H
open Go.RowKit Go.Proofs.YtodjpbidjldblaaW.PrintWords
set_option linter.unusedVariables false
set_option linter.unusedSimpArgs false
abbrev has (op c : Int) : Prop := c ∈ partsL op
def lastL (op : Int) : Prop := op = 21 ∨ op = 22 ∨ op = 23
instance (op : Int) : Decidable (lastL op) := by unfold lastL; infer_instance
structure InsP (p : SProg) (f : SFunc) (x : SIns) : Prop where
 op : partsL x.f0 ≠ []
 d0 : x.f1 = 0 ∨ has x.f0 68
 a0 : x.f2 = 0 ∨ has x.f0 65
 b0 : x.f3 = 0 ∨ has x.f0 66
 d : has x.f0 68 → 0 ≤ x.f1 ∧ x.f1 < f.f0.length
 a : has x.f0 65 → 0 ≤ x.f2 ∧ x.f2 < f.f0.length
 b : has x.f0 66 → 0 ≤ x.f3 ∧ x.f3 < f.f0.length
 l : has x.f0 76 → ∀ v ∈ x.f6, 0 ≤ v ∧ v < (f.f0.length : Int)
 jump : x.f0 = 21 → 1 ≤ x.f4 ∧ x.f4 < f.f4.length
 branch : x.f0 = 22 → (1 ≤ x.f4 ∧ x.f4 < f.f4.length) ∧ 1 ≤ x.f5 ∧ x.f5 < f.f4.length
 call : x.f0 = 19 → (0 ≤ x.f4 ∧ x.f4 < p.f0.length) ∧ (x.f6.length : Int) = (fnAt p x.f4.toNat).f2
 alloc : x.f0 = 10 → (0 ≤ x.f4 ∧ x.f4 ≤ 8) ∧ 0 ≤ x.f5 ∧ x.f5 ≤ 8
def kindAt (f : SFunc) (v : Int) : Int := f.f0.getD v.toNat 0
structure FitP (f : SFunc) (x : SIns) : Prop where
 der : has x.f0 68 → kindAt f x.f1 = 2 → x.f0 = 15 ∨ x.f0 = 16
 shift : x.f0 = 16 → kindAt f x.f2 = 2
structure FuncP (f : SFunc) : Prop where
 vars : f.f0.length ≤ 48
 base : f.f1.length = f.f0.length
 par : 0 ≤ f.f2 ∧ f.f2 ≤ 4 ∧ f.f2 ≤ f.f0.length
 res : 0 ≤ f.f3 ∧ f.f3 ≤ 1
 blocks : 1 ≤ f.f4.length ∧ f.f4.length ≤ 40
 ders : ∀ i : Nat, (i : Int) < f.f2 → f.f0.getD i 0 ≠ 2
 code : ∀ b < f.f4.length, 1 ≤ (f.f4.getD b zBlock).f0.length ∧ (f.f4.getD b zBlock).f0.length ≤ 40
 last : ∀ b < f.f4.length, ∀ k < (f.f4.getD b zBlock).f0.length, lastL ((f.f4.getD b zBlock).f0.getD k zIns).f0 ↔ k + 1 = (f.f4.getD b zBlock).f0.length
structure ProgP (p : SProg) : Prop where
 funcs : 1 ≤ p.f0.length ∧ p.f0.length ≤ 8
 main : (fnAt p 0).f2 = 0
 func : ∀ n < p.f0.length, FuncP (fnAt p n)
 ins : ∀ n < p.f0.length, ∀ b < (fnAt p n).f4.length, ∀ k < (codeAt p n b).length, InsP p (fnAt p n) ((codeAt p n b).getD k zIns) ∧ FitP (fnAt p n) ((codeAt p n b).getD k zIns)
structure FrP (p : SProg) (h : Nat) (f : VFr) : Prop where
 fn : f.fn < p.f0.length
 vars : f.vars.length = (fnAt p f.fn).f0.length
 blk : f.blk < (fnAt p f.fn).f4.length
 pos : f.pos < (codeAt p f.fn f.blk).length
 vals : ∀ v ∈ f.vars, 0 ≤ v.f1 ∧ v.f1 ≤ h
 ders : ∀ i < f.vars.length, (fnAt p f.fn).f0.getD i 0 = 2 → (f.vars.getD i zVal).f0 = 0
structure WaitP (p : SProg) (f : VFr) : Prop where
 pos : 1 ≤ f.pos
 op : ((codeAt p f.fn f.blk).getD (f.pos - 1) zIns).f0 = 19
 want : (((codeAt p f.fn f.blk).getD (f.pos - 1) zIns).f1).toNat = f.want
def HeapP (h : List SObj) : Prop := ∀ o ∈ h, o.f0.length ≤ 8 ∧ o.f1.length ≤ 8 ∧ ∀ r ∈ o.f0, 0 ≤ r ∧ r ≤ h.length
structure GoP (p : SProg) (s : VSt) (f : VFr) (r : List VFr) : Prop where
 stack : s.stack = f :: r
 top : FrP p s.heap.length f
 rest : ∀ g ∈ r, FrP p s.heap.length g ∧ WaitP p g
 few : r.length < 60
structure RunP (p : SProg) (s : VSt) : Prop where
 heap : HeapP s.heap
 objs : s.heap.length ≤ s.steps
 told : s.evs.length ≤ s.steps
 go : s.fin = 0 → ∃ f r, GoP p s f r
 fin : s.fin = 0 ∨ s.fin = 1 ∨ s.fin = 2
 trap : s.fin = 2 ↔ s.code ≠ 0
 halt : s.fin = 1 ∨ s.val = 0
theorem op_cases {op : Int} (h : partsL op ≠ []) : op = 1 ∨ op = 2 ∨ op = 3 ∨ op = 4 ∨ op = 5 ∨ op = 6 ∨ op = 7 ∨ op = 8 ∨ op = 9 ∨ op = 10 ∨ op = 11 ∨ op = 12 ∨ op = 13 ∨ op = 14 ∨ op = 15 ∨ op = 16 ∨ op = 17 ∨ op = 18 ∨ op = 19 ∨ op = 20 ∨ op = 21 ∨ op = 22 ∨ op = 23 := by
 unfold partsL at h
 split at h
 ·by_cases h0 : op = 0
  ·subst h0; simp [partsN, partsT] at h
  ·omega
 ·simp at h
structure KT (ts : List Nat) (base : Nat) (w w' : World) : Prop where
 below : Below base w w'
 keep : ∀ (i : Nat) (cs : Array Value) (t : TypeId) (fr : Nat × Nat), w.heap[i]? = some (.cells cs t fr) → t ∉ ts → w'.heap[i]? = w.heap[i]?
section
variable {ts : List Nat} {base : Nat} {w w1 w2 : World}
theorem KT.refl (ts : List Nat) (base : Nat) (w : World) : KT ts base w w := ⟨Below.refl _ _, fun _ _ _ _ _ _ => rfl⟩
theorem KT.trans (h : KT ts base w w1) (k : KT ts base w1 w2) : KT ts base w w2 :=
 ⟨h.below.trans k.below, fun i cs t fr hb ht => by
  have h1 := h.keep i cs t fr hb ht
  rw [hb] at h1
  rw [k.keep i cs t fr h1 ht, h1, hb]⟩
theorem KT.size (h : KT ts base w w1) : w.heap.size ≤ w1.heap.size := h.below.size
theorem KT.of_bel (h : Bel w w1) (hb : base ≤ w.heap.size) (ts : List Nat) : KT ts base w w1 :=
 ⟨h.out.mono hb, fun i cs t fr hi _ => h.out.block i (blk_lt hi)⟩
theorem KT.mono {ts' : List Nat} {base' : Nat} (h : KT ts base w w1) (hb : base' ≤ base) (ht : ∀ t, t ∈ ts → t ∈ ts') : KT ts' base' w w1 :=
 ⟨h.below.mono hb, fun i cs t fr hi hn => h.keep i cs t fr hi (fun hm => hn (ht t hm))⟩
theorem KT.blk (h : KT ts base w w1) {g t : Nat} {cs : Array Value} {fr : Nat × Nat} (hb : w.heap[g]? = some (.cells cs t fr)) (ht : t ∉ ts) : w1.heap[g]? = some (.cells cs t fr) := (h.keep g cs t fr hb ht).trans hb
theorem KT.set {g t : Nat} {cs : Array Value} {fr : Nat × Nat} (hb : w.heap[g]? = some (.cells cs t fr)) (ht : t ∈ ts) (hg : base ≤ g) (j : Nat) (u : Value) : KT ts base w (w.setCell ⟨g, j, none⟩ u) :=
 ⟨(Below.refl _ _).setCell (p := ⟨g, j, none⟩) hg u, fun i cs' t' fr' hi hn => Below.heap_setCell w ⟨g, j, none⟩ u i (fun e => by
  have e : i = g := e
  subst e
  rw [hi] at hb
  injection hb with hb
  injection hb with _ hb _
  exact hn (hb ▸ ht))⟩
theorem KT.grown {e size n b : Nat} {v : Value} {xs : List Value} (ho : w.ownsRow b e size v n xs) (hg : w.grownBy w1 v.ownBlock) (he : e ∈ ts) (hb : base ≤ b) (hs : base ≤ w.heap.size) : KT ts base w w1 :=
 ⟨(Below.refl _ _).grown hg hs (fun k hk => Nat.le_trans hb (own_base ho k hk)), fun i cs t fr hi hn => hg.block i (blk_lt hi) (fun e' => by
  obtain ⟨cells, hc⟩ := own_typed ho i e'.symm
  rw [hi] at hc
  injection hc with hc
  injection hc with _ hc _
  exact hn (hc ▸ he))⟩
end
abbrev OwnAt {α : Type} (d : Kd α) (e : Nat) (base : Nat) (W : World) (v : Value) (xs : List α) : Prop := Aside0 (Kd.R d e W base (fun _ => True) v xs)
theorem OwnAt.keep {α : Type} {d : Kd α} {e base b : Nat} {W W1 : World} {v : Value} {xs : List α} {ts : List Nat} (h : OwnAt d e base W v xs) (k : KT ts b W W1) (ht : ∀ q, q ∈ e :: d.E → q ∉ ts) : OwnAt d e base W1 v xs :=
 ⟨Kd.R_mono (Kd.R_move (Kd.R_bound h.out) (fun i hi => by
  obtain ⟨_, _, _, q, hq, cells, hc⟩ := hi
  exact k.keep i cells q (0, 0) hc (ht q hq))) (fun _ hk => hk.1)⟩
theorem OwnAt.step {α : Type} {d : Kd α} {e base : Nat} {W W1 : World} {v : Value} {xs : List α} (h : OwnAt d e base W v xs) (k : Bel W W1) : OwnAt d e base W1 v xs := ⟨Kd.R_below h.out k.out⟩
theorem OwnAt.of_own {α : Type} {d : Kd α} {e base : Nat} {w0 W : World} {v : Value} {xs : List α} (h : Own d e w0 W v xs) (hb : base ≤ w0.heap.size) : OwnAt d e base W v xs := ⟨Kd.R_lower h.out hb⟩
theorem OwnAt.nil {α : Type} (d : Kd α) (e base : Nat) (W : World) : OwnAt d e base W (.slice none 0 0) [] := ⟨Kd.R_nil _ _ _ _ _⟩
theorem OwnAt.reads {α : Type} {d : Kd α} {e base : Nat} {W : World} {v : Value} {xs : List α} (h : OwnAt d e base W v xs) : ∃ A c, v = .slice A xs.length c ∧ xs.length ≤ c ∧ Rd d W A xs := by
 obtain ⟨A, c, h1, h2, h3⟩ := Kd.R_reads h.out
 exact ⟨A, c, h1, h2, ⟨h3⟩⟩
abbrev RdK {α : Type} (d : Kd α) (ts : List Nat) (base : Nat) (W : World) (A : Option Addr) (xs : List α) : Prop := Aside0 (∀ W', KT ts base W W' → Rd d W' A xs)
section
variable {α : Type} {d : Kd α} {ts : List Nat} {base : Nat} {W W1 : World} {A : Option Addr} {xs : List α}
theorem RdK.now (h : RdK d ts base W A xs) : Rd d W A xs := h.out W (KT.refl _ _ _)
theorem RdK.keep (h : RdK d ts base W A xs) (k : KT ts base W W1) : RdK d ts base W1 A xs := ⟨fun W' k' => h.out W' (k.trans k')⟩
theorem RdK.step (h : RdK d ts base W A xs) (k : Bel W W1) (hb : base ≤ W.heap.size) : RdK d ts base W1 A xs := h.keep (KT.of_bel k hb ts)
theorem RdK.own {e b n c : Nat} (h : OwnAt d e b W (.slice A n c) xs) (ht : ∀ q, q ∈ e :: d.E → q ∉ ts) (base : Nat) : RdK d ts base W A xs :=
 ⟨fun W' k' => by
  obtain ⟨A', c', h1, _, h3⟩ := (h.keep k' ht).reads
  injection h1 with h1
  rw [h1]
  exact h3⟩
theorem RdK.nil (d : Kd α) (ts : List Nat) (base : Nat) (W : World) : RdK d ts base W none [] := ⟨fun _ _ => ⟨rfl, by simp, fun h => by simp at h⟩⟩
end
section
variable {p : SProg} {h h' : Nat} {f g : VFr}
theorem FrP.ins (hp : ProgP p) (q : FrP p h f) : InsP p (fnAt p f.fn) (insAt p f) ∧ FitP (fnAt p f.fn) (insAt p f) := hp.ins f.fn q.fn f.blk q.blk f.pos q.pos
theorem FrP.more (q : FrP p h f) (hh : h ≤ h') : FrP p h' f := ⟨q.fn, q.vars, q.blk, q.pos, fun v hv => ⟨(q.vals v hv).1, by have := (q.vals v hv).2; omega⟩, q.ders⟩
theorem FrP.next (hp : ProgP p) (q : FrP p h f) (hl : ¬ lastL (insAt p f).f0) : FrP p h { f with pos := f.pos + 1 } :=
 ⟨q.fn, q.vars, q.blk, by
  have h1 := (hp.func f.fn q.fn).last f.blk q.blk f.pos q.pos
  have h2 := q.pos
  show f.pos + 1 < (codeAt p f.fn f.blk).length
  rcases Nat.lt_or_ge (f.pos + 1) (codeAt p f.fn f.blk).length with h3 | h3
  ·exact h3
  ·exact absurd (h1.2 (by unfold codeAt at *; omega)) hl, q.vals, q.ders⟩
theorem FrP.set (q : FrP p h f) (d : Int) (v : SVal) (hv : 0 ≤ v.f1 ∧ v.f1 ≤ h) (hk : kindAt (fnAt p f.fn) d = 2 → v.f0 = 0) : FrP p h { f with vars := f.vars.set d.toNat v } :=
 ⟨q.fn, by simp [q.vars], q.blk, q.pos, fun u hu => by
  rcases List.mem_or_eq_of_mem_set hu with hu | rfl
  ·exact q.vals u hu
  ·exact hv, fun i hi hki => by
  have hi' : i < f.vars.length := by simpa using hi
  show ((f.vars.set d.toNat v).getD i zVal).f0 = 0
  rw [List.getD_eq_getElem?_getD, List.getElem?_set]
  by_cases he : d.toNat = i
  ·rw [if_pos he, if_pos (by omega)]
   exact hk (by unfold kindAt; rw [he]; exact hki)
  ·rw [if_neg he, ← List.getD_eq_getElem?_getD]
   exact q.ders i hi' hki⟩
theorem FrP.val (q : FrP p h f) (i : Int) : 0 ≤ (varAt f.vars i).f1 ∧ (varAt f.vars i).f1 ≤ h := by
 unfold varAt
 rw [List.getD_eq_getElem?_getD]
 cases hh : f.vars[i.toNat]? with
 | none => simp [zVal]
 | some v => exact q.vals v (List.mem_of_getElem? hh)
theorem FrP.jump (hp : ProgP p) (q : FrP p h f) (b : Nat) (hb : b < (fnAt p f.fn).f4.length) : FrP p h { f with blk := b, pos := 0 } :=
 ⟨q.fn, q.vars, hb, ((hp.func f.fn q.fn).code b hb).1, q.vals, q.ders⟩
theorem begin_ok (hp : ProgP p) (n : Nat) (hn : n < p.f0.length) (args : List SVal) (ha : (args.length : Int) = (fnAt p n).f2) (hv : ∀ v ∈ args, 0 ≤ v.f1 ∧ v.f1 ≤ h) : FrP p h (beginL p n args) := by
 have hf := hp.func n hn
 have hl : args.length ≤ (fnAt p n).f0.length := by have := hf.par; omega
 refine ⟨hn, ?_, ?_, ?_, ?_, ?_⟩
 ·show (args ++ List.replicate _ zVal).length = (fnAt p n).f0.length
  simp
  omega
 ·exact hf.blocks.1
 ·exact (hf.code 0 hf.blocks.1).1
 ·intro v hv'
  have hv' : v ∈ args ++ List.replicate ((fnAt p n).f0.length - args.length) zVal := hv'
  rcases List.mem_append.1 hv' with h1 | h1
  ·exact hv v h1
  ·rw [List.eq_of_mem_replicate h1]
   simp [zVal]
 ·intro i hi hk
  show ((args ++ List.replicate ((fnAt p n).f0.length - args.length) zVal).getD i zVal).f0 = 0
  rcases Nat.lt_or_ge i args.length with h1 | h1
  ·exact absurd hk (hf.ders i (by omega))
  ·rw [List.getD_eq_getElem?_getD, List.getElem?_append_right h1, List.getElem?_replicate]
   split <;> rfl
end
theorem getF_err (h : List SObj) (o : Int) (l : List Int) (n : Int) : (getF h o l n).2 = 0 ∨ (getF h o l n).2 = 14 ∨ (getF h o l n).2 = 15 := by
 unfold getF
 split
 ·simp
 ·split <;> simp
theorem putF_err (h : List SObj) (o : Int) (l : List Int) (n : Int) (s : SObj) : (putF h o l n s).2 = 0 ∨ (putF h o l n s).2 = 14 ∨ (putF h o l n s).2 = 15 := by
 unfold putF
 split
 ·simp
 ·split <;> simp
theorem objAt_ok {h : List SObj} (hh : HeapP h) (o : Int) : (objAt h o).f0.length ≤ 8 ∧ (objAt h o).f1.length ≤ 8 ∧ ∀ r ∈ (objAt h o).f0, 0 ≤ r ∧ r ≤ h.length := by
 unfold objAt
 rw [List.getD_eq_getElem?_getD]
 cases hq : h[(o - 1).toNat]? with
 | none => simp
 | some v => exact hh v (List.mem_of_getElem? hq)
theorem putF_ok {h : List SObj} (hh : HeapP h) (o : Int) (l : List Int) (n : Int) (s : SObj) (hs : s.f0.length ≤ 8 ∧ s.f1.length ≤ 8 ∧ ∀ r ∈ s.f0, 0 ≤ r ∧ r ≤ h.length) : HeapP (putF h o l n s).1 ∧ (putF h o l n s).1.length = h.length := by
 unfold putF
 split
 ·exact ⟨hh, rfl⟩
 ·split
  ·exact ⟨hh, rfl⟩
  ·refine ⟨fun u hu => ?_, by simp⟩
   simp only [List.length_set]
   rcases List.mem_or_eq_of_mem_set hu with hu | rfl
   ·exact hh u hu
   ·exact hs
theorem getR_ok {h : List SObj} (hh : HeapP h) (o n : Int) : 0 ≤ (getR h o n).1 ∧ (getR h o n).1 ≤ h.length := by
 unfold getR getF
 split
 ·simp
 ·split
  ·simp
  ·show 0 ≤ (objAt h o).f0.getD n.toNat 0 ∧ (objAt h o).f0.getD n.toNat 0 ≤ h.length
   rw [List.getD_eq_getElem?_getD]
   cases hq : (objAt h o).f0[n.toNat]? with
   | none => simp
   | some v => exact (objAt_ok hh o).2.2 v (List.mem_of_getElem? hq)
theorem putR_ok {h : List SObj} (hh : HeapP h) (o n v : Int) (hv : 0 ≤ v ∧ v ≤ h.length) : HeapP (putR h o n v).1 ∧ (putR h o n v).1.length = h.length := by
 have q := objAt_ok hh o
 refine putF_ok hh o _ n _ ⟨by simpa using q.1, q.2.1, fun r hr => ?_⟩
 rcases List.mem_or_eq_of_mem_set hr with hr | rfl
 ·exact q.2.2 r hr
 ·exact hv
theorem putI_ok {h : List SObj} (hh : HeapP h) (o n v : Int) : HeapP (putI h o n v).1 ∧ (putI h o n v).1.length = h.length := by
 have q := objAt_ok hh o
 exact putF_ok hh o _ n _ ⟨q.1, by simpa using q.2.1, q.2.2⟩
theorem reckon_ok {p : SProg} {h : Nat} {f : VFr} (hp : ProgP p) (q : FrP p h f) {v : SVal} (hv : reckonL (insAt p f) (varAt f.vars (insAt p f).f2) (varAt f.vars (insAt p f).f3) = some v) :
  has (insAt p f).f0 68 ∧ ¬ lastL (insAt p f).f0 ∧ (0 ≤ v.f1 ∧ v.f1 ≤ h) ∧ (kindAt (fnAt p f.fn) (insAt p f).f1 = 2 → v.f0 = 0) := by
 obtain ⟨hi, hf⟩ := q.ins hp
 have ha := q.val (insAt p f).f2
 have hd : (insAt p f).f0 = 16 → (varAt f.vars (insAt p f).f2).f0 = 0 := fun e => by
  have h1 := hi.a (by rw [e]; decide)
  have h2 := q.ders (insAt p f).f2.toNat (by rw [q.vars]; omega) (hf.shift e)
  exact h2
 have hder := hf.der
 generalize varAt f.vars (insAt p f).f2 = a at *
 generalize varAt f.vars (insAt p f).f3 = b at *
 generalize insAt p f = x at *
 unfold reckonL at hv
 repeat' split at hv
 all_goals (first | (cases hv; done) | skip)
 all_goals
  rename_i e
  injection hv with hv
  subst hv
  rw [e] at hder hd ⊢
  refine ⟨by decide, by decide, ?_, fun hk => ?_⟩
  ·first | exact ha | (simp [bitV]; done)
  ·rcases hder (by decide) hk with q1 | q1 <;> first | (exact absurd q1 (by decide)) | exact hd rfl
theorem touch_ok {p : SProg} {f : VFr} {h : List SObj} (hp : ProgP p) (hh : HeapP h) (q : FrP p h.length f) {h1 : List SObj} {v : SVal} {e : Int} (hv : touchL (insAt p f) (varAt f.vars (insAt p f).f2) (varAt f.vars (insAt p f).f3) h = some (h1, v, e)) :
  ¬ lastL (insAt p f).f0 ∧ HeapP h1 ∧ h.length ≤ h1.length ∧ h1.length ≤ h.length + 1 ∧ ((insAt p f).f0 ≠ 10 → h1.length = h.length) ∧ (0 ≤ v.f1 ∧ v.f1 ≤ h1.length) ∧ (setsL (insAt p f).f0 = true → has (insAt p f).f0 68 ∧ (kindAt (fnAt p f.fn) (insAt p f).f1 = 2 → v.f0 = 0)) ∧ (e = 0 ∨ e = 14 ∨ e = 15) := by
 obtain ⟨hi, hf⟩ := q.ins hp
 have ha := q.val (insAt p f).f2
 have hb := q.val (insAt p f).f3
 have hder := hf.der
 have hal := hi.alloc
 generalize varAt f.vars (insAt p f).f2 = a at *
 generalize varAt f.vars (insAt p f).f3 = b at *
 generalize insAt p f = x at *
 unfold touchL at hv
 split at hv
 ·rename_i e0
  have h8 := hal e0
  simp only [Option.some.injEq, Prod.mk.injEq] at hv
  obtain ⟨rfl, rfl, rfl⟩ := hv
  rw [e0] at hder ⊢
  refine ⟨by decide, fun o ho => ?_, by simp, by simp, fun hne => absurd rfl hne, by simp; omega, fun _ => ⟨by decide, fun hk => rfl⟩, .inl rfl⟩
  rcases List.mem_append.1 ho with ho | ho
  ·have := hh o ho
   refine ⟨this.1, this.2.1, fun r hr => ⟨(this.2.2 r hr).1, ?_⟩⟩
   have := (this.2.2 r hr).2
   simp
   omega
  ·rw [List.mem_singleton.1 ho]
   refine ⟨by simp; omega, by simp; omega, fun r hr => ?_⟩
   rw [List.eq_of_mem_replicate hr]
   simp
   omega
 repeat' split at hv
 all_goals (first | (cases hv; done) | skip)
 all_goals
  rename_i e0
  simp only [Option.some.injEq, Prod.mk.injEq] at hv
  obtain ⟨rfl, rfl, rfl⟩ := hv
  rw [e0] at hder ⊢
  refine ⟨by decide, ?_, ?_, ?_, fun _ => ?_, ?_, fun hs => ⟨by first | decide | (revert hs; decide), fun hk => ?_⟩, ?_⟩
  ·first | exact hh | exact (putI_ok hh _ _ _).1 | exact (putR_ok hh _ _ _ hb).1
  ·first | exact Nat.le_refl _ | exact Nat.le_of_eq (putI_ok hh _ _ _).2.symm | exact Nat.le_of_eq (putR_ok hh _ _ _ hb).2.symm
  ·first | omega | (rw [(putI_ok hh _ _ _).2]; omega) | (rw [(putR_ok hh _ _ _ hb).2]; omega)
  ·first | rfl | exact (putI_ok hh _ _ _).2 | exact (putR_ok hh _ _ _ hb).2
  ·first | exact ha | exact getR_ok hh _ _ | (simp; done) | (constructor <;> simp <;> omega)
  ·rcases hder (by first | decide | (revert hs; decide)) hk with q1 | q1 <;> first | (exact absurd q1 (by decide)) | rfl
  ·first | exact getF_err _ _ _ _ | exact putF_err _ _ _ _ _ | (unfold derE; split <;> simp)
end Go.Proofs.Ytodjpbidjldblaa.H
namespace Go.Proofs.Ytodjpbidjldblaa.H
open Go.RowKit Go.Proofs.YtodjpbidjldblaaW.PrintWords Go.Proofs.YtodjpbidjldblaaW.PrintLast
set_option linter.unusedVariables false
set_option linter.unusedSimpArgs false
theorem Bel.cell {wi W : World} (h : Bel wi W) {a : Addr} {v : Value} (hc : wi.cell? a = some v) : W.cell? a = some v := pw_cell_below h.out hc
theorem Bel.blk {w W : World} (h : Bel w W) {b : Nat} {o : Obj} (hb : w.heap[b]? = some o) : W.heap[b]? = some o := (h.out.block b (blk_lt hb)).trans hb
theorem OwnAt.rdOf {α : Type} {d : Kd α} {e base n c : Nat} {W : World} {A : Option Addr} {xs : List α} (h : OwnAt d e base W (.slice A n c) xs) : Rd d W A xs := by
 obtain ⟨A', c', h1, _, h3⟩ := h.reads
 injection h1 with h1
 rw [h1]
 exact h3
theorem heap_new' {W : World} {o : Obj} {j : Nat} (h : j = W.heap.size) : (W.alloc o).heap[j]? = some o := by subst h; exact heap_alloc_new W o
theorem heap_old {W : World} {o o' : Obj} {j : Nat} (h : W.heap[j]? = some o) : (W.alloc o').heap[j]? = some o := (((Bel.refl W).alloc o').out.block j (blk_lt h)).trans h
theorem take_snocL {α : Type} (l : List α) (k : Nat) (h : k < l.length) : l.take (k + 1) = l.take k ++ [l[k]] := List.take_succ_eq_append_getElem h
theorem addr_add0 (g k : Nat) : (⟨g, 0, none⟩ : Addr).add k = ⟨g, k, none⟩ := by unfold Addr.add; simp; intro h; exact h.symm
structure KO (b : Nat) (w W : World) : Prop where
 keep : ∀ (i : Nat), i < w.heap.size → i ≠ b → W.heap[i]? = w.heap[i]?
 below : Below b w W
section
variable {b : Nat} {w w1 w2 : World}
theorem KO.refl (b : Nat) (w : World) : KO b w w := ⟨fun _ _ _ => rfl, Below.refl _ _⟩
theorem KO.size (h : KO b w w1) : w.heap.size ≤ w1.heap.size := h.below.size
theorem KO.trans (h : KO b w w1) (k : KO b w1 w2) : KO b w w2 := ⟨fun i hi hn => (k.keep i (Nat.lt_of_lt_of_le hi h.size) hn).trans (h.keep i hi hn), h.below.trans k.below⟩
theorem KO.of_bel (h : Bel w w1) (hb : b ≤ w.heap.size) : KO b w w1 := ⟨fun i hi _ => h.out.block i hi, h.out.mono hb⟩
theorem KO.set (b j : Nat) (w : World) (u : Value) : KO b w (w.setCell ⟨b, j, none⟩ u) :=
 ⟨fun i _ hn => Below.heap_setCell w ⟨b, j, none⟩ u i (fun e => hn e), (Below.refl _ _).setCell (p := ⟨b, j, none⟩) (Nat.le_refl _) u⟩
theorem KO.bel {w0 : World} (h : KO b w w1) (q : Bel w0 w) (hb : w0.heap.size ≤ b) : Bel w0 w1 := ⟨q.out.trans (h.below.mono hb)⟩
theorem KO.blk (h : KO b w w1) {c : Nat} {o : Obj} (hc : w.heap[c]? = some o) (hn : c ≠ b) : w1.heap[c]? = some o := (h.keep c (blk_lt hc) hn).trans hc
end
end Go.Proofs.Ytodjpbidjldblaa.H
namespace Go.Proofs.Ytodjpbidjldblaa.H
open Go.RowKit Go.Proofs.YtodjpbidjldblaaW.PrintWords Go.Proofs.YtodjpbidjldblaaW.PrintLast Go.Proofs.YtodjpbidjldblaaW.PrintMore Go.Proofs.Ytodjpbidjldblaa.PRunEdges
set_option linter.unusedVariables false
set_option linter.unusedSimpArgs false
set_option maxRecDepth 100000
theorem oper_mono2 {P : Program} {o : Oper} {a : Act} {w : World} {K K' : Act → World → Prop} {Q Q' : Exit → Act → World → Prop} (h : ∀ a w, K a w → K' a w) (hq : ∀ c a w, Q (.panic c) a w → Q' (.panic c) a w) (ho : LetsOut Q → LetsOut Q')
  (hh : o.wp P a w K Q) : o.wp P a w K' Q' := by
 unfold Oper.wp at *
 generalize (execOp a.eval o).run P w = r at *
 cases r with
 | ok n w' =>
  cases n <;> simp only [Oper.upon] at hh ⊢ <;>
   first
    | exact h _ _ hh
    | exact Calls.mono hh (fun e w'' he => by cases e <;> first | exact h _ _ he | exact hq _ _ _ he | exact ho he)
    | exact Rows.mono hh (fun _ _ he => h _ _ he)
 | halt x w' => cases x <;> simp only [Oper.upon] at hh ⊢ <;> first | exact hq _ _ _ hh | exact hh
def cutQ (R : Act → World → Prop) (Q : Exit → Act → World → Prop) : Exit → Act → World → Prop
 | .normal, a, w => R a w
 | e, a, w => Q e a w
theorem wpList_cut {P : Program} {ops : Array Oper} {Q : Exit → Act → World → Prop} {pre rest : List Oper} (R : Act → World → Prop) {a : Act} {w : World} (h1 : wpList P ops (cutQ R Q) pre a w) (h2 : ∀ a' w', R a' w' → wpList P ops Q rest a' w') : wpList P ops Q (pre ++ rest) a w := by
 induction pre generalizing a w with
 | nil => exact h2 a w h1
 | cons o l ih =>
  unfold wpList at h1
  show wpList P ops Q (o :: (l ++ rest)) a w
  unfold wpList
  split
  ·rename_i hw
   rw [if_pos hw] at h1
   rcases h1 with h1 | ⟨h1, a1, w1, h3⟩
   ·exact .inl (oper_mono2 (fun a w h => ih h) (fun _ _ _ h => h) (fun ⟨a, w, h⟩ => ⟨a, w, h⟩) h1)
   ·exact .inr ⟨h1, a1, w1, h3⟩
  ·rename_i hw
   rw [if_neg hw] at h1
   exact ih h1
def c57 (x : SIns) : S57 := ⟨x.f0, x.f1, x.f2, x.f3, x.f4, x.f5, x.f6⟩
def c55 (x : SBlock) : S55 := ⟨x.f0.map c57⟩
theorem C_map {α β : Type} {d : Kd α} {e : Kd β} (g : α → β) (hs : e.sz = d.sz) (hK : ∀ w x cs, d.K w x cs → e.K w (g x) cs) {w : World} {A : Option Addr} {n : Nat} {l : List α} (h : Kd.C d w A n l) : Kd.C e w A n (l.map g) := by
 obtain ⟨h1, h2, h3⟩ := h
 refine ⟨by simpa using h1, h2, fun hn => ?_⟩
 obtain ⟨ad, e1, h4⟩ := h3 hn
 refine ⟨ad, e1, fun i p hp => ?_⟩
 rw [List.getElem?_map] at hp
 obtain ⟨q, hq, rfl⟩ := Option.map_eq_some_iff.1 hp
 obtain ⟨cs, h5, h6, h7⟩ := h4 i q hq
 rw [hs]
 exact ⟨cs, h5, hK _ _ _ h6, h7⟩
end Go.Proofs.Ytodjpbidjldblaa.H
