/- Texts joined. Conditions: each stands with its theorem. -/
import Derived.Test.YtodjpbidjldblaaX00
import Derived.Test.YtodjpbidjldblaaX03
import Derived.Test.YtodjpbidjldblaaX01
import Derived.StillTailTactics
namespace Go.Proofs.Ytodjpbidjldblaa.H
open Go.RowKit Go.Proofs.YtodjpbidjldblaaW.PrintWords Go.Proofs.YtodjpbidjldblaaW.PrintLast Go.Proofs.YtodjpbidjldblaaW.PrintMore Go.Proofs.Ytodjpbidjldblaa.PRunEdges
set_option linter.unusedVariables false
set_option linter.unusedSimpArgs false
set_option maxRecDepth 100000
theorem no_op {op : Int} (h : ¬ (0 ≤ op ∧ op < 24)) : op ≠ 1 ∧ op ≠ 2 ∧ op ≠ 3 ∧ op ≠ 4 ∧ op ≠ 5 ∧ op ≠ 6 ∧ op ≠ 7 ∧ op ≠ 8 ∧ op ≠ 9 ∧ op ≠ 10 ∧ op ≠ 11 ∧ op ≠ 12 ∧ op ≠ 13 ∧ op ≠ 14 ∧ op ≠ 15 ∧ op ≠ 16 ∧ op ≠ 17 ∧ op ≠ 18 ∧ op ≠ 19 ∧ op ≠ 20 ∧ op ≠ 21 ∧ op ≠ 22 ∧ op ≠ 23 := by omega
theorem parts_none {op : Int} (h : ¬ (0 ≤ op ∧ op < 24)) : portolanref03_Parts.f 9 op = some ⟨#[]⟩ := by
 obtain ⟨h1, h2, h3, h4, h5, h6, h7, h8, h9, h10, h11, h12, h13, h14, h15, h16, h17, h18, h19, h20, h21, h22, h23⟩ := no_op h
 simp [portolanref03_Parts.f, portolanref03_Parts.j0, portolanref03_Parts.j1, portolanref03_Parts.j2, portolanref03_Parts.j3, portolanref03_Parts.j4, *]
theorem partsB_none {op : Int} (h : ¬ (0 ≤ op ∧ op < 24)) : partsL op = [] := if_neg h
theorem parts_f (op : Int) : ∃ s, portolanref03_Parts.f 9 op = some s ∧ (s = ByteArray.empty ↔ partsL op = []) := by
 by_cases h : 0 ≤ op ∧ op < 24
 ·obtain ⟨n, rfl⟩ : ∃ n : Nat, op = (n : Int) := ⟨op.toNat, by omega⟩
  have e : ∀ i : Fin 24, ((portolanref03_Parts.f 9 (i.val : Int)).map fun s => decide (s.size = 0)) = some (decide (partsL (i.val : Int) = [])) := by decide +kernel
  have := e ⟨n, by omega⟩
  simp only at this
  obtain ⟨s, h1, h2⟩ := Option.map_eq_some_iff.1 this
  refine ⟨s, h1, ?_⟩
  rw [decide_eq_decide] at h2
  rw [← h2]
  constructor
  ·rintro rfl; rfl
  ·intro q
   cases s with
   | mk d =>
    have : d = #[] := Array.eq_empty_of_size_eq_zero q
    rw [this]; rfl
 ·exact ⟨_, parts_none h, by simp [partsB_none h]; rfl⟩
theorem has_f (op c : Int) (hc : Letter c) : portolanref04_has.f 9 op c = some (decide (has op c)) := by
 by_cases h : 0 ≤ op ∧ op < 24
 ·obtain ⟨n, rfl⟩ : ∃ n : Nat, op = (n : Int) := ⟨op.toNat, by omega⟩
  have e : ∀ i : Fin 24, ∀ c ∈ [(68 : Int), 65, 66, 77, 78, 110, 76], portolanref04_has.f 9 (i.val : Int) c = some (decide (c ∈ partsL (i.val : Int))) := by decide +kernel
  refine e ⟨n, by omega⟩ c ?_
  unfold Letter at hc
  simp only [List.mem_cons, List.not_mem_nil, or_false]
  exact hc
 ·unfold portolanref04_has.f
  rw [parts_none h]
  have e : decide (has op c) = false := decide_eq_false (by unfold has; rw [partsB_none h]; simp)
  rw [e]
  rfl
theorem Parts_any (op : Int) (w : World) : ∃ s, Calls Try.prog 66 #[.int .i64 op] w (fun e w' => e = .returned (.string s) ∧ Drawn0 w w') ∧ (s = ByteArray.empty ↔ partsL op = []) := by
 obtain ⟨s, h1, h2⟩ := parts_f op
 exact ⟨s, portolanref03_Parts.calls 9 op s w h1, h2⟩
theorem has_any (op c : Int) (hc : Letter c) (w : World) : Calls Try.prog 56 #[.int .i64 op, .int .u8 c] w fun e w' => e = .returned (.bool (decide (has op c))) ∧ Drawn0 w w' :=
 portolanref04_has.calls 9 op c _ w (has_f op c hc)
def usesL (x : SIns) : List Int := (if has x.f0 65 then [x.f2] else []) ++ ((if has x.f0 66 then [x.f3] else []) ++ (if has x.f0 76 then x.f6 else []))
theorem uses_f (x : SIns) (hl : x.f6.length ≤ 1000000) : portolanref04_Uses.f 10 x.f0 x.f1 x.f2 x.f3 x.f4 x.f5 x.f6 = some (usesL x) := by
 have has10 : ∀ c, Letter c → portolanref04_has.f 10 x.f0 c = some (decide (has x.f0 c)) := fun c hc => portolanref04_has.mono x.f0 c 9 _ (has_f x.f0 c hc)
 have g1 := has10 65 (by decide)
 have g2 := has_f x.f0 66 (by decide)
 have g3 := has_f x.f0 76 (by decide)
 have e1 : x.f6.length < 17592186044416 := by omega
 have e2 : 1 + x.f6.length < 17592186044416 := by omega
 have e3 : 1 + 1 + x.f6.length < 17592186044416 := by omega
 by_cases h1 : has x.f0 65 <;> by_cases h2 : has x.f0 66 <;> by_cases h3 : has x.f0 76 <;> simp [portolanref04_Uses.f, portolanref04_Uses.j0, usesL, g1, g2, g3, h1, h2, h3, e1, e2, e3]
theorem Uses_any (x : SIns) (A : Option Addr) (c : Nat) (w : World) (hR : RdI w A x.f6) (hc : x.f6.length ≤ c) (hl : x.f6.length ≤ 1000000) :
  Calls Try.prog 33 #[insV x A c] w fun e w' => ∃ v, e = .returned v ∧ OwnI w w' v (usesL x) ∧ Bel w w' :=
 (portolanref04_Uses.calls 10 x.f0 x.f1 x.f2 x.f3 x.f4 x.f5 A c x.f6 _ w hR.out hc (uses_f x hl)).mono fun e w' ⟨v, h1, h2, h3⟩ => ⟨v, h1, ⟨h2⟩, ⟨h3⟩⟩
theorem Sets_any (x : SIns) (A : Option Addr) (c : Nat) (w : World) (hR : RdI w A x.f6) (hc : x.f6.length ≤ c) :
  Calls Try.prog 57 #[insV x A c] w fun e w' => e = .returned (.tuple #[.int .i64 (if has x.f0 68 then x.f1 else 0), .bool (decide (has x.f0 68))]) ∧ Bel w w' := by
 refine (portolanref04_Sets.calls 9 x.f0 x.f1 x.f2 x.f3 x.f4 x.f5 A c x.f6 (if has x.f0 68 then x.f1 else 0) (decide (has x.f0 68)) w hR.out hc ?_).mono fun e w' ⟨h1, h3⟩ => ⟨h1, ⟨h3⟩⟩
 unfold portolanref04_Sets.f
 rw [has_f x.f0 68 (by decide)]
 by_cases h : has x.f0 68 <;> simp [h]
def nextL (x : SIns) : List Int := if x.f0 = 21 then [x.f4] else if x.f0 = 22 then (if x.f4 = x.f5 then [x.f4] else [mn x.f4 x.f5, mx x.f4 x.f5]) else []
theorem next_f (x : SIns) : portolanref04_Next.f x.f0 x.f1 x.f2 x.f3 x.f4 x.f5 x.f6 = some (nextL x) := by
 unfold portolanref04_Next.f nextL
 by_cases h1 : x.f0 = 21
 ·simp [h1]
 ·by_cases h2 : x.f0 = 22
  ·by_cases h3 : x.f4 = x.f5 <;> simp [h1, h2, h3]
  ·simp [h1, h2]
theorem Next_any (x : SIns) (A : Option Addr) (c : Nat) (w : World) (hR : RdI w A x.f6) (hc : x.f6.length ≤ c) :
  Calls Try.prog 68 #[insV x A c] w fun e w' => ∃ v, e = .returned v ∧ OwnI w w' v (nextL x) ∧ Bel w w' :=
 (portolanref04_Next.calls x.f0 x.f1 x.f2 x.f3 x.f4 x.f5 A c x.f6 _ w hR.out hc (next_f x)).mono fun e w' ⟨v, h1, h2, h3⟩ => ⟨v, h1, ⟨h2⟩, ⟨h3⟩⟩
def lastIns (l : List SIns) : SIns := l.getD (l.length - 1) zIns
def nextB (f : SFunc) (b : Nat) : List Int := nextL (lastIns (f.f4.getD b zBlock).f0)
theorem rd_T55_map (l : List SBlock) (b : Nat) : (rd_T55 (l.map c55) (b : Int)).f0 = (l.getD b zBlock).f0.map c57 := by
 unfold rd_T55
 rw [Int.toNat_natCast, List.getD_eq_getElem?_getD, List.getElem?_map, List.getD_eq_getElem?_getD]
 cases l[b]? <;> rfl
theorem nextB_f (f : SFunc) (b : Nat) (hb : b < f.f4.length) (hl : 1 ≤ (f.f4.getD b zBlock).f0.length ∧ (f.f4.getD b zBlock).f0.length ≤ 40) :
  portolanref05_Next.f f.f0 f.f1 f.f2 f.f3 (f.f4.map c55) (b : Int) = some (nextB f b) := by
 have e0 := rd_T55_map f.f4 b
 obtain ⟨l, hl0⟩ : ∃ l, (f.f4.getD b zBlock).f0 = l := ⟨_, rfl⟩
 rw [hl0] at e0 hl
 have e1 : wrap64 ((l.length : Int) - 1) = ((l.length - 1 : Nat) : Int) := by unfold wrap64; omega
 have e2 : rd_T57 (l.map c57) ((l.length - 1 : Nat) : Int) = c57 (lastIns l) := by
  unfold rd_T57 lastIns
  rw [Int.toNat_natCast, List.getD_eq_getElem?_getD, List.getElem?_map, List.getD_eq_getElem?_getD, List.getElem?_eq_getElem (by omega)]
  rfl
 have e3 := next_f (lastIns l)
 unfold portolanref05_Next.f nextB
 rw [e0, hl0]
 simp only [List.length_map]
 rw [e1, e2]
 rw [if_neg (by omega), if_neg (by omega), if_pos (by omega), if_pos (by omega), if_neg (by omega), if_pos (by omega), if_pos (by omega)]
 show ((portolanref04_Next.f (lastIns l).f0 (lastIns l).f1 (lastIns l).f2 (lastIns l).f3 (lastIns l).f4 (lastIns l).f5 (lastIns l).f6).bind fun t => some t) = _
 rw [e3]
 rfl
abbrev funcV (f : SFunc) (A0 : Option Addr) (c0 : Nat) (A1 : Option Addr) (c1 : Nat) (A4 : Option Addr) (c4 : Nat) : Value := .agg #[.slice A0 f.f0.length c0, .slice A1 f.f1.length c1, .int .i64 f.f2, .int .i64 f.f3, .slice A4 f.f4.length c4]
structure FuncAt (W : World) (f : SFunc) (A0 : Option Addr) (c0 : Nat) (A1 : Option Addr) (c1 : Nat) (A4 : Option Addr) (c4 : Nat) : Prop where
 r0 : RdI W A0 f.f0
 r1 : RdI W A1 f.f1
 r4 : Rd kBlock W A4 f.f4
 l0 : f.f0.length ≤ c0
 l1 : f.f1.length ≤ c1
 l4 : f.f4.length ≤ c4
section
variable {W W1 : World} {f : SFunc} {A0 A1 A4 : Option Addr} {c0 c1 c4 : Nat}
theorem FuncAt.step (h : FuncAt W f A0 c0 A1 c1 A4 c4) (k : Bel W W1) : FuncAt W1 f A0 c0 A1 c1 A4 c4 := ⟨h.r0.step k, h.r1.step k, h.r4.step k, h.l0, h.l1, h.l4⟩
theorem kIns_c57 (w : World) (x : SIns) (cs : List Value) (h : kIns.K w x cs) : k57.K w (c57 x) cs := h
theorem kBlock_c55 (w : World) (x : SBlock) (cs : List Value) (h : kBlock.K w x cs) : k55.K w (c55 x) cs := by
 obtain ⟨A, c, e, hl, hC⟩ := kBlock_open h
 have := C_map (e := k57) c57 rfl kIns_c57 hC
 have e2 : (c55 x).f0.length = x.f0.length := by simp [c55]
 rw [e, ← e2]
 exact k55_mk w (c55 x) (by rw [e2]; exact hl) (by rw [e2]; exact this)
theorem FuncAt.r55 (h : FuncAt W f A0 c0 A1 c1 A4 c4) : Kd.C k55 W A4 (f.f4.map c55).length (f.f4.map c55) := by
 rw [List.length_map]
 exact C_map (e := k55) c55 rfl kBlock_c55 h.r4.out
theorem NextB_any (b : Nat) (h : FuncAt W f A0 c0 A1 c1 A4 c4) (hb : b < f.f4.length) (hl : 1 ≤ (f.f4.getD b zBlock).f0.length ∧ (f.f4.getD b zBlock).f0.length ≤ 40) :
  Calls Try.prog 53 #[funcV f A0 c0 A1 c1 A4 c4, .int .i64 b] W fun e w' => ∃ v, e = .returned v ∧ OwnI W w' v (nextB f b) ∧ Bel W w' := by
 have := portolanref05_Next.calls A0 c0 f.f0 A1 c1 f.f1 f.f2 f.f3 A4 c4 (f.f4.map c55) b _ W h.r0.out h.l0 h.r1.out h.l1 h.r55 (by rw [List.length_map]; exact h.l4) (nextB_f f b hb hl)
 rw [List.length_map] at this
 exact this.mono fun e w' ⟨v, h1, h2, h3⟩ => ⟨v, h1, ⟨h2⟩, ⟨h3⟩⟩
end
def Ans (n : Nat) (g : Nat → Option (List Bool)) : Prop := ∃ k r, g k = some r ∧ r.length = n
theorem Ans.of {n : Nat} {g g' : Nat → Option (List Bool)} (h : Ans n g') (e : ∀ k, g (k + 1) = g' k) : Ans n g := by
 obtain ⟨k, r, h1, h2⟩ := h
 exact ⟨k + 1, r, (e k).trans h1, h2⟩
theorem wrap_succ (j : Nat) (h : j ≤ 1000000) : wrap64 ((j : Int) + 1) = ((j + 1 : Nat) : Int) := by unfold wrap64; omega
theorem nextL_len (x : SIns) : (nextL x).length ≤ 2 := by
 unfold nextL
 split
 ·simp
 ·split
  ·split <;> simp
  ·simp
section
variable {f : SFunc} (hn : f.f4.length ≤ 40) (hc : ∀ b < f.f4.length, 1 ≤ (f.f4.getD b zBlock).f0.length ∧ (f.f4.getD b zBlock).f0.length ≤ 40)
include hn
theorem w_l2 (i j : Nat) (hj : j < f.f4.length) (l : List Int) (hl : l.length ≤ 1000) (next : ∀ met : List Bool, met.length = f.f4.length → Ans f.f4.length fun k => portolanref05_Within.l1 k (-1) met i ((j + 1 : Nat) : Int) f.f0 f.f1 f.f2 f.f3 (f.f4.map c55)) :
  ∀ (d t : Nat), t + d = l.length → ∀ met : List Bool, met.length = f.f4.length → Ans f.f4.length fun k => portolanref05_Within.l2 k (-1) met i j l t f.f0 f.f1 f.f2 f.f3 (f.f4.map c55) := by
 have out : ∀ (t : Nat) (met : List Bool), met.length = f.f4.length → Ans f.f4.length fun k => portolanref05_Within.j4 k (-1) met i j l t false f.f0 f.f1 f.f2 f.f3 (f.f4.map c55) := fun t met hm => (next met hm).of (fun k => by
  simp only [portolanref05_Within.j4]
  rw [if_neg (by decide), wrap_succ j (by omega)])
 intro d
 induction d with
 | zero =>
  intro t ht met hm
  refine (out t met hm).of (fun k => ?_)
  simp only [portolanref05_Within.l2]
  rw [if_neg (by omega)]
 | succ d ih =>
  intro t ht met hm
  have hlt : (t : Int) < (l.length : Int) := by omega
  have hlm : (j : Int) < (met.length : Int) := by omega
  have more : ∀ met : List Bool, met.length = f.f4.length → Ans f.f4.length fun k => portolanref05_Within.l2 k (-1) met i j l ((t + 1 : Nat) : Int) f.f0 f.f1 f.f2 f.f3 (f.f4.map c55) := fun m hm => ih (t + 1) (by omega) m hm
  have s1 : Ans f.f4.length fun k => portolanref05_Within.j4 k (-1) met i j l t (rdOf false met (j : Int)) f.f0 f.f1 f.f2 f.f3 (f.f4.map c55) := by
   cases rdOf false met (j : Int) with
   | false => exact out t met hm
   | true =>
    by_cases h1 : rd l (t : Int) ≥ 0
    ·by_cases h2 : rd l (t : Int) < (met.length : Int)
     ·refine (more (met.set (rd l (t : Int)).toNat true) (by simpa using hm)).of (fun k => ?_)
      simp only [portolanref05_Within.j4]
      rw [if_pos trivial, if_pos (by omega), if_pos hlt, if_pos h1, if_pos h2, if_neg (by omega), if_pos (by omega), wrap_succ t (by omega)]
     ·refine (more met hm).of (fun k => ?_)
      simp only [portolanref05_Within.j4]
      rw [if_pos trivial, if_pos (by omega), if_pos hlt, if_pos h1, if_neg h2, wrap_succ t (by omega)]
    ·refine (more met hm).of (fun k => ?_)
     simp only [portolanref05_Within.j4]
     rw [if_pos trivial, if_pos (by omega), if_pos hlt, if_neg h1, wrap_succ t (by omega)]
  refine s1.of (fun k => ?_)
  simp only [portolanref05_Within.l2]
  rw [if_pos hlt, if_pos (by omega), if_pos hlm]
include hc
theorem w_l1 (i : Nat) (hi : i < f.f4.length) (next : ∀ met : List Bool, met.length = f.f4.length → Ans f.f4.length fun k => portolanref05_Within.l0 k (-1) met ((i + 1 : Nat) : Int) f.f0 f.f1 f.f2 f.f3 (f.f4.map c55)) :
  ∀ (d j : Nat), j + d = f.f4.length → ∀ met : List Bool, met.length = f.f4.length → Ans f.f4.length fun k => portolanref05_Within.l1 k (-1) met i j f.f0 f.f1 f.f2 f.f3 (f.f4.map c55) := by
 intro d
 induction d with
 | zero =>
  intro j hj met hm
  refine (next met hm).of (fun k => ?_)
  simp only [portolanref05_Within.l1, List.length_map]
  rw [if_neg (by omega), wrap_succ i (by omega)]
 | succ d ih =>
  intro j hj met hm
  have e := nextB_f f j (by omega) (hc j (by omega))
  have hln : (nextB f j).length ≤ 2 := nextL_len _
  refine (w_l2 hn i j (by omega) (nextB f j) (by omega) (fun m hm => ih (j + 1) (by omega) m hm) (nextB f j).length 0 (by omega) met hm).of (fun k => ?_)
  simp only [portolanref05_Within.l1, List.length_map]
  rw [if_pos (by omega), e]
  rfl
theorem w_l0 : ∀ (d i : Nat), i + d = f.f4.length → ∀ met : List Bool, met.length = f.f4.length → Ans f.f4.length fun k => portolanref05_Within.l0 k (-1) met i f.f0 f.f1 f.f2 f.f3 (f.f4.map c55) := by
 intro d
 induction d with
 | zero =>
  intro i hi met hm
  refine ⟨1, met, ?_, hm⟩
  simp only [portolanref05_Within.l0, List.length_map]
  rw [if_neg (by omega)]
 | succ d ih =>
  intro i hi met hm
  refine (w_l1 hn hc i (by omega) (fun m hm => ih (i + 1) (by omega) m hm) f.f4.length 0 (by omega) met hm).of (fun k => ?_)
  simp only [portolanref05_Within.l0, List.length_map]
  rw [if_pos (by omega)]
  rfl
theorem within_f (h1 : 1 ≤ f.f4.length) : Ans f.f4.length fun k => portolanref05_Within.f k f.f0 f.f1 f.f2 f.f3 (f.f4.map c55) 0 (-1) := by
 obtain ⟨k, r, h, hr⟩ := w_l0 hn hc f.f4.length 0 (by omega) ((List.replicate f.f4.length false).set 0 true) (by simp)
 refine ⟨k + 1, r, ?_, hr⟩
 simp only [portolanref05_Within.f, portolanref05_Within.j0, List.length_map, Option.bind_some]
 rw [if_pos (by omega), if_pos (by omega), if_neg (by decide), if_neg (fun q => absurd (of_decide_eq_true q) (by omega)), if_pos (by omega), if_pos (by rw [List.length_replicate]; omega)]
 simp only [Int.toNat_natCast]
 exact h
theorem Within_any (h1 : 1 ≤ f.f4.length) {W : World} {A0 A1 A4 : Option Addr} {c0 c1 c4 : Nat} (h : FuncAt W f A0 c0 A1 c1 A4 c4) :
  Calls Try.prog 31 #[funcV f A0 c0 A1 c1 A4 c4, .int .i64 0, .int .i64 (-1)] W fun e w' => ∃ v l, e = .returned v ∧ Own Kd.bool 4 W w' v l ∧ l.length = f.f4.length ∧ Bel W w' := by
 obtain ⟨k, r, hk, hr⟩ := within_f hn hc h1
 have := portolanref05_Within.calls k A0 c0 f.f0 A1 c1 f.f1 f.f2 f.f3 A4 c4 (f.f4.map c55) 0 (-1) r W h.r0.out h.l0 h.r1.out h.l1 h.r55 (by rw [List.length_map]; exact h.l4) hk
 rw [List.length_map] at this
 exact this.mono fun e w' ⟨v, h1, h2, h3⟩ => ⟨v, r, h1, ⟨h2⟩, hr, ⟨h3⟩⟩
end
end Go.Proofs.Ytodjpbidjldblaa.H
namespace Go.Proofs.Ytodjpbidjldblaa.H
open Go.RowKit Go.Proofs.YtodjpbidjldblaaW.PrintWords Go.Proofs.YtodjpbidjldblaaW.PrintLast Go.Proofs.YtodjpbidjldblaaW.PrintMore
set_option linter.unusedVariables false
set_option linter.unusedSimpArgs false
set_option maxRecDepth 100000
abbrev RdU (W : World) (A : Option Addr) (xs : List Int) : Prop := Rd (Kd.int .u64) W A xs
abbrev OwnU (w0 W : World) (v : Value) (xs : List Int) : Prop := Own (Kd.int .u64) 115 w0 W v xs
theorem info_u64 : (Try.prog.info? 115).map (fun i => (i.zero, i.size, i.bytes)) = some (some (.int .u64 0), 1, 8) := by kernel_rfl
def SetIs (w : World) (e : Ending) (w' : World) : Prop := ∃ v l, e = .returned v ∧ OwnU w w' v l ∧ l.length ≤ 64 ∧ Bel w w'
section
variable {ops : Array Oper} {rest : List Oper} {o : Oper} {a : Act} {Q : Exit → Act → World → Prop}
theorem app_u {w0 W : World} {v : Value} {xs : List Int} (HO : OwnU w0 W v xs) (HB : Bel w0 W) (hgd : o.guard = none) (s x : Operand) (p : Int)
  (ho : o.op = .call { callee := .builtin .append, args := #[s, x], argTypes := #[81, 81] })
  (hl : xs.length < 1000000) (hs : a.eval s = v) (hx : a.eval x = .slice (some ⟨W.heap.size, 0, none⟩) 1 1)
  (h : ∀ v1 w1, OwnU w0 w1 v1 (xs ++ [p]) → Bel w0 w1 → wpList Try.prog ops Q rest (a.put o.dst v1) w1) :
  wpList Try.prog ops Q (o :: rest) a (W.alloc (.cells #[.int .u64 p] 115)) := by
 refine Kd.R_append (Kd.int .u64) (w0 := w0) w0.heap.size hgd s x 81 115 (.int .u64 0) 8 ho Try.underlying81 info_u64 rfl (by decide) (by omega) v xs p [.int .u64 p] (fun _ => True) (fun _ => False) hs hx rfl (fun _ hk => hk.elim) (fun _ _ => trivial) HO.out HB.out (below_size HB.out) (by omega) ?_
 intro v1 w1 ho hb hg hat
 exact h v1 w1 ⟨ho⟩ ⟨hb⟩
theorem app_us {W : World} {ys : List Int} {A : Option Addr} {c : Nat} (HR : RdU W A ys) (hgd : o.guard = none) (s x : Operand)
  (ho : o.op = .call { callee := .builtin .append, args := #[s, x], argTypes := #[81, 81] })
  (hl : ys.length < 1000000) (hs : a.eval s = .slice (some ⟨W.heap.size, 0, none⟩) 0 0) (hx : a.eval x = .slice A ys.length c)
  (h : ∀ v1 w1, OwnU W w1 v1 ys → Bel W w1 → wpList Try.prog ops Q rest (a.put o.dst v1) w1) :
  wpList Try.prog ops Q (o :: rest) a (W.alloc (.cells #[] 115)) := by
 have HO := Own.lit0 (Kd.int .u64) 115 W
 have HB1 : Below W.heap.size W (W.alloc (.cells #[] 115)) := ((Bel.refl W).alloc _).out
 refine Kd.R_append_rows (Kd.int .u64) (Rr := (Kd.int .u64).K (W.alloc (.cells #[] 115))) (w0 := W) W.heap.size hgd s x 81 115 (.int .u64 0) 8 ho Try.underlying81 info_u64 rfl (by decide) (by decide) _ [] ys A ys.length c (fun _ => True) (fun _ => False) hs hx HO.out (HR.alloc _).out (fun _ _ h => h) (fun _ h => h.elim) (fun _ _ => trivial) HB1 HB1.size (by simp; omega) ?_
 intro v1 w1 ho hb hg hat
 exact h v1 w1 ⟨ho⟩ ⟨hb⟩
end
theorem within_any (n a b : Int) (w : World) : Calls Try.prog 45 #[.int .i64 n, .int .i64 a, .int .i64 b] w fun e w' => e = .returned (.bool (decide (a ≤ n ∧ n ≤ b))) ∧ w = w' := by
 by_cases h : a ≤ n
 ·go_enter Try.func45, Try.ntmps45
  go_wp2
  go_ret
  exact ⟨by simp [h], rfl⟩
 ·have h1 : decide (a ≤ n) = false := decide_eq_false h
  go_enter Try.func45, Try.ntmps45
  go_wp2
  go_ret
  exact ⟨by simp [h], rfl⟩
theorem Last_any (op : Int) (w : World) : Calls Try.prog 65 #[.int .i64 op] w fun e w' => e = .returned (.bool (decide (lastL op))) ∧ w = w' := by
 by_cases h1 : op = 21
 ·subst h1
  go_enter Try.func65, Try.ntmps65
  go_wp2
  go_ret
  exact ⟨rfl, rfl⟩
 have b1 : (op == 21) = false := by simpa using h1
 by_cases h2 : op = 22
 ·subst h2
  go_enter Try.func65, Try.ntmps65
  go_wp2
  go_ret
  exact ⟨rfl, rfl⟩
 have b2 : (op == 22) = false := by simpa using h2
 have e : decide (lastL op) = (op == 23) := by
  unfold lastL
  simp [h1, h2]
  rfl
 rw [e]
 clear e h1 h2
 go_enter Try.func65, Try.ntmps65
 go_wp2
 go_ret
 exact ⟨rfl, rfl⟩
theorem small_any (k : Nat) (hk : k ≤ 1000) (w : World) : Calls Try.prog 69 #[.int .i64 k] w fun e w' => e = .returned (.bool true) ∧ w = w' := by
 have h1 : (0 : Int) ≤ (k : Int) := by omega
 have h2 : (k : Int) < 4096 := by omega
 go_enter Try.func69, Try.ntmps69
 go_wp2
 go_ret
 exact ⟨rfl, rfl⟩
def WordIs (w : World) (e : Ending) (w' : World) : Prop := ∃ x, e = .returned (.int .u64 x) ∧ w' = w
theorem at_any (A : Option Addr) (c : Nat) (l : List Int) (i : Nat) (w : World) (HR : RdU w A l) : Calls Try.prog 80 #[.slice A l.length c, .int .i64 i] w (WordIs w) := by
 by_cases h : i < l.length
 ·obtain ⟨ad, rfl, hc⟩ := rd_atN HR i h
  have h1 : (i : Int) < (l.length : Int) := by omega
  have h2 : (0 : Int) ≤ (i : Int) := by omega
  go_enter Try.func80, Try.ntmps80
  go_wp2
  go_ret
  exact ⟨_, rfl, rfl⟩
 ·have h1 : ¬ (i : Int) < (l.length : Int) := by omega
  go_enter Try.func80, Try.ntmps80
  go_wp2
  go_ret
  exact ⟨_, rfl, rfl⟩
set_option maxHeartbeats 2000000 in
theorem uput_any (A : Option Addr) (c : Nat) (l : List Int) (n : Nat) (w : World) (HR : RdU w A l) (hl : l.length ≤ 64) (hn : n ≤ 1000) :
  Calls Try.prog 70 #[.slice A l.length c, .int .i64 n] w (SetIs w) := by
 have h0 : (0 : Int) ≤ (n : Int) := by omega
 have hn1 : (n : Int) ≤ 1000 := by omega
 go_enter Try.func70, Try.ntmps70
 go_wp2_with (refine app_us HR rfl _ _ rfl (by omega) rfl rfl ?_; intro v1 w1 hO hB; obtain ⟨A1, c1, rfl, _, _⟩ := hO.reads)
 go_loopw [5] (fun v W => ∃ l1 : List Int, l1.length ≤ 64 ∧ OwnU w W v l1 ∧ Bel w W) (fun v _ => 64 - lenV v)
 case atStart => exact ⟨l, hl, hO, hB⟩
 case round =>
  obtain ⟨l1, hl1, hO1, hB1⟩ := hrel
  obtain ⟨A2, c2, rfl, hc2, hR2⟩ := hO1.reads
  clear hO hB
  by_cases hlt : (l1.length : Int) ≤ (n : Int) / 64
  ·have c1 : decide ((l1.length : Int) ≤ (n : Int) / 64) = true := decide_eq_true hlt
   go_wp2_with (refine app_u hO1 hB1 rfl _ _ 0 rfl (by omega) rfl rfl ?_; intro v3 w3 hO3 hB3; obtain ⟨A3, c3, rfl, _, _⟩ := hO3.reads)
   go_roundw
   case rel =>
    have e9 : (l1 ++ [(0 : Int)]).length = l1.length + 1 := by simp
    rw [e9] at hO3
    exact ⟨l1 ++ [0], by rw [e9]; omega, hO3, hB3⟩
   case measure => simp [lenV]; omega
  ·have c1 : decide ((l1.length : Int) ≤ (n : Int) / 64) = false := decide_eq_false hlt
   obtain ⟨g, cp, e1, hg1, hg2, cells, hg3⟩ := Kd.R_form hO1.out (by omega)
   injection e1 with e1 _ e2
   subst e1 e2
   obtain ⟨y0, y1⟩ := Kd.R_celln (0 : Int) hO1.out ((n : Int) / 64) (by omega) (by omega)
   have q1 : (n : Int) / 64 < (l1.length : Int) := by omega
   have q0 : (0 : Int) ≤ (n : Int) / 64 := by omega
   have q2 : (0 : Int) ≤ (n : Int) % 64 := by omega
   have q3 : IntKind.u64.wrap ((n : Int) % 64) = (n : Int) % 64 := by rw [IntKind.wrap_u64]; omega
   have e0 : ((n : Int) / 64).toNat = n / 64 := by omega
   have hP := Aside0.mk (fun X => Kd.R_putn hO1.out ((n : Int) / 64) X)
   rw [e0] at y0 y1 hP
   clear hg3 e0
   go_wp2
   go_ret
   exact ⟨_, _, rfl, ⟨hP.out _⟩, by simpa using hl1, ⟨hB1.out.setCell (p := ⟨g, n / 64, none⟩) hg1 _⟩⟩
theorem cutTo_u (A : Option Addr) (n c m : Nat) (hm : m ≤ n) (hc : n ≤ c) : ∀ W : World, (Instr.slice 81 (.slice A n c) none (some (.int .i64 (m : Int))) none).run Try.prog W = .ok (.slice A m c) W := by
 obtain ⟨i0, hi, _, hsz, _⟩ := info_parts info_u64
 have := cut_to (P := Try.prog) 81 115 .i64 Try.underlying81 hi A n c (m : Int) (by omega) (by omega) hc
 simpa using this
set_option maxHeartbeats 2000000 in
theorem Neat_any (A : Option Addr) (c : Nat) (l : List Int) (w : World) (HR : RdU w A l) (hl : l.length ≤ 64) (hc : l.length ≤ c) :
  Calls Try.prog 58 #[.slice A l.length c] w (SetIs w) := by
 obtain ⟨n, hn⟩ : ∃ n, l.length = n := ⟨_, rfl⟩
 rw [hn] at hl hc ⊢
 have hn := Aside0.mk hn
 go_enter Try.func58, Try.ntmps58
 go_wp2
 go_loop [3] (fun i => ∃ m : Nat, m ≤ n ∧ i = .int .i64 m) (fun i => (intOf i).toNat)
 case atStart => exact ⟨n, Nat.le_refl _, rfl⟩
 case round =>
  obtain ⟨m, hm, rfl⟩ := hrel
  have out : ∀ W : World, (Instr.slice 81 (.slice A n c) none (some (.int .i64 (m : Int))) none).run Try.prog W = .ok (.slice A m c) W := cutTo_u A n c m hm hc
  have hRm : RdU w A (l.take m) := ⟨Kd.C_take HR.out (by rw [hn.out]; exact hm)⟩
  have hlm : (l.take m).length = m := by rw [List.length_take, hn.out]; omega
  have hout := Aside0.mk out
  clear out
  by_cases h0 : 0 < m
  ·obtain ⟨ad, rfl, hcell⟩ := rd_atN HR (m - 1) (by have := hn.out; omega)
   have b1 : decide ((0 : Int) < (m : Int)) = true := decide_eq_true (by omega)
   have e1 : IntKind.i64.wrap ((m : Int) - 1) = ((m - 1 : Nat) : Int) := by rw [IntKind.wrap_i64]; omega
   have q1 : ((m - 1 : Nat) : Int) < (n : Int) := by omega
   have q0 : (0 : Int) ≤ ((m - 1 : Nat) : Int) := by omega
   obtain ⟨x, hx⟩ : ∃ x, rd l ((m - 1 : Nat) : Int) = x := ⟨_, rfl⟩
   rw [hx] at hcell
   clear hx
   replace hlm := Aside0.mk hlm
   by_cases hz : x = 0
   ·have b2 : (x == 0) = true := by simp [hz]
    clear hz
    go_wp2
    go_round
    case rel => exact ⟨m - 1, by omega, rfl⟩
    case measure => simp [intOf]; omega
   ·have b2 : (x == 0) = false := by simp [hz]
    clear hz
    have out := hout.out
    go_wp2_with (refine app_us (ys := l.take m) hRm rfl _ _ rfl (by rw [hlm.out]; omega) rfl (by rw [hlm.out]; rfl) ?_; intro v1 w1 hO hB)
    go_ret
    exact ⟨_, _, rfl, hO, by rw [hlm.out]; omega, hB⟩
  ·obtain rfl : m = 0 := by omega
   have b1 : decide ((0 : Int) < ((0 : Nat) : Int)) = false := rfl
   have out := hout.out
   replace hlm := Aside0.mk hlm
   go_wp2_with (refine app_us (ys := l.take 0) hRm rfl _ _ rfl (by rw [hlm.out]; omega) rfl rfl ?_; intro v1 w1 hO hB)
   go_ret
   exact ⟨_, _, rfl, hO, by rw [hlm.out]; omega, hB⟩
def SetAt (W : World) (v : Value) : Prop := ∃ A l c, v = .slice A l.length c ∧ RdU W A l ∧ l.length ≤ 64 ∧ l.length ≤ c
theorem SetAt.step {W W1 : World} {v : Value} (h : SetAt W v) (k : Bel W W1) : SetAt W1 v := by
 obtain ⟨A, l, c, e, hR, h1, h2⟩ := h
 exact ⟨A, l, c, e, hR.step k, h1, h2⟩
theorem OwnU.set {w W : World} {v : Value} {l : List Int} (h : OwnU w W v l) (hl : l.length ≤ 64) : SetAt W v := by
 obtain ⟨A, c, e, hc, hR⟩ := h.reads
 exact ⟨A, l, c, e, hR, hl, hc⟩
theorem SetAt.nil (W : World) : SetAt W (.slice none 0 0) := ⟨none, [], 0, rfl, ⟨Kd.C_nil _ _⟩, by simp, by simp⟩
def Smalls (l : List Int) : Prop := ∀ n ∈ l, 0 ≤ n ∧ n ≤ 1000
theorem Smalls.at_ {l : List Int} (h : Smalls l) (k : Nat) (hk : k < l.length) : ∃ n : Nat, rd l (k : Int) = (n : Int) ∧ n ≤ 1000 := by
 have h1 := h l[k] (List.getElem_mem hk)
 have e : rd l (k : Int) = l[k] := by simp [rd, List.getD_eq_getElem?_getD, List.getElem?_eq_getElem hk]
 rw [e]
 exact ⟨l[k].toNat, by omega, by omega⟩
set_option maxHeartbeats 2000000 in
theorem With_any (v : Value) (B : Option Addr) (d : Nat) (l : List Int) (w : World) (hv : SetAt w v) (HL : RdI w B l) (hs : Aside0 (Smalls l)) (hl : l.length ≤ 1000000) :
  Calls Try.prog 49 #[v, .slice B l.length d] w (SetIs w) := by
 go_enter Try.func49, Try.ntmps49
 go_wp2
 go_loopw [5, 6] (fun v i W => ∃ k : Nat, k ≤ l.length ∧ i = .int .i64 k ∧ SetAt W v ∧ Bel w W) (fun _ i _ => l.length - (intOf i).toNat)
 case atStart => exact ⟨0, by omega, rfl, hv, Bel.refl _⟩
 case round =>
  obtain ⟨k, hk, rfl, hv1, hB1⟩ := hrel
  clear hv
  obtain ⟨A, s, c, rfl, hR, hs64, hsc⟩ := hv1
  by_cases hlt : k < l.length
  ·obtain ⟨ad, rfl, hcell⟩ := rd_atN (HL.step hB1) k hlt
   obtain ⟨n, hn, hn1⟩ := hs.out.at_ k hlt
   rw [hn] at hcell
   have q1 : (k : Int) < (l.length : Int) := by omega
   have hsm := Aside0.mk (fun W => small_any n hn1 W)
   have hpt := Aside0.mk (uput_any A c s n wr hR hs64 hn1)
   clear hn
   go_wp2_with (first | (go_at_call 69; ((with_reducible refine (hsm.out _).mono ?_); rintro e w2 ⟨rfl, rfl⟩)) | (go_at_call 70; ((with_reducible refine hpt.out.mono ?_); rintro e w3 ⟨v3, l3, rfl, hO3, hl3, hB3⟩)))
   go_roundw
   case rel => exact ⟨k + 1, by omega, by go_num, hO3.set hl3, hB1.trans hB3⟩
   case measure => simp [intOf]; omega
  ·have q1 : decide ((k : Int) < (l.length : Int)) = false := decide_eq_false (by omega)
   have hnt := Aside0.mk (Neat_any A c s wr hR hs64 hsc)
   go_wp2_with (go_at_call 58; ((with_reducible refine hnt.out.mono ?_); rintro e w3 ⟨v3, l3, rfl, hO3, hl3, hB3⟩))
   go_ret
   exact ⟨_, _, rfl, hO3.lower hB1, hl3, hB1.trans hB3⟩
def HasIs (l : List Int) (n : Nat) (w : World) (e : Ending) (w' : World) : Prop := ∃ b, e = .returned (.bool b) ∧ (b = true → n / 64 < l.length) ∧ w' = w
set_option maxHeartbeats 2000000 in
theorem Has_any (A : Option Addr) (c : Nat) (l : List Int) (n : Nat) (w : World) (HR : RdU w A l) (hn : n ≤ 1000) (hl : l.length ≤ 64) :
  Calls Try.prog 34 #[.slice A l.length c, .int .i64 n] w (HasIs l n w) := by
 have h0 : (0 : Int) ≤ (n : Int) := by omega
 have hn1 : (n : Int) ≤ 1000 := by omega
 by_cases hlt : n / 64 < l.length
 ·obtain ⟨ad, rfl, hcell⟩ := rd_atN HR (n / 64) hlt
  have q1 : (n : Int) / 64 < (l.length : Int) := by omega
  have q0 : (0 : Int) ≤ (n : Int) / 64 := by omega
  have q2 : (0 : Int) ≤ (n : Int) % 64 := by omega
  have q3 : IntKind.u64.wrap ((n : Int) % 64) = (n : Int) % 64 := by rw [IntKind.wrap_u64]; omega
  go_enter Try.func34, Try.ntmps34
  go_wp2
  go_ret
  exact ⟨_, rfl, fun _ => hlt, rfl⟩
 ·have q1 : decide ((n : Int) / 64 < (l.length : Int)) = false := decide_eq_false (by omega)
  go_enter Try.func34, Try.ntmps34
  go_wp2
  go_ret
  exact ⟨_, rfl, (fun q => by cases q), rfl⟩
end Go.Proofs.Ytodjpbidjldblaa.H
namespace Go.Proofs.Ytodjpbidjldblaa.H
open Go.RowKit Go.Proofs.YtodjpbidjldblaaW.PrintWords Go.Proofs.YtodjpbidjldblaaW.PrintLast Go.Proofs.YtodjpbidjldblaaW.PrintMore
attribute [local go_sem] max2_int max_two
set_option linter.unusedVariables false
set_option linter.unusedSimpArgs false
set_option maxRecDepth 100000
set_option maxHeartbeats 4000000 in
theorem Without_any (A : Option Addr) (c : Nat) (s : List Int) (B : Option Addr) (d : Nat) (l : List Int) (w : World) (HR : RdU w A s) (hs64 : s.length ≤ 64) (HL : RdI w B l) (hs : Aside0 (Smalls l)) (hl : l.length ≤ 1000000) :
  Calls Try.prog 59 #[.slice A s.length c, .slice B l.length d] w (SetIs w) := by
 go_enter Try.func59, Try.ntmps59
 go_wp2_with (refine app_us HR rfl _ _ rfl (by omega) rfl rfl ?_; intro v1 w1 hO hB; obtain ⟨A1, c1, rfl, _, _⟩ := hO.reads)
 go_loopw [6] (fun i W => ∃ (k : Nat) (sl : List Int), k ≤ l.length ∧ i = .int .i64 k ∧ OwnU w W (.slice A1 s.length c1) sl ∧ sl.length = s.length ∧ Bel w W) (fun i _ => l.length - (intOf i).toNat)
 case atStart => exact ⟨0, s, by omega, rfl, hO, rfl, hB⟩
 case round =>
  obtain ⟨k, sl, hk, rfl, hO1, hsl1, hB1⟩ := hrel
  clear hO hB
  obtain ⟨A2, c2, e2, hc2, hR2⟩ := hO1.reads
  injection e2 with e21 e22 e23
  subst e21 e23
  clear e22
  have hsl : sl.length ≤ 64 := by omega
  obtain ⟨N, hN⟩ : ∃ N, s.length = N := ⟨_, rfl⟩
  have hs64' : N ≤ 64 := by omega
  rw [hN] at hsl1 hO1 ⊢
  rw [hsl1] at hc2
  replace hN := Aside0.mk hN
  by_cases hlt : k < l.length
  ·obtain ⟨ad, rfl, hcell⟩ := rd_atN (HL.step hB1) k hlt
   obtain ⟨n, hn, hn1⟩ := hs.out.at_ k hlt
   rw [hn] at hcell
   have q1 : (k : Int) < (l.length : Int) := by omega
   have q9 : (0 : Int) ≤ (k : Int) := by omega
   have hhs := Aside0.mk (Has_any A1 c1 sl n wr hR2 hn1 hsl)
   rw [hsl1] at hhs
   clear hn
   go_upto_region 6 with (go_at_call 34; ((with_reducible refine hhs.out.mono ?_); rintro e w2 ⟨b, rfl, hb, hq2⟩; obtain rfl := hq2.symm; cases b))
   ·go_wp2
    go_roundw
    case rel => exact ⟨k + 1, sl, by omega, by go_num, hO1, hsl1, hB1⟩
    case measure => simp [intOf]; omega
   ·have hq := hb (by trivial)
    obtain ⟨g, cp, e1, hg1, hg2, cells, hg3⟩ := Kd.R_form hO1.out (by omega)
    injection e1 with e1 e9 e2
    subst e1 e2
    clear e9
    have h0 : (0 : Int) ≤ (n : Int) := by omega
    have hn2 : (n : Int) ≤ 1000 := by omega
    have p1 : (n : Int) / 64 < (N : Int) := by omega
    have p0 : (0 : Int) ≤ (n : Int) / 64 := by omega
    have p2 : (0 : Int) ≤ (n : Int) % 64 := by omega
    have p3 : IntKind.u64.wrap ((n : Int) % 64) = (n : Int) % 64 := by rw [IntKind.wrap_u64]; omega
    have e0 : ((n : Int) / 64).toNat = n / 64 := by omega
    obtain ⟨y0, y1⟩ := Kd.R_celln (0 : Int) hO1.out ((n : Int) / 64) (by omega) (by omega)
    clear hb hg3 e0
    have e27 : IntKind.i64.wrap ((n : Int) / 64) = (n : Int) / 64 := by rw [IntKind.wrap_i64]; omega
    have e28 : IntKind.i64.wrap ((n : Int) % 64) = (n : Int) % 64 := by rw [IntKind.wrap_i64]; omega
    go_still_tail 23, (by kernel_rfl)
    clear e27 e28 p3
    have hBd : Bel wr wr.drew := (Bel.refl wr).drewN 1
    have hOd := hO1.step hBd
    have hB2 := hB1.trans hBd
    change wpList _ _ _ _ _ wr.drew
    obtain ⟨z0, z1⟩ := Kd.R_celln (0 : Int) hOd.out ((n : Int) / 64) (by omega) (by omega)
    have hP := Aside0.mk (fun X => Kd.R_putn hOd.out ((n : Int) / 64) X)
    have e0 : ((n : Int) / 64).toNat = n / 64 := by omega
    have z2 := z0
    have z3 := z1
    rw [e0] at z2 z3 hP
    clear y0 y1 e0 hO1 hhs hcell HL hR2
    generalize wr.drew = wd at hOd hB2 z0 z1 z2 z3 hP ⊢
    go_wp2
    go_roundw
    case rel => exact ⟨k + 1, _, by omega, by go_num, ⟨hP.out _⟩, by rw [List.length_set]; exact hsl1, ⟨hB2.out.setCell (p := ⟨g, n / 64, none⟩) hg1 _⟩⟩
    case measure => simp [intOf]; omega
  ·have q1 : decide ((k : Int) < (l.length : Int)) = false := decide_eq_false (by omega)
   have hnt := Aside0.mk (Neat_any A1 c1 sl wr hR2 hsl (by rw [hsl1]; exact hc2))
   rw [hsl1] at hnt
   go_wp2_with (go_at_call 58; ((with_reducible refine hnt.out.mono ?_); rintro e w3 ⟨v3, l3, rfl, hO3, hl3, hB3⟩))
   go_ret
   exact ⟨_, _, rfl, hO3.lower hB1, hl3, hB1.trans hB3⟩
set_option maxHeartbeats 4000000 in
theorem each_any (A : Option Addr) (c : Nat) (s : List Int) (B : Option Addr) (d : Nat) (l : List Int) (w : World) (HR : RdU w A s) (hs64 : s.length ≤ 64) (HL : RdU w B l) (hl64 : l.length ≤ 64) :
  Calls Try.prog 71 #[.slice A s.length c, .slice B l.length d, .int .i64 1] w (SetIs w) := by
 obtain ⟨ns, hns⟩ : ∃ n, s.length = n := ⟨_, rfl⟩
 obtain ⟨nl, hnl⟩ : ∃ n, l.length = n := ⟨_, rfl⟩
 have hA := Aside0.mk (fun (i : Nat) (W : World) (q : Bel w W) => at_any A c s i W (HR.step q))
 have hB := Aside0.mk (fun (i : Nat) (W : World) (q : Bel w W) => at_any B d l i W (HL.step q))
 rw [hns] at hs64 hA ⊢
 rw [hnl] at hl64 hB ⊢
 clear hns hnl
 by_cases hc : ns < nl
 ·have b0 : (ns : Int) < (nl : Int) := by omega
  go_enter Try.func71, Try.ntmps71
  go_wp2
  go_loopw [7, 8] (fun v i W => ∃ (k : Nat) (l1 : List Int), k ≤ nl ∧ i = .int .i64 k ∧ OwnU w W v l1 ∧ l1.length = k ∧ Bel w W) (fun _ i _ => nl - (intOf i).toNat)
  case atStart => exact ⟨0, [], by omega, rfl, Own.nil _ _ _ _, rfl, Bel.refl _⟩
  case round =>
   obtain ⟨k, l1, hk, rfl, hO1, hl1, hB1⟩ := hrel
   obtain ⟨A2, c2, rfl, hc2, hR2⟩ := hO1.reads
   have hO1r := hR2
   rw [hl1] at hO1 hc2 ⊢
   replace hl1 := Aside0.mk hl1
   clear hR2
   by_cases hlt : k < nl
   ·have q1 : (k : Int) < (nl : Int) := by omega
    have hA1 := Aside0.mk (hA.out k wr hB1)
    have hB2 := Aside0.mk (hB.out k wr hB1)
    go_wp2_with (first | (go_at_call 80; first | ((with_reducible refine hA1.out.mono ?_); rintro e w2 ⟨x, rfl, hq2⟩; obtain rfl := hq2.symm) | ((with_reducible refine hB2.out.mono ?_); rintro e w2 ⟨y, rfl, hq2⟩; obtain rfl := hq2.symm)) | (refine app_u hO1 hB1 rfl _ _ _ rfl (by have := hl1.out; omega) rfl rfl ?_; intro v3 w3 hO3 hB3; obtain ⟨A3, c3, rfl, _, _⟩ := hO3.reads))
    go_roundw
    case rel =>
     have e9 : ∀ x : Int, (l1 ++ [x]).length = l1.length + 1 := by simp
     rw [e9] at hO3
     exact ⟨k + 1, _, by omega, by go_num, hO3, by rw [e9, hl1.out], hB3⟩
    case measure => simp [intOf]; omega
   ·have q1 : ¬ (k : Int) < (nl : Int) := by omega
    have hnt := Aside0.mk (Neat_any A2 c2 l1 wr hO1r (by rw [hl1.out]; omega) (by rw [hl1.out]; exact hc2))
    rw [hl1.out] at hnt
    go_wp2_with (go_at_call 58; ((with_reducible refine hnt.out.mono ?_); rintro e w3 ⟨v3, l3, rfl, hO3, hl3, hB3⟩))
    go_ret
    exact ⟨_, _, rfl, hO3.lower hB1, hl3, hB1.trans hB3⟩
 ·have b0 : ¬ (ns : Int) < (nl : Int) := by omega
  go_enter Try.func71, Try.ntmps71
  go_wp2
  go_loopw [7, 8] (fun v i W => ∃ (k : Nat) (l1 : List Int), k ≤ ns ∧ i = .int .i64 k ∧ OwnU w W v l1 ∧ l1.length = k ∧ Bel w W) (fun _ i _ => ns - (intOf i).toNat)
  case atStart => exact ⟨0, [], by omega, rfl, Own.nil _ _ _ _, rfl, Bel.refl _⟩
  case round =>
   obtain ⟨k, l1, hk, rfl, hO1, hl1, hB1⟩ := hrel
   obtain ⟨A2, c2, rfl, hc2, hR2⟩ := hO1.reads
   have hO1r := hR2
   rw [hl1] at hO1 hc2 ⊢
   replace hl1 := Aside0.mk hl1
   clear hR2
   by_cases hlt : k < ns
   ·have q1 : (k : Int) < (ns : Int) := by omega
    have hA1 := Aside0.mk (hA.out k wr hB1)
    have hB2 := Aside0.mk (hB.out k wr hB1)
    go_wp2_with (first | (go_at_call 80; first | ((with_reducible refine hA1.out.mono ?_); rintro e w2 ⟨x, rfl, hq2⟩; obtain rfl := hq2.symm) | ((with_reducible refine hB2.out.mono ?_); rintro e w2 ⟨y, rfl, hq2⟩; obtain rfl := hq2.symm)) | (refine app_u hO1 hB1 rfl _ _ _ rfl (by have := hl1.out; omega) rfl rfl ?_; intro v3 w3 hO3 hB3; obtain ⟨A3, c3, rfl, _, _⟩ := hO3.reads))
    go_roundw
    case rel =>
     have e9 : ∀ x : Int, (l1 ++ [x]).length = l1.length + 1 := by simp
     rw [e9] at hO3
     exact ⟨k + 1, _, by omega, by go_num, hO3, by rw [e9, hl1.out], hB3⟩
    case measure => simp [intOf]; omega
   ·have q1 : ¬ (k : Int) < (ns : Int) := by omega
    have hnt := Aside0.mk (Neat_any A2 c2 l1 wr hO1r (by rw [hl1.out]; omega) (by rw [hl1.out]; exact hc2))
    rw [hl1.out] at hnt
    go_wp2_with (go_at_call 58; ((with_reducible refine hnt.out.mono ?_); rintro e w3 ⟨v3, l3, rfl, hO3, hl3, hB3⟩))
    go_ret
    exact ⟨_, _, rfl, hO3.lower hB1, hl3, hB1.trans hB3⟩
theorem Meet_any (A : Option Addr) (c : Nat) (s : List Int) (B : Option Addr) (d : Nat) (l : List Int) (w : World) (HR : RdU w A s) (hs64 : s.length ≤ 64) (HL : RdU w B l) (hl64 : l.length ≤ 64) :
  Calls Try.prog 52 #[.slice A s.length c, .slice B l.length d] w (SetIs w) := by
 have he := Aside0.mk (each_any A c s B d l w HR hs64 HL hl64)
 go_enter Try.func52, Try.ntmps52
 go_wp2_with (go_at_call 71; ((with_reducible refine he.out.mono ?_); rintro e w2 ⟨v, l2, rfl, h1, h2, h3⟩))
 go_ret
 exact ⟨_, _, rfl, h1, h2, h3⟩
end Go.Proofs.Ytodjpbidjldblaa.H
namespace Go.Proofs.Ytodjpbidjldblaa.H
open Go.RowKit Go.Proofs.YtodjpbidjldblaaW.PrintWords Go.Proofs.YtodjpbidjldblaaW.PrintLast Go.Proofs.YtodjpbidjldblaaW.PrintMore
set_option linter.unusedVariables false
set_option linter.unusedSimpArgs false
set_option maxRecDepth 100000
theorem With_one (v : Value) (n : Nat) (w : World) (hv : SetAt w v) (hn : n ≤ 1000) :
  Calls Try.prog 49 #[v, .slice (some ⟨w.heap.size, 0, none⟩) 1 1] (w.alloc (.cells #[.int .i64 n] 3)) (SetIs w) := by
 have hB : Bel w (w.alloc (.cells #[.int .i64 n] 3)) := (Bel.refl w).alloc _
 refine (With_any v (some ⟨w.heap.size, 0, none⟩) 1 [(n : Int)] _ (hv.step hB) (Rd.lit .i64 3 w [(n : Int)] (by simp)) ⟨fun m hm => ?_⟩ (by simp)).mono ?_
 ·rw [List.mem_singleton.1 hm]; omega
 ·rintro e w' ⟨v1, l1, rfl, h1, h2, h3⟩
  exact ⟨v1, l1, rfl, h1.lower hB, h2, hB.trans h3⟩
theorem Without_one (v : Value) (n : Nat) (w : World) (hv : SetAt w v) (hn : n ≤ 1000) :
  Calls Try.prog 59 #[v, .slice (some ⟨w.heap.size, 0, none⟩) 1 1] (w.alloc (.cells #[.int .i64 n] 3)) (SetIs w) := by
 have hB : Bel w (w.alloc (.cells #[.int .i64 n] 3)) := (Bel.refl w).alloc _
 obtain ⟨A, s, c, rfl, hR, h1, h2⟩ := hv
 refine (Without_any A c s (some ⟨w.heap.size, 0, none⟩) 1 [(n : Int)] _ (hR.step hB) h1 (Rd.lit .i64 3 w [(n : Int)] (by simp)) ⟨fun m hm => ?_⟩ (by simp)).mono ?_
 ·rw [List.mem_singleton.1 hm]; omega
 ·rintro e w' ⟨v1, l1, rfl, h1, h2, h3⟩
  exact ⟨v1, l1, rfl, h1.lower hB, h2, hB.trans h3⟩
theorem Neat_set (v : Value) (w : World) (hv : SetAt w v) : Calls Try.prog 58 #[v] w (SetIs w) := by
 obtain ⟨A, s, c, rfl, hR, h1, h2⟩ := hv
 exact Neat_any A c s w hR h1 h2
set_option maxHeartbeats 2000000 in
theorem all_any (f : SFunc) (A0 : Option Addr) (c0 : Nat) (A1 : Option Addr) (c1 : Nat) (A4 : Option Addr) (c4 : Nat) (w : World) (h48 : f.f0.length ≤ 48) :
  Calls Try.prog 48 #[funcV f A0 c0 A1 c1 A4 c4] w (SetIs w) := by
 obtain ⟨g, hg⟩ : ∃ g, w.heap.size = g := ⟨_, rfl⟩
 have hB := (Bel.refl w).alloc (.cells #[.slice A0 f.f0.length c0, .slice A1 f.f1.length c1, .int .i64 f.f2, .int .i64 f.f3, .slice A4 f.f4.length c4] 52)
 have hb := heap_new' (o := .cells #[.slice A0 f.f0.length c0, .slice A1 f.f1.length c1, .int .i64 f.f2, .int .i64 f.f3, .slice A4 f.f4.length c4] 52) hg.symm
 go_enter Try.func48, Try.ntmps48
 go_upto_region 1 with (fail)
 generalize w.alloc (.cells #[.slice A0 f.f0.length c0, .slice A1 f.f1.length c1, .int .i64 f.f2, .int .i64 f.f3, .slice A4 f.f4.length c4] 52) = wa at hB hb ⊢
 replace hg := Aside0.mk hg
 go_wp2
 go_loopw [3, 4] (fun v i W => ∃ (k : Nat) (sl : List Int), k ≤ f.f0.length ∧ i = .int .i64 k ∧ OwnU w W v sl ∧ sl.length ≤ 64 ∧ Bel wa W) (fun _ i _ => f.f0.length - (intOf i).toNat)
 case atStart => exact ⟨0, [], by omega, rfl, Own.nil _ _ _ _, by simp, Bel.refl _⟩
 case round =>
  obtain ⟨k, sl, hk, rfl, hO1, hsl, hB1⟩ := hrel
  have z0 : wr.cell? ⟨g, 0, none⟩ = some (.slice A0 f.f0.length c0) := blk_cell (hB1.blk hb) 0
  have hS := hO1.set hsl
  by_cases hlt : k < f.f0.length
  ·have q1 : (k : Int) < (f.f0.length : Int) := by omega
   have hw := Aside0.mk (With_one u3 k wr hS (by omega))
   clear hS
   go_wp2_with (go_at_call 49; ((with_reducible refine hw.out.mono ?_); rintro e w2 ⟨v2, l2, rfl, h1, h2, h3⟩))
   go_roundw
   case rel => exact ⟨k + 1, l2, by omega, by go_num, h1.lower (hB.trans hB1), h2, hB1.trans h3⟩
   case measure => simp [intOf]; omega
  ·have q1 : ¬ (k : Int) < (f.f0.length : Int) := by omega
   go_wp2
   go_ret
   exact ⟨_, _, rfl, hO1, hsl, hB.trans hB1⟩
def StepIs (w : World) (e : Ending) (w' : World) : Prop := ∃ v1 l1 v2 l2, e = .returned (.tuple #[v1, v2]) ∧ OwnU w w' v1 l1 ∧ l1.length ≤ 64 ∧ OwnU w w' v2 l2 ∧ l2.length ≤ 64 ∧ Bel w w'
def SomeB (v : Value) : Prop := ∃ b, v = .bool b
set_option maxHeartbeats 4000000 in
theorem Step_any (f : SFunc) (A0 : Option Addr) (c0 : Nat) (A1 : Option Addr) (c1 : Nat) (A4 : Option Addr) (c4 : Nat) (x : SIns) (A6 : Option Addr) (c6 : Nat) (v2 v3 : Value) (w : World) (hF : FuncAt w f A0 c0 A1 c1 A4 c4) (h48 : f.f0.length ≤ 48) (hbl : f.f1.length = f.f0.length)
  (hR6 : RdI w A6 x.f6) (hc6 : x.f6.length ≤ c6) (hd : has x.f0 68 → 0 ≤ x.f1 ∧ x.f1 < f.f0.length) (ha : x.f0 = 16 → 0 ≤ x.f2 ∧ x.f2 < f.f0.length) (hs2 : SetAt w v2) (hs3 : SetAt w v3) :
  Calls Try.prog 35 #[funcV f A0 c0 A1 c1 A4 c4, insV x A6 c6, v2, v3] w (StepIs w) := by
 obtain ⟨g, hg⟩ : ∃ g, w.heap.size = g := ⟨_, rfl⟩
 have hB := ((Bel.refl w).alloc (.cells #[.slice A0 f.f0.length c0, .slice A1 f.f1.length c1, .int .i64 f.f2, .int .i64 f.f3, .slice A4 f.f4.length c4] 52)).alloc (.cells #[.int .i64 x.f0, .int .i64 x.f1, .int .i64 x.f2, .int .i64 x.f3, .int .i64 x.f4, .int .i64 x.f5, .slice A6 x.f6.length c6] 57)
 have hb := heap_old (o' := .cells #[.int .i64 x.f0, .int .i64 x.f1, .int .i64 x.f2, .int .i64 x.f3, .int .i64 x.f4, .int .i64 x.f5, .slice A6 x.f6.length c6] 57) (heap_new' (o := .cells #[.slice A0 f.f0.length c0, .slice A1 f.f1.length c1, .int .i64 f.f2, .int .i64 f.f3, .slice A4 f.f4.length c4] 52) hg.symm)
 have hx : ((w.alloc (.cells #[.slice A0 f.f0.length c0, .slice A1 f.f1.length c1, .int .i64 f.f2, .int .i64 f.f3, .slice A4 f.f4.length c4] 52)).alloc (.cells #[.int .i64 x.f0, .int .i64 x.f1, .int .i64 x.f2, .int .i64 x.f3, .int .i64 x.f4, .int .i64 x.f5, .slice A6 x.f6.length c6] 57)).heap[g + 1]? = _ := heap_new' (j := g + 1) (by simp [hg])
 replace hd := Aside0.mk hd
 replace ha := Aside0.mk ha
 replace hbl := Aside0.mk hbl
 go_enter Try.func35, Try.ntmps35
 go_upto_region 1 with (fail)
 generalize (w.alloc (.cells #[.slice A0 f.f0.length c0, .slice A1 f.f1.length c1, .int .i64 f.f2, .int .i64 f.f3, .slice A4 f.f4.length c4] 52)).alloc (.cells #[.int .i64 x.f0, .int .i64 x.f1, .int .i64 x.f2, .int .i64 x.f3, .int .i64 x.f4, .int .i64 x.f5, .slice A6 x.f6.length c6] 57) = wa at hB hb hx ⊢
 replace hg := Aside0.mk hg
 have x0 : wa.cell? ⟨g + 1, 0, none⟩ = some (.int .i64 x.f0) := blk_cell hx 0
 have x1 : wa.cell? ⟨g + 1, 1, none⟩ = some (.int .i64 x.f1) := blk_cell hx 1
 have x2 : wa.cell? ⟨g + 1, 2, none⟩ = some (.int .i64 x.f2) := blk_cell hx 2
 have x3 : wa.cell? ⟨g + 1, 3, none⟩ = some (.int .i64 x.f3) := blk_cell hx 3
 have x4 : wa.cell? ⟨g + 1, 4, none⟩ = some (.int .i64 x.f4) := blk_cell hx 4
 have x5 : wa.cell? ⟨g + 1, 5, none⟩ = some (.int .i64 x.f5) := blk_cell hx 5
 have x6 : wa.cell? ⟨g + 1, 6, none⟩ = some (.slice A6 x.f6.length c6) := blk_cell hx 6
 have hst := Aside0.mk (Sets_any x A6 c6 wa (hR6.step hB) hc6)
 have hF := hF.step hB
 have hs2 := hs2.step hB
 have hs3 := hs3.step hB
 by_cases h68 : has x.f0 68
 ·have hd := hd.out h68
  obtain ⟨d, hdd⟩ : ∃ d : Nat, x.f1 = (d : Int) := ⟨x.f1.toNat, by omega⟩
  have e1 : (if has x.f0 68 then x.f1 else 0) = (d : Int) := by rw [if_pos h68, hdd]
  have e2 : decide (has x.f0 68) = true := decide_eq_true h68
  rw [e1, e2] at hst
  have hdl : (d : Int) < (f.f0.length : Int) := by omega
  clear e1 e2 hd hdd h68
  go_upto_region 4 with (go_at_call 57; ((with_reducible refine hst.out.mono ?_); rintro e w2 ⟨rfl, hB2⟩))
  have hb := hB2.blk hb
  have hF := hF.step hB2
  have hs2 := hs2.step hB2
  have hs3 := hs3.step hB2
  have hB := hB.trans hB2
  have hx := hB2.blk hx
  clear x0 x1 x2 x3 x4 x5 x6 hst hB2
  have x0 : w2.cell? ⟨g + 1, 0, none⟩ = some (.int .i64 x.f0) := blk_cell hx 0
  go_cut [12, 25, 26, 27, 28, 29, 30, 31, 32, 33] (fun v12 _ _ _ _ _ _ _ _ _ W1 => SomeB v12 ∧ W1 = w2)
  case first =>
   by_cases h16 : x.f0 = 16
   ·have b1 : (x.f0 != 16) = false := by simp [h16]
    have ha := ha.out h16
    obtain ⟨xa, hxa⟩ : ∃ d : Nat, x.f2 = (d : Int) := ⟨x.f2.toNat, by omega⟩
    have x2 : w2.cell? ⟨g + 1, 2, none⟩ = some (.int .i64 xa) := by rw [← hxa]; exact blk_cell hx 2
    obtain ⟨A3, l3, c3, rfl, hR3, hl3, hc3⟩ := hs3
    have hhs := Aside0.mk (Has_any A3 c3 l3 xa w2 hR3 (by omega) hl3)
    clear h16 hxa ha
    go_wp2_with (go_at_call 34; ((with_reducible refine hhs.out.mono ?_); rintro e w3 ⟨b, rfl, _, hq⟩; obtain rfl := hq.symm))
    go_meet
    case rel => exact ⟨⟨_, rfl⟩, rfl⟩
   ·have b1 : (x.f0 != 16) = true := by simp [h16]
    clear h16
    go_wp2
    go_meet
    case rel => exact ⟨⟨_, rfl⟩, rfl⟩
  case rest =>
   obtain ⟨⟨b, rfl⟩, rfl⟩ := hcut
   go_wp2
   go_loopw [3, 13] (fun v i W => ∃ (k : Nat), k ≤ f.f0.length ∧ i = .int .i64 k ∧ SetAt W v ∧ Bel wc W) (fun _ i _ => f.f0.length - (intOf i).toNat)
   case atStart => exact ⟨0, by omega, rfl, hs3, Bel.refl _⟩
   case round =>
    obtain ⟨k, hk, rfl, hS, hB1⟩ := hrel
    clear x0
    have z0 : wr.cell? ⟨g, 0, none⟩ = some (.slice A0 f.f0.length c0) := blk_cell (hB1.blk hb) 0
    have z1 : wr.cell? ⟨g, 1, none⟩ = some (.slice A1 f.f1.length c1) := blk_cell (hB1.blk hb) 1
    have hF1 := hF.step hB1
    by_cases hlt : k < f.f0.length
    ·have q1 : (k : Int) < (f.f0.length : Int) := by omega
     have q2 : (k : Int) < (f.f1.length : Int) := by have := hbl.out; omega
     have q0 : (0 : Int) ≤ (k : Int) := by omega
     obtain ⟨a0, e0, y0⟩ := rd_atN hF1.r0 k hlt
     obtain ⟨a1, e1, y1⟩ := rd_atN hF1.r1 k (by omega)
     subst e0 e1
     have hw := Aside0.mk (Without_one u3 k wr hS (by omega))
     obtain ⟨kd, hkd⟩ : ∃ x, rd f.f0 (k : Int) = x := ⟨_, rfl⟩
     obtain ⟨bs, hbs⟩ : ∃ x, rd f.f1 (k : Int) = x := ⟨_, rfl⟩
     rw [hkd] at y0
     rw [hbs] at y1
     clear hkd hbs hF1 hF
     by_cases h2 : kd = 2
     ·have b2 : (kd == 2) = true := by simp [h2]
      clear h2
      by_cases h3 : bs = (d : Int)
      ·have b3 : (bs == (d : Int)) = true := by simp [h3]
       clear h3
       go_wp2_with (go_at_call 59; ((with_reducible refine hw.out.mono ?_); rintro e w3 ⟨v4, l4, rfl, h1, h2, h3⟩))
       go_roundw
       case rel => exact ⟨k + 1, by omega, by go_num, h1.set h2, hB1.trans h3⟩
       case measure => simp [intOf]; omega
      ·have b3 : (bs == (d : Int)) = false := by simp [h3]
       clear h3
       go_wp2
       go_roundw
       case rel => exact ⟨k + 1, by omega, by go_num, hS, hB1⟩
       case measure => simp [intOf]; omega
     ·have b2 : (kd == 2) = false := by simp [h2]
      clear h2
      go_wp2
      go_roundw
      case rel => exact ⟨k + 1, by omega, by go_num, hS, hB1⟩
      case measure => simp [intOf]; omega
    ·have q1 : ¬ (k : Int) < (f.f0.length : Int) := by omega
     have hw := Aside0.mk (Without_one u3 d wr hS (by omega))
     clear hS
     go_upto_region 11 with (go_at_call 59; ((with_reducible refine hw.out.mono ?_); rintro e w3 ⟨v4, l4, rfl, h1, h2, h3⟩))
     have hB3 := hB1.trans h3
     have hS4 := h1.set h2
     clear hw hF1 h1 h2 h3 hB1 z0 z1
     have z0 : w3.cell? ⟨g, 0, none⟩ = some (.slice A0 f.f0.length c0) := blk_cell (hB3.blk hb) 0
     have hF3 := hF.step hB3
     have q5 : (0 : Int) ≤ (d : Int) := by omega
     obtain ⟨a0, e0, y0⟩ := rd_atN hF3.r0 d (by omega)
     subst e0
     obtain ⟨kd, hkd⟩ : ∃ x, rd f.f0 (d : Int) = x := ⟨_, rfl⟩
     rw [hkd] at y0
     have hs2 := hs2.step hB3
     have hBw := hB.trans hB3
     clear hkd hF3 hF hs3 hB3 hB
     by_cases h2 : kd = 2
     ·have b2 : (kd == 2) = true := by simp [h2]
      clear h2
      cases b with
      | true =>
       have hw := Aside0.mk (With_one v4 d w3 hS4 (by omega))
       clear hS4
       go_upto_region 13 with (go_at_call 49; ((with_reducible refine hw.out.mono ?_); rintro e w4 ⟨v5, l5, rfl, h1, h2, h3⟩))
       have hS4 := h1.set h2
       have hs2 := hs2.step h3
       have hBw := hBw.trans h3
       clear hw z0 y0 h1 h2 h3
       have hw2 := Aside0.mk (With_one v2 d w4 hs2 (by omega))
       have hn := Aside0.mk (fun W (q : Bel w4 W) => Neat_set v5 W (hS4.step q))
       clear hs2 hS4
       go_wp2_with (first | (go_at_call 49; ((with_reducible refine hw2.out.mono ?_); rintro e w6 ⟨v6, l6, rfl, h61, h62, h63⟩)) | (go_at_call 58; ((with_reducible refine (hn.out _ h63).mono ?_); rintro e w7 ⟨v7, l7, rfl, h71, h72, h73⟩)))
       go_ret2
       exact ⟨_, _, _, _, rfl, (h61.lower hBw).step h73, h62, h71.lower (hBw.trans h63), h72, hBw.trans (h63.trans h73)⟩
      | false =>
       have hw2 := Aside0.mk (With_one v2 d w3 hs2 (by omega))
       have hn := Aside0.mk (fun W (q : Bel w3 W) => Neat_set v4 W (hS4.step q))
       clear hs2 hS4
       go_wp2_with (first | (go_at_call 49; ((with_reducible refine hw2.out.mono ?_); rintro e w6 ⟨v6, l6, rfl, h61, h62, h63⟩)) | (go_at_call 58; ((with_reducible refine (hn.out _ h63).mono ?_); rintro e w7 ⟨v7, l7, rfl, h71, h72, h73⟩)))
       go_ret2
       exact ⟨_, _, _, _, rfl, (h61.lower hBw).step h73, h62, h71.lower (hBw.trans h63), h72, hBw.trans (h63.trans h73)⟩
     ·have b2 : (kd == 2) = false := by simp [h2]
      clear h2
      have hw2 := Aside0.mk (With_one v2 d w3 hs2 (by omega))
      have hn := Aside0.mk (fun W (q : Bel w3 W) => Neat_set v4 W (hS4.step q))
      clear hs2 hS4
      go_wp2_with (first | (go_at_call 49; ((with_reducible refine hw2.out.mono ?_); rintro e w6 ⟨v6, l6, rfl, h61, h62, h63⟩)) | (go_at_call 58; ((with_reducible refine (hn.out _ h63).mono ?_); rintro e w7 ⟨v7, l7, rfl, h71, h72, h73⟩)))
      go_ret2
      exact ⟨_, _, _, _, rfl, (h61.lower hBw).step h73, h62, h71.lower (hBw.trans h63), h72, hBw.trans (h63.trans h73)⟩
 ·have e1 : (if has x.f0 68 then x.f1 else 0) = 0 := if_neg h68
  have e2 : decide (has x.f0 68) = false := decide_eq_false h68
  rw [e1, e2] at hst
  clear e1 e2 h68
  have hn2 := Aside0.mk (fun W (q : Bel wa W) => Neat_set v2 W (hs2.step q))
  have hn3 := Aside0.mk (fun W (q : Bel wa W) => Neat_set v3 W (hs3.step q))
  go_wp2_with (first | (go_at_call 57; ((with_reducible refine hst.out.mono ?_); rintro e w2 ⟨rfl, hB2⟩)) | (go_at_call 58; first | ((with_reducible refine (hn2.out _ hB2).mono ?_); rintro e w3 ⟨u2, l2, rfl, hO2, hl2, hB3⟩; have hB4 := hB2.trans hB3) | ((with_reducible refine (hn3.out _ hB4).mono ?_); rintro e w5 ⟨u3, l3, rfl, hO3, hl3, hB5⟩)))
  go_ret2
  exact ⟨_, _, _, _, rfl, (hO2.lower (hB.trans hB2)).step hB5, hl2, hO3.lower (hB.trans hB4), hl3, hB.trans (hB4.trans hB5)⟩
end Go.Proofs.Ytodjpbidjldblaa.H
