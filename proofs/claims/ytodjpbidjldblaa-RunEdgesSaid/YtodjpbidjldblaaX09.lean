/- Texts joined. Conditions: each stands with its theorem. -/
import Derived.Test.YtodjpbidjldblaaX08
import Derived.Test.YtodjpbidjldblaaX00
import Derived.Test.YtodjpbidjldblaaX06
namespace Go.Proofs.Ytodjpbidjldblaa.H
open Go.RowKit Go.Proofs.YtodjpbidjldblaaW.PrintWords
set_option linter.unusedVariables false
section
variable {H : Type} {enc : TypeId × Value → H} {W : World}
def I64 (n : Int) : Prop := (Lit.int .i64 n).wf = true
theorem I64.ok {n : Int} (h : I64 n) : -9223372036854775808 ≤ n ∧ n ≤ 9223372036854775807 := by
 have h1 : IntKind.i64.min = -9223372036854775808 := by decide
 have h2 : IntKind.i64.max = 9223372036854775807 := by decide
 unfold I64 at h
 simp [Lit.wf] at h
 omega
theorem opens_int : Opens enc Try.prog W (Kd.int .i64) 3 I64 := Opens.int Try.underlying3
def AInts (l : List Int) : Prop := l.length * 8 ≤ 140737488351232 ∧ ∀ x ∈ l, I64 x
theorem opens_ints : Opens enc Try.prog W (Kd.slice 3 (Kd.int .i64)) 31 AInts := Opens.slice Try.underlying31 (by kernel_rfl) (by kernel_rfl) opens_int
structure AIns (x : SIns) : Prop where
 f0 : I64 x.f0
 f1 : I64 x.f1
 f2 : I64 x.f2
 f3 : I64 x.f3
 f4 : I64 x.f4
 f5 : I64 x.f5
 f6 : AInts x.f6
theorem opens_ins : Opens enc Try.prog W kIns 57 AIns :=
 (Opens.struct Try.underlying57 (by kernel_rfl) (OpensF.cons rfl (by kernel_rfl) (by decide) opens_int <| OpensF.cons rfl (by kernel_rfl) (by decide) opens_int <| OpensF.cons rfl (by kernel_rfl) (by decide) opens_int <| OpensF.cons rfl (by kernel_rfl) (by decide) opens_int <| OpensF.cons rfl (by kernel_rfl) (by decide) opens_int <| OpensF.cons rfl (by kernel_rfl) (by decide) opens_int <| OpensF.last rfl (by kernel_rfl) opens_ints)
  (fun x : SIns => (x.f0, x.f1, x.f2, x.f3, x.f4, x.f5, x.f6)) (fun y => ⟨y.1, y.2.1, y.2.2.1, y.2.2.2.1, y.2.2.2.2.1, y.2.2.2.2.2.1, y.2.2.2.2.2.2⟩) (fun _ => rfl)).mono fun x h => ⟨h.1, h.2.1, h.2.2.1, h.2.2.2.1, h.2.2.2.2.1, h.2.2.2.2.2.1, h.2.2.2.2.2.2⟩
structure ABlock (b : SBlock) : Prop where
 l0 : b.f0.length * 72 ≤ 140737488351232
 f0 : ∀ x ∈ b.f0, AIns x
theorem opens_block : Opens enc Try.prog W kBlock 55 ABlock :=
 (Opens.struct Try.underlying55 (by kernel_rfl) (OpensF.last rfl (by kernel_rfl) (Opens.slice Try.underlying53 (by kernel_rfl) (by kernel_rfl) opens_ins)) (fun x : SBlock => x.f0) (fun y => ⟨y⟩) (fun _ => rfl)).mono fun x h => ⟨h.1, h.2⟩
structure AFunc (f : SFunc) : Prop where
 f0 : AInts f.f0
 f1 : AInts f.f1
 f2 : I64 f.f2
 f3 : I64 f.f3
 l4 : f.f4.length * 24 ≤ 140737488351232
 f4 : ∀ b ∈ f.f4, ABlock b
theorem opens_func : Opens enc Try.prog W kFunc 52 AFunc :=
 (Opens.struct Try.underlying52 (by kernel_rfl) (OpensF.cons rfl (by kernel_rfl) (by decide) opens_ints <| OpensF.cons rfl (by kernel_rfl) (by decide) opens_ints <| OpensF.cons rfl (by kernel_rfl) (by decide) opens_int <| OpensF.cons rfl (by kernel_rfl) (by decide) opens_int <| OpensF.last rfl (by kernel_rfl) (Opens.slice Try.underlying50 (by kernel_rfl) (by kernel_rfl) opens_block))
  (fun x : SFunc => (x.f0, x.f1, x.f2, x.f3, x.f4)) (fun y => ⟨y.1, y.2.1, y.2.2.1, y.2.2.2.1, y.2.2.2.2⟩) (fun _ => rfl)).mono fun x h => ⟨h.1, h.2.1, h.2.2.1, h.2.2.2.1, h.2.2.2.2.1, h.2.2.2.2.2⟩
structure AProg (l : List SFunc) : Prop where
 l0 : l.length * 88 ≤ 140737488351232
 f0 : ∀ f ∈ l, AFunc f
theorem opens_prog : Opens enc Try.prog W kProg 24 (fun p => AProg p.f0) :=
 (Opens.struct Try.underlying24 (by kernel_rfl) (OpensF.last rfl (by kernel_rfl) (Opens.slice Try.underlying22 (by kernel_rfl) (by kernel_rfl) opens_func)) (fun x : SProg => x.f0) (fun y => ⟨y⟩) (fun _ => rfl)).mono fun x h => ⟨h.1, h.2⟩
end
end Go.Proofs.Ytodjpbidjldblaa.H
namespace Go.Proofs.Ytodjpbidjldblaa.H
open Go.RowKit Go.Proofs.YtodjpbidjldblaaW.PrintWords Go.Proofs.YtodjpbidjldblaaW.PrintLast
set_option linter.unusedVariables false
set_option linter.unusedSimpArgs false
def fewB (b : SBlock) : Prop := ∀ x ∈ b.f0, x.f6.length ≤ 3000
def fewF (f : SFunc) : Prop := ∀ b ∈ f.f4, fewB b
theorem mem_lt {α : Type} {l : List α} {p : α → Prop} {k : Nat} (hk : l.length ≤ k) (h : ∀ j (hj : j < l.length), j < k → p l[j]) : ∀ x ∈ l, p x := fun x hx => by
 obtain ⟨j, hj, rfl⟩ := List.mem_iff_getElem.1 hx
 exact h j hj (by omega)
theorem snoc_lt {α : Type} {l : List α} {p : α → Prop} {k : Nat} (hk : k < l.length) (h : ∀ j (hj : j < l.length), j < k → p l[j]) (h1 : p l[k]) : ∀ j (hj : j < l.length), j < k + 1 → p l[j] := fun j hj hjk => by
 rcases Nat.lt_or_ge j k with h2 | h2
 ·exact h j hj h2
 ·obtain rfl : j = k := by omega
  exact h1
def NotGreat (l : List SFunc) (w : World) (e : Ending) (w' : World) : Prop := ∃ g, e = .returned (.bool g) ∧ Aside0 (g = false → ∀ f ∈ l, fewF f) ∧ Bel w w'
theorem notGreat_mk {l : List SFunc} {w w' : World} {s : Int} (h : s ≤ 3000 → ∀ f ∈ l, fewF f) (hB : Bel w w') : NotGreat l w (.returned (.bool (decide (3000 < s)))) w' := ⟨_, rfl, ⟨fun q => h (by simpa using q)⟩, hB⟩
theorem notGreat_true {l : List SFunc} {w w' : World} (hB : Bel w w') : NotGreat l w (.returned (.bool true)) w' := ⟨_, rfl, ⟨fun q => by cases q⟩, hB⟩
set_option maxRecDepth 100000
set_option maxHeartbeats 4000000 in
theorem Great_raw (A : Option Addr) (c : Nat) (l : List SFunc) (w : World) (HR : Rd kFunc w A l) (hin : Aside0 (AProg l)) :
  Calls Try.prog 20 #[.agg #[.slice A l.length c]] w (NotGreat l w) := by
 have hm : l.length ≤ 140737488351232 := by have := hin.out.l0; omega
 have box := heap_alloc_new w (.cells #[.slice A l.length c] 24)
 have hB0 := (Bel.refl w).alloc (.cells #[.slice A l.length c] 24)
 go_enter Try.func20, Try.ntmps20
 go_upto_region 2 with (fail)
 generalize w.alloc (.cells #[.slice A l.length c] 24) = wa at box hB0 ⊢
 obtain ⟨g, hg⟩ : ∃ g, w.heap.size = g := ⟨_, rfl⟩
 rw [hg] at box ⊢
 have xa : wa.cell? ⟨g, 0, none⟩ = some (.slice A l.length c) := blk_cell box 0
 replace box := Aside0.mk box
 replace hg := Aside0.mk hg
 go_wp2
 go_loopw [3, 4] (fun n i W => ∃ (k : Nat) (s : Int), k ≤ l.length ∧ i = .int .i64 k ∧ n = .int .i64 s ∧ 0 ≤ s ∧ s ≤ 1000000000000000 ∧ Aside0 (s ≤ 3000 → ∀ j (hj : j < l.length), j < k → fewF l[j]) ∧ Bel wa W) (fun _ i _ => l.length - (intOf i).toNat)
 case atStart => exact ⟨0, _, by omega, rfl, rfl, by omega, by omega, ⟨fun _ j _ h => by omega⟩, Bel.refl _⟩
 case round =>
  obtain ⟨k, s, hk, rfl, rfl, hs0, hs1, hok, hB1⟩ := hrel
  have xr : wr.cell? ⟨g, 0, none⟩ = some (.slice A l.length c) := Bel.cell hB1 xa
  by_cases hlt : k < l.length
  ·by_cases hs : s ≤ 3000
   ·obtain ⟨ad, A0, A1, A4, c0, c1, c4, rfl, h0, h1, h2, h3, h4, hR0, hR1, hR4, hc0, hc1, hc4⟩ := func_at HR k hlt
    have hBr := hB0.trans hB1
    replace h0 := Bel.cell hBr h0
    replace h1 := Bel.cell hBr h1
    replace h2 := Bel.cell hBr h2
    replace h3 := Bel.cell hBr h3
    replace h4 := Bel.cell hBr h4
    have hok2 := hok.out hs
    have hin1 := hin.out.f0 l[k] (List.getElem_mem hlt)
    obtain ⟨x, hx⟩ : ∃ x, Aside0 (l[k] = x) := ⟨_, ⟨rfl⟩⟩
    rw [hx.out] at h0 h1 h2 h3 h4 hR4 hin1
    have hm0 : x.f0.length ≤ 140737488351232 := by have := hin1.f0.1; omega
    have hm1 : x.f1.length ≤ 140737488351232 := by have := hin1.f1.1; omega
    have hm4 : x.f4.length ≤ 140737488351232 := by have := hin1.l4; omega
    have hR4r := hR4.step hBr
    replace hin1 := Aside0.mk hin1
    replace hok2 := Aside0.mk hok2
    clear hR0 hR1 hR4
    go_upto_region 6 with (fail)
    have hBb := (Bel.refl wr).alloc (.cells #[.slice A0 x.f0.length c0, .slice A1 x.f1.length c1, .int .i64 x.f2, .int .i64 x.f3, .slice A4 x.f4.length c4] 52)
    have bx := heap_alloc_new wr (.cells #[.slice A0 x.f0.length c0, .slice A1 x.f1.length c1, .int .i64 x.f2, .int .i64 x.f3, .slice A4 x.f4.length c4] 52)
    generalize wr.alloc (.cells #[.slice A0 x.f0.length c0, .slice A1 x.f1.length c1, .int .i64 x.f2, .int .i64 x.f3, .slice A4 x.f4.length c4] 52) = wb at hBb bx ⊢
    obtain ⟨b, hb⟩ : ∃ b, wr.heap.size = b := ⟨_, rfl⟩
    rw [hb] at bx ⊢
    have y0 : wb.cell? ⟨b, 0, none⟩ = some (.slice A0 x.f0.length c0) := blk_cell bx 0
    have y1 : wb.cell? ⟨b, 1, none⟩ = some (.slice A1 x.f1.length c1) := blk_cell bx 1
    have y4 : wb.cell? ⟨b, 4, none⟩ = some (.slice A4 x.f4.length c4) := blk_cell bx 4
    have hR4b := hR4r.step hBb
    replace bx := Aside0.mk bx
    replace hb := Aside0.mk hb
    clear h0 h1 h2 h3 h4
    go_wp2
    go_loopw [3, 6] (fun n i W => ∃ (m : Nat) (s2 : Int), m ≤ x.f4.length ∧ i = .int .i64 m ∧ n = .int .i64 s2 ∧ 0 ≤ s2 ∧ s2 ≤ 800000000000000 + 3000 ∧ Aside0 (s2 ≤ 3000 → ∀ j (hj : j < x.f4.length), j < m → fewB x.f4[j]) ∧ Bel wb W) (fun _ i _ => x.f4.length - (intOf i).toNat)
    case atStart => exact ⟨0, _, by omega, rfl, rfl, by omega, by omega, ⟨fun _ j _ h => by omega⟩, Bel.refl _⟩
    case round =>
     obtain ⟨m, s2, hmk, rfl, rfl, hs20, hs21, hok3, hB2⟩ := hrel
     clear y0 y1
     replace y4 := Bel.cell hB2 y4
     by_cases hlt2 : m < x.f4.length
     ·by_cases hs2 : s2 ≤ 3000
      ·obtain ⟨ad4, A6, c6, rfl, h5, hc6, hR6⟩ := block_at (hR4b.step hB2) m hlt2
       have hok4 := hok3.out hs2
       have hin2 := hin1.out.f4 x.f4[m] (List.getElem_mem hlt2)
       obtain ⟨z, hz⟩ : ∃ z, Aside0 (x.f4[m] = z) := ⟨_, ⟨rfl⟩⟩
       rw [hz.out] at h5 hc6 hR6 hin2
       have hm6 : z.f0.length ≤ 140737488351232 := by have := hin2.l0; omega
       replace hin2 := Aside0.mk hin2
       replace hok4 := Aside0.mk hok4
       go_upto_region 11 with (fail)
       go_wp2
       go_loopw [3, 7] (fun n i W => ∃ (q : Nat) (s3 : Int), q ≤ z.f0.length ∧ i = .int .i64 q ∧ n = .int .i64 s3 ∧ 0 ≤ s3 ∧ s3 ≤ 800000000000000 + 3000 ∧ Aside0 (s3 ≤ 3000 → ∀ j (hj : j < z.f0.length), j < q → (z.f0[j]).f6.length ≤ 3000) ∧ wr = W) (fun _ i _ => z.f0.length - (intOf i).toNat)
       case atStart => exact ⟨0, _, by omega, rfl, rfl, by omega, by omega, ⟨fun _ j _ h => by omega⟩, rfl⟩
       case round =>
        obtain ⟨q, s3, hq, rfl, rfl, hs30, hs31, hok5, rfl⟩ := hrel
        by_cases hlt3 : q < z.f0.length
        ·by_cases hs3 : s3 ≤ 3000
         ·obtain ⟨ad6, A7, c7, rfl, i0, i1, i2, i3, i4, i5, i6, hc7, hR7⟩ := ins_at hR6 q hlt3
          have hok6 := hok5.out hs3
          have hin3 := hin2.out.f0 z.f0[q] (List.getElem_mem hlt3)
          have hm7 : (z.f0[q]).f6.length ≤ 140737488351232 := by have := hin3.f6.1; omega
          have hsn := Aside0.mk (fun h => snoc_lt (p := fun x => x.f6.length ≤ 3000) hlt3 hok6 h)
          obtain ⟨y, hy⟩ : ∃ y, Aside0 (z.f0[q] = y) := ⟨_, ⟨rfl⟩⟩
          rw [hy.out] at i6 hm7 hsn
          clear hin3 hok6 i0 i1 i2 i3 i4 i5
          go_wp2
          go_roundw
          case rel => exact ⟨q + 1, _, by omega, by go_num, rfl, by omega, by omega, ⟨fun h => hsn.out (by omega)⟩, by trivial⟩
          case measure => simp [intOf]; omega
         ·go_wp2
          go_roundw
          case rel => exact ⟨m + 1, _, by omega, by go_num, rfl, by omega, by omega, ⟨fun h => absurd h hs3⟩, hB2⟩
          case measure => simp [intOf]; omega
        ·have hall := Aside0.mk (fun h => snoc_lt (p := fewB) hlt2 hok4.out (by rw [hz.out]; exact mem_lt (by omega) (hok5.out h)))
         go_wp2
         go_roundw
         case rel => exact ⟨m + 1, _, by omega, by go_num, rfl, by omega, by omega, hall, hB2⟩
         case measure => simp [intOf]; omega
      ·go_wp2
       go_roundw
       case rel => exact ⟨k + 1, _, by omega, by go_num, rfl, by omega, by omega, ⟨fun h => absurd h hs2⟩, hB1.trans (hBb.trans hB2)⟩
       case measure => simp [intOf]; omega
     ·have hall := Aside0.mk (fun h => snoc_lt (p := fewF) hlt hok2.out (by rw [hx.out]; exact mem_lt (by omega) (hok3.out h)))
      go_wp2
      go_roundw
      case rel => exact ⟨k + 1, _, by omega, by go_num, rfl, by omega, by omega, hall, hB1.trans (hBb.trans hB2)⟩
      case measure => simp [intOf]; omega
   ·go_wp2
    go_ret
    exact notGreat_true (hB0.trans hB1)
  ·go_wp2
   go_ret
   exact notGreat_mk (fun h => mem_lt (by omega) (hok.out h)) (hB0.trans hB1)
end Go.Proofs.Ytodjpbidjldblaa.H
namespace Go.Proofs.Ytodjpbidjldblaa.H
open Go.RowKit Go.Proofs.YtodjpbidjldblaaW.PrintWords Go.Proofs.YtodjpbidjldblaaW.PrintLast Go.Proofs.YtodjpbidjldblaaW.PrintMore Go.Proofs.Ytodjpbidjldblaa.PRunEdges
set_option linter.unusedVariables false
set_option linter.unusedSimpArgs false
set_option maxRecDepth 100000
structure ChkP (p : SProg) : Prop where
 funcs : 1 ≤ p.f0.length ∧ p.f0.length ≤ 8
 main : (fnAt p 0).f2 = 0
 func : ∀ m < p.f0.length, FuncP (fnAt p m)
 ins : ∀ m < p.f0.length, ∀ b < (fnAt p m).f4.length, ∀ k < ((fnAt p m).f4.getD b zBlock).f0.length, InsP p (fnAt p m) (((fnAt p m).f4.getD b zBlock).f0.getD k zIns)
def ChkIs (p : SProg) (w : World) (e : Ending) (w' : World) : Prop := ∃ c : Int, e = .returned (.int .i64 c) ∧ (c = 0 → ChkP p) ∧ Bel w w'
theorem ChkIs.no {p : SProg} {w w' : World} (h : Bel w w') : ChkIs p w (.returned (.int .i64 5)) w' := ⟨5, rfl, (fun q => by cases q), h⟩
def GoodF (p : SProg) (m : Nat) : Prop := FuncP (fnAt p m) ∧ ∀ b < (fnAt p m).f4.length, ∀ k < ((fnAt p m).f4.getD b zBlock).f0.length, InsP p (fnAt p m) (((fnAt p m).f4.getD b zBlock).f0.getD k zIns)
theorem few_at {p : SProg} (h : ∀ f ∈ p.f0, fewF f) (n : Nat) (hn : n < p.f0.length) (b : Nat) (hb : b < (fnAt p n).f4.length) (k : Nat) (hk : k < ((fnAt p n).f4.getD b zBlock).f0.length) : (((fnAt p n).f4.getD b zBlock).f0.getD k zIns).f6.length ≤ 100000 := by
 have h1 : fnAt p n ∈ p.f0 := by unfold fnAt; rw [getD_at hn]; exact List.getElem_mem _
 have h2 : (fnAt p n).f4.getD b zBlock ∈ (fnAt p n).f4 := by rw [getD_at hb]; exact List.getElem_mem _
 have h3 : ((fnAt p n).f4.getD b zBlock).f0.getD k zIns ∈ ((fnAt p n).f4.getD b zBlock).f0 := by rw [getD_at hk]; exact List.getElem_mem _
 have := h _ h1 _ h2 _ h3
 omega
set_option maxHeartbeats 8000000 in
theorem Chk_any (p : SProg) (PA : Option Addr) (pc : Nat) (w : World) (hP : Rd kFunc w PA p.f0) (hfew : Aside0 (∀ f ∈ p.f0, fewF f)) :
  Calls Try.prog 29 #[.agg #[.slice PA p.f0.length pc]] w (ChkIs p w) := by
 obtain ⟨g, hg⟩ : ∃ g, w.heap.size = g := ⟨_, rfl⟩
 have hB := (Bel.refl w).alloc (.cells #[.slice PA p.f0.length pc] 24)
 have hbp := heap_new' (o := .cells #[.slice PA p.f0.length pc] 24) hg.symm
 go_enter Try.func29, Try.ntmps29
 go_upto_region 1 with (fail)
 generalize w.alloc (.cells #[.slice PA p.f0.length pc] 24) = wa at hB hbp ⊢
 replace hg := Aside0.mk hg
 obtain ⟨N, hN⟩ : ∃ N, p.f0.length = N := ⟨_, rfl⟩
 rw [hN] at hbp ⊢
 replace hN := Aside0.mk hN
 have hwn := Aside0.mk (fun W => within_any N 1 8 W)
 have y0 : wa.cell? ⟨g, 0, none⟩ = some (.slice PA N pc) := blk_cell hbp 0
 by_cases h1 : (1 : Int) ≤ (N : Int) ∧ (N : Int) ≤ 8
 case neg =>
  rw [show decide ((1 : Int) ≤ (N : Int) ∧ (N : Int) ≤ 8) = false from decide_eq_false h1] at hwn
  clear h1
  go_wp2_with (go_at_call 45; ((with_reducible refine (hwn.out _).mono ?_); rintro e w2 ⟨rfl, rfl⟩))
  go_ret
  exact .no hB
 rw [show decide ((1 : Int) ≤ (N : Int) ∧ (N : Int) ≤ 8) = true from decide_eq_true h1] at hwn
 have hp1 : 1 ≤ N := by omega
 have hp8 : N ≤ 8 := by omega
 clear h1
 have h0p : 0 < p.f0.length := by rw [hN.out]; omega
 have q0 : (0 : Int) < (N : Int) := by omega
 obtain ⟨m0, hm0⟩ : ∃ m, (fnAt p 0).f2 = m := ⟨_, rfl⟩
 obtain ⟨m1, hm1⟩ : ∃ m, (fnAt p 0).f3 = m := ⟨_, rfl⟩
 obtain ⟨ad, F0, F1, F4, d0, d1, d4, hPA, -, -, u2, u3, -⟩ := func_at (hP.step hB) 0 h0p
 rw [show p.f0[0] = fnAt p 0 by unfold fnAt; rw [getD_at h0p]] at u2 u3
 rw [hm0] at u2
 rw [hm1] at u3
 rw [hPA] at y0
 replace hPA := Aside0.mk hPA
 replace hm0 := Aside0.mk hm0
 simp only [Nat.zero_mul, Go.Addr.add, Nat.add_zero, if_true] at u2 u3
 by_cases h2 : m0 = 0
 case neg =>
  have b2 : (m0 != 0) = true := by simp [h2]
  clear h2
  go_wp2_with (go_at_call 45; ((with_reducible refine (hwn.out _).mono ?_); rintro e w2 ⟨rfl, hq2⟩; obtain rfl := hq2))
  go_ret
  exact .no hB
 subst h2
 by_cases h3 : m1 = 0
 case neg =>
  have b3 : (m1 != 0) = true := by simp [h3]
  clear h3
  go_wp2_with (go_at_call 45; ((with_reducible refine (hwn.out _).mono ?_); rintro e w2 ⟨rfl, rfl⟩))
  go_ret
  exact .no hB
 subst h3
 go_upto_region 3 with (go_at_call 45; ((with_reducible refine (hwn.out _).mono ?_); rintro e w2 ⟨rfl, hq2⟩; obtain rfl := hq2))
 clear y0 u2 u3 q0 hwn hPA
 go_wp2
 go_loopw [3] (fun i W => ∃ n : Nat, n ≤ N ∧ i = .int .i64 n ∧ Aside0 (∀ m < n, GoodF p m) ∧ Bel wa W) (fun i _ => N - (intOf i).toNat)
 case atStart => exact ⟨0, by omega, rfl, ⟨fun i hi => by omega⟩, Bel.refl _⟩
 case round =>
  obtain ⟨n, hn, rfl, hgd, hBa⟩ := hrel
  have hb1 := hBa.blk hbp
  have y0 : wr.cell? ⟨g, 0, none⟩ = some (.slice PA N pc) := blk_cell hb1 0
  by_cases hlt : n < N
  case neg =>
   have q1 : ¬ (n : Int) < (N : Int) := by omega
   obtain rfl : n = N := by omega
   go_wp2
   go_ret
   exact ⟨0, rfl, fun _ => ⟨by rw [hN.out]; exact ⟨hp1, hp8⟩, hm0.out, fun m hm => (hgd.out m (by rw [← hN.out]; exact hm)).1, fun m hm => (hgd.out m (by rw [← hN.out]; exact hm)).2⟩, hB.trans hBa⟩
  have q1 : (n : Int) < (N : Int) := by omega
  have hnp : n < p.f0.length := by rw [hN.out]; exact hlt
  have hBw := hB.trans hBa
  obtain ⟨ad, F0, F1, F4, d0, d1, d4, hPA, u0, u1, u2, u3, u4, r0, r1, r4, l0, l1, l4⟩ := func_at (hP.step hBw) n hnp
  obtain ⟨f, hf⟩ : ∃ f, fnAt p n = f := ⟨_, rfl⟩
  have ef : p.f0[n] = fnAt p n := by unfold fnAt; rw [getD_at hnp]
  rw [ef, hf] at u0 u1 u2 u3 u4 r0 r1 r4 l0 l1 l4
  rw [hPA] at y0
  replace hPA := Aside0.mk hPA
  have hfi := Aside0.mk (fun b hb k hk => few_at hfew.out n hnp b hb k hk)
  rw [hf] at hfi
  replace hf := Aside0.mk hf
  obtain ⟨F, hF⟩ : ∃ F, wr.heap.size = F := ⟨_, rfl⟩
  have hBc := (Bel.refl wr).alloc (.cells #[.slice F0 f.f0.length d0, .slice F1 f.f1.length d1, .int .i64 f.f2, .int .i64 f.f3, .slice F4 f.f4.length d4] 52)
  have hbf := heap_new' (o := .cells #[.slice F0 f.f0.length d0, .slice F1 f.f1.length d1, .int .i64 f.f2, .int .i64 f.f3, .slice F4 f.f4.length d4] 52) hF.symm
  have hFA : FuncAt wr f F0 d0 F1 d1 F4 d4 := ⟨r0, r1, r4, l0, l1, l4⟩
  replace hFA := Aside0.mk (hFA.step hBc)
  clear ef r0 r1 r4 l0 l1 l4
  go_upto_region 7 with (fail)
  generalize wr.alloc (.cells #[.slice F0 f.f0.length d0, .slice F1 f.f1.length d1, .int .i64 f.f2, .int .i64 f.f3, .slice F4 f.f4.length d4] 52) = wq at hBc hbf hFA ⊢
  replace hF := Aside0.mk hF
  have hBq := hBa.trans hBc
  clear y0 u0 u1 u2 u3 u4 hb1 hBc hBa
  have hfc := Aside0.mk (Func_any f F0 d0 F1 d1 F4 d4 wq hFA.out)
  simp only [funcV] at hfc
  have z0 : wq.cell? ⟨F, 0, none⟩ = some (.slice F0 f.f0.length d0) := blk_cell hbf 0
  have z1 : wq.cell? ⟨F, 1, none⟩ = some (.slice F1 f.f1.length d1) := blk_cell hbf 1
  have z2 : wq.cell? ⟨F, 2, none⟩ = some (.int .i64 f.f2) := blk_cell hbf 2
  have z3 : wq.cell? ⟨F, 3, none⟩ = some (.int .i64 f.f3) := blk_cell hbf 3
  have z4 : wq.cell? ⟨F, 4, none⟩ = some (.slice F4 f.f4.length d4) := blk_cell hbf 4
  go_wp2_with (go_at_call 46; ((with_reducible refine hfc.out.mono ?_); rintro e w2 ⟨fb, rfl, hfb, hB2⟩; cases fb))
  ·go_ret
   exact .no ((hB.trans hBq).trans hB2)
  have hfp := hfb (by first | trivial | rfl)
  have hff := Aside0.mk (fun b (hb : b < f.f4.length) => (hfp.code b hb).2)
  have hc40 := hfp.blocks.2
  have h48 := hfp.vars
  replace hfp := Aside0.mk hfp
  replace hFA := Aside0.mk (hFA.out.step hB2)
  have hbf := hB2.blk hbf
  have hBq := hBq.trans hB2
  clear z0 z1 z2 z3 z4 hfc hfb hB2
  have h40 : (fnAt p n).f4.length ≤ 40 := by rw [hf.out]; exact hc40
  have h4F : (fnAt p n).f0.length ≤ 48 := by rw [hf.out]; exact h48
  replace h40 := Aside0.mk h40
  replace h4F := Aside0.mk h4F
  obtain ⟨nc, hnc⟩ : ∃ nc, f.f4.length = nc := ⟨_, rfl⟩
  rw [hnc] at hbf hc40
  replace hnc := Aside0.mk hnc
  go_loopw [5] (fun i W => ∃ b : Nat, b ≤ nc ∧ i = .int .i64 b ∧ Aside0 (∀ c < b, ∀ j < (f.f4.getD c zBlock).f0.length, InsP p f ((f.f4.getD c zBlock).f0.getD j zIns)) ∧ Bel w2 W) (fun i _ => nc - (intOf i).toNat)
  case atStart => exact ⟨0, by omega, rfl, ⟨fun i hi => by omega⟩, Bel.refl _⟩
  case round =>
   obtain ⟨b, hb, rfl, hcd, hB1⟩ := hrel
   have hb1 := hB1.blk hbf
   have z4 : wr.cell? ⟨F, 4, none⟩ = some (.slice F4 nc d4) := blk_cell hb1 4
   by_cases hltb : b < nc
   case neg =>
    have p1 : ¬ (b : Int) < (nc : Int) := by omega
    obtain rfl : b = nc := by omega
    go_wp2
    go_roundw
    case rel =>
     refine ⟨n + 1, by omega, by go_num, ⟨fun m hm => ?_⟩, hBq.trans hB1⟩
     rcases Nat.lt_or_ge m n with h | h
     ·exact hgd.out m h
     ·obtain rfl : m = n := by omega
      exact ⟨by rw [hf.out]; exact hfp.out, by rw [hf.out]; intro b hb; exact hcd.out b (by rw [← hnc.out]; exact hb)⟩
    case measure => simp [intOf]; omega
   have p1 : (b : Int) < (nc : Int) := by omega
   have hltf : b < f.f4.length := by rw [hnc.out]; exact hltb
   obtain ⟨ad4, B0, e0, e4, y0, he0, hri⟩ := block_at (hFA.out.step hB1).r4 b hltf
   subst e4
   obtain ⟨l, hl⟩ : ∃ l, (f.f4[b]'hltf).f0 = l := ⟨_, rfl⟩
   rw [hl] at y0 he0 hri
   have hl' : (f.f4.getD b zBlock).f0 = l := by rw [getD_at hltf, hl]
   have hlm := hff.out b hltf
   rw [hl'] at hlm
   have hin := Aside0.mk (fun k hk => hfi.out b hltf k hk)
   rw [hl'] at hin
   replace hl' := Aside0.mk hl'
   clear hl
   obtain ⟨cl, hcl⟩ : ∃ cl, l.length = cl := ⟨_, rfl⟩
   rw [hcl] at y0 he0 hlm
   replace hcl := Aside0.mk hcl
   replace he0 := Aside0.mk he0
   go_wp2
   clear z4
   go_loopw [6] (fun i W => ∃ k : Nat, k ≤ cl ∧ i = .int .i64 k ∧ Aside0 (∀ j < k, InsP p f (l.getD j zIns)) ∧ Bel wr W) (fun i _ => cl - (intOf i).toNat)
   case atStart => exact ⟨0, by omega, rfl, ⟨fun i hi => by omega⟩, Bel.refl _⟩
   case round =>
    obtain ⟨k, hk, rfl, hj, hB2⟩ := hrel
    have hB12 := hB1.trans hB2
    have hb2 := hB12.blk hbf
    have z4 := blk_cell hb2 4
    have y4 := Bel.cell hB2 y0
    by_cases hltk : k < cl
    case neg =>
     have p2 : ¬ (k : Int) < (cl : Int) := by omega
     obtain rfl : k = cl := by omega
     go_wp2
     go_roundw
     case rel =>
      refine ⟨b + 1, by omega, by go_num, ⟨fun c hc => ?_⟩, hB12⟩
      rcases Nat.lt_or_ge c b with h | h
      ·exact hcd.out c h
      ·obtain rfl : c = b := by omega
       rw [hl'.out]
       intro j hj2
       exact hj.out j (by rw [← hcl.out]; exact hj2)
     case measure => simp [intOf]; omega
    have p2 : (k : Int) < (cl : Int) := by omega
    have hlk : k < l.length := by rw [hcl.out]; exact hltk
    obtain ⟨ad5, A6, c6, e5, i0, i1, i2, i3, i4, i5, i6, hl6, hR6⟩ := ins_at (hri.step hB2) k hlk
    subst e5
    obtain ⟨x, hx⟩ : ∃ x, l[k]'hlk = x := ⟨_, rfl⟩
    have hx' : l.getD k zIns = x := by rw [getD_at hlk, hx]
    rw [hx] at i0 i1 i2 i3 i4 i5 i6 hl6 hR6
    have hxi := hin.out k hlk
    rw [hx'] at hxi
    replace hx' := Aside0.mk hx'
    clear hx
    go_upto_region 15 with (fail)
    have hBx := hBq.trans hB12
    have hbg := hBx.blk hbp
    have hBd : Bel wr wr.drew := (Bel.refl wr).drewN 1
    have hS := Aside0.mk (fun (X : World) (q : Bel wr X) => And.intro (blk_cell (q.blk hbg) 0) (And.intro (blk_cell (q.blk hb2) 4) (And.intro (Bel.cell q y4) (And.intro (Bel.cell q i0) (And.intro (Bel.cell q i1) (And.intro (Bel.cell q i2) (And.intro (Bel.cell q i3) (And.intro (Bel.cell q i4) (And.intro (Bel.cell q i5) (Bel.cell q i6))))))))))
    have hcal := Aside0.mk (fun (X : World) (q : Bel wr X) => Ins_any p n x PA pc A6 c6 X (hP.step ((hB.trans hBx).trans q)) hnp (by rw [hN.out]; exact hp8) (hR6.step q) hl6 hxi h4F.out h40.out)
    simp only [insV, hN.out] at hcal
    clear y4 z4 i0 i1 i2 i3 i4 i5 i6
    refine wp_region_held_drew (S := fun w' => w'.cell? ⟨g, 0, none⟩ = some (.slice PA N pc) ∧ w'.cell? ⟨F, 4, none⟩ = some (.slice (some ad4) nc d4) ∧ w'.cell? (ad4.add b) = some (.slice (some ad5) cl e0) ∧ w'.cell? (ad5.add (k * 7)) = some (.int .i64 x.f0) ∧ w'.cell? ⟨(ad5.add (k * 7)).block, (ad5.add (k * 7)).off + 1, none⟩ = some (.int .i64 x.f1) ∧ w'.cell? ⟨(ad5.add (k * 7)).block, (ad5.add (k * 7)).off + 2, none⟩ = some (.int .i64 x.f2) ∧ w'.cell? ⟨(ad5.add (k * 7)).block, (ad5.add (k * 7)).off + 3, none⟩ = some (.int .i64 x.f3) ∧ w'.cell? ⟨(ad5.add (k * 7)).block, (ad5.add (k * 7)).off + 4, none⟩ = some (.int .i64 x.f4) ∧ w'.cell? ⟨(ad5.add (k * 7)).block, (ad5.add (k * 7)).off + 5, none⟩ = some (.int .i64 x.f5) ∧ w'.cell? ⟨(ad5.add (k * 7)).block, (ad5.add (k * 7)).off + 6, none⟩ = some (.slice A6 x.f6.length c6)) (by kernel_rfl) (hS.out _ hBd) (fun hHeld => ?_)
    refine takeH [0, 1, 2, 3, 4, 5, 6, 7, 8, 9, 10] (by kernel_rfl) (by kernel_rfl) hHeld ?_
    iterate 11 (refine takeI (v := ?_) rfl rfl (fun _ _ _ h => h) (Or.inl ⟨by kernel_rfl, ?_⟩) ?_; rotate_left 1; focus (intro w hSw; (try dsimp only at hSw); go_simp; (try with_reducible rfl); done); try simp only [Act.put, z1, z2, z3, z4, z5, z6])
    refine takeE ?_
    try dsimp only
    refine wpAnyH_ready (rs := [11]) (by kernel_rfl) (by simp) ?_
    refine AllReadyH.cons rfl (fun K hK => ?_) AllReadyH.nil
    go_simp
    (go_at_call 47; refine (hcal.out _ hBd).mono ?_; rintro ex w3 ⟨gb, rfl, hgb, hB3⟩)
    replace hB3 := hBd.trans hB3
    refine hK.out _ _ ?_ (fun hHeld => ?_)
    rotate_left 1
    clear hK K
    try simp only [Act.put, z1, z2, z3, z4, z5, z6]
    rotate_left 1
    ·exact hS.out _ hB3
    refine takeH [12] (by kernel_rfl) (by kernel_rfl) hHeld ?_
    iterate 1 (refine takeI (v := ?_) rfl rfl (fun _ _ _ h => h) (Or.inl ⟨by kernel_rfl, ?_⟩) ?_; rotate_left 1; focus (intro w hSw; (try dsimp only at hSw); go_simp; (try with_reducible rfl); done); try simp only [Act.put, z1, z2, z3, z4, z5, z6])
    refine takeE ?_
    try dsimp only
    refine wpAnyH_done (by kernel_rfl) ?_ _
    cases gb with
    | false =>
     go_wp2
     go_ret
     exact .no (hB.trans (hBx.trans hB3))
    | true =>
     go_wp2
     go_roundw
     case rel =>
      refine ⟨k + 1, by omega, by go_num, ⟨fun j hj2 => ?_⟩, hB2.trans hB3⟩
      rcases Nat.lt_or_ge j k with h | h
      ·exact hj.out j h
      ·obtain rfl : j = k := by omega
       rw [hx'.out]
       have h5 := hgb (by first | trivial | rfl)
       first | exact h5 | (rw [hf.out] at h5; exact h5)
     case measure => simp [intOf]; omega
def KindsIs (p : SProg) (w : World) (e : Ending) (w' : World) : Prop := ∃ c : Int, e = .returned (.int .i64 c) ∧ c ≠ 0 ∧ Bel w w'
theorem KindsIs.no {p : SProg} {w w' : World} (h : Bel w w') : KindsIs p w (.returned (.int .i64 6)) w' := ⟨6, rfl, (by decide), h⟩
def GoodK (p : SProg) (m : Nat) : Prop := True
def OkK (f : SFunc) (x : SIns) : Prop := True
set_option maxHeartbeats 8000000 in
theorem Kinds_any (p : SProg) (PA : Option Addr) (pc : Nat) (v : Int) (hv : v ≠ 0) (w : World) (hP : Rd kFunc w PA p.f0) (hC : Aside0 (ChkP p)) :
  Calls Try.prog 36 #[.agg #[.slice PA p.f0.length pc], .int .i64 v] w (KindsIs p w) := by
 obtain ⟨g, hg⟩ : ∃ g, w.heap.size = g := ⟨_, rfl⟩
 have hB := (Bel.refl w).alloc (.cells #[.slice PA p.f0.length pc] 24)
 have hbp := heap_new' (o := .cells #[.slice PA p.f0.length pc] 24) hg.symm
 have hp8 := hC.out.funcs.2
 replace hv := Aside0.mk hv
 go_enter Try.func36, Try.ntmps36
 go_upto_region 1 with (fail)
 generalize w.alloc (.cells #[.slice PA p.f0.length pc] 24) = wa at hB hbp ⊢
 replace hg := Aside0.mk hg
 obtain ⟨N, hN⟩ : ∃ N, p.f0.length = N := ⟨_, rfl⟩
 rw [hN] at hbp hp8 ⊢
 replace hN := Aside0.mk hN
 go_wp2
 go_loopw [5] (fun i W => ∃ n : Nat, n ≤ N ∧ i = .int .i64 n ∧ Aside0 (∀ m < n, GoodK p m) ∧ Bel wa W) (fun i _ => N - (intOf i).toNat)
 case atStart => exact ⟨0, by omega, rfl, ⟨fun i hi => by omega⟩, Bel.refl _⟩
 case round =>
  obtain ⟨n, hn, rfl, hgd, hBa⟩ := hrel
  have hb1 := hBa.blk hbp
  have y0 : wr.cell? ⟨g, 0, none⟩ = some (.slice PA N pc) := blk_cell hb1 0
  by_cases hlt : n < N
  case neg =>
   have q1 : ¬ (n : Int) < (N : Int) := by omega
   obtain rfl : n = N := by omega
   go_wp2
   go_ret
   exact ⟨v, rfl, hv.out, hB.trans hBa⟩
  have q1 : (n : Int) < (N : Int) := by omega
  have hnp : n < p.f0.length := by rw [hN.out]; exact hlt
  have hBw := hB.trans hBa
  obtain ⟨ad, F0, F1, F4, d0, d1, d4, hPA, u0, u1, u2, u3, u4, r0, r1, r4, l0, l1, l4⟩ := func_at (hP.step hBw) n hnp
  obtain ⟨f, hf⟩ : ∃ f, fnAt p n = f := ⟨_, rfl⟩
  have ef : p.f0[n] = fnAt p n := by unfold fnAt; rw [getD_at hnp]
  rw [ef, hf] at u0 u1 u2 u3 u4 r0 r1 r4 l0 l1 l4
  rw [hPA] at y0
  replace hPA := Aside0.mk hPA
  have hfi := Aside0.mk (hC.out.ins n hnp)
  rw [hf] at hfi
  replace hf := Aside0.mk hf
  obtain ⟨F, hF⟩ : ∃ F, wr.heap.size = F := ⟨_, rfl⟩
  have hBc := (Bel.refl wr).alloc (.cells #[.slice F0 f.f0.length d0, .slice F1 f.f1.length d1, .int .i64 f.f2, .int .i64 f.f3, .slice F4 f.f4.length d4] 52)
  have hbf := heap_new' (o := .cells #[.slice F0 f.f0.length d0, .slice F1 f.f1.length d1, .int .i64 f.f2, .int .i64 f.f3, .slice F4 f.f4.length d4] 52) hF.symm
  have hFA : FuncAt wr f F0 d0 F1 d1 F4 d4 := ⟨r0, r1, r4, l0, l1, l4⟩
  replace hFA := Aside0.mk (hFA.step hBc)
  clear ef r0 r1 r4 l0 l1 l4
  go_upto_region 5 with (fail)
  generalize wr.alloc (.cells #[.slice F0 f.f0.length d0, .slice F1 f.f1.length d1, .int .i64 f.f2, .int .i64 f.f3, .slice F4 f.f4.length d4] 52) = wq at hBc hbf hFA ⊢
  replace hF := Aside0.mk hF
  have hBq := hBa.trans hBc
  clear y0 u0 u1 u2 u3 u4 hb1 hBc hBa
  have hfp := hC.out.func n hnp
  rw [hf.out] at hfp
  have hff := Aside0.mk (fun b (hb : b < f.f4.length) => (hfp.code b hb).2)
  have hc40 := hfp.blocks.2
  replace hfp := Aside0.mk hfp
  go_wp2
  obtain ⟨nc, hnc⟩ : ∃ nc, f.f4.length = nc := ⟨_, rfl⟩
  rw [hnc] at hbf hc40
  replace hnc := Aside0.mk hnc
  go_loopw [7] (fun i W => ∃ b : Nat, b ≤ nc ∧ i = .int .i64 b ∧ Aside0 (∀ c < b, ∀ j < (f.f4.getD c zBlock).f0.length, OkK f ((f.f4.getD c zBlock).f0.getD j zIns)) ∧ Bel wq W) (fun i _ => nc - (intOf i).toNat)
  case atStart => exact ⟨0, by omega, rfl, ⟨fun i hi => by omega⟩, Bel.refl _⟩
  case round =>
   obtain ⟨b, hb, rfl, hcd, hB1⟩ := hrel
   have hb1 := hB1.blk hbf
   have z4 : wr.cell? ⟨F, 4, none⟩ = some (.slice F4 nc d4) := blk_cell hb1 4
   by_cases hltb : b < nc
   case neg =>
    have p1 : ¬ (b : Int) < (nc : Int) := by omega
    obtain rfl : b = nc := by omega
    go_wp2
    go_roundw
    case rel =>
     refine ⟨n + 1, by omega, by go_num, ⟨fun m hm => ?_⟩, hBq.trans hB1⟩
     rcases Nat.lt_or_ge m n with h | h
     ·exact hgd.out m h
     ·obtain rfl : m = n := by omega
      exact trivial
    case measure => simp [intOf]; omega
   have p1 : (b : Int) < (nc : Int) := by omega
   have hltf : b < f.f4.length := by rw [hnc.out]; exact hltb
   obtain ⟨ad4, B0, e0, e4, y0, he0, hri⟩ := block_at (hFA.out.step hB1).r4 b hltf
   subst e4
   obtain ⟨l, hl⟩ : ∃ l, (f.f4[b]'hltf).f0 = l := ⟨_, rfl⟩
   rw [hl] at y0 he0 hri
   have hl' : (f.f4.getD b zBlock).f0 = l := by rw [getD_at hltf, hl]
   have hlm := hff.out b hltf
   rw [hl'] at hlm
   have hin := Aside0.mk (fun k hk => hfi.out b hltf k hk)
   rw [hl'] at hin
   replace hl' := Aside0.mk hl'
   clear hl
   obtain ⟨cl, hcl⟩ : ∃ cl, l.length = cl := ⟨_, rfl⟩
   rw [hcl] at y0 he0 hlm
   replace hcl := Aside0.mk hcl
   replace he0 := Aside0.mk he0
   go_wp2
   clear z4
   go_loopw [8] (fun i W => ∃ k : Nat, k ≤ cl ∧ i = .int .i64 k ∧ Aside0 (∀ j < k, OkK f (l.getD j zIns)) ∧ Bel wr W) (fun i _ => cl - (intOf i).toNat)
   case atStart => exact ⟨0, by omega, rfl, ⟨fun i hi => by omega⟩, Bel.refl _⟩
   case round =>
    obtain ⟨k, hk, rfl, hj, hB2⟩ := hrel
    have hB12 := hB1.trans hB2
    have hb2 := hB12.blk hbf
    have z4 := blk_cell hb2 4
    have y4 := Bel.cell hB2 y0
    by_cases hltk : k < cl
    case neg =>
     have p2 : ¬ (k : Int) < (cl : Int) := by omega
     obtain rfl : k = cl := by omega
     go_wp2
     go_roundw
     case rel =>
      refine ⟨b + 1, by omega, by go_num, ⟨fun c hc => ?_⟩, hB12⟩
      rcases Nat.lt_or_ge c b with h | h
      ·exact hcd.out c h
      ·obtain rfl : c = b := by omega
       rw [hl'.out]
       intro j hj2
       exact hj.out j (by rw [← hcl.out]; exact hj2)
     case measure => simp [intOf]; omega
    have p2 : (k : Int) < (cl : Int) := by omega
    have hlk : k < l.length := by rw [hcl.out]; exact hltk
    obtain ⟨ad5, A6, c6, e5, i0, i1, i2, i3, i4, i5, i6, hl6, hR6⟩ := ins_at (hri.step hB2) k hlk
    subst e5
    obtain ⟨x, hx⟩ : ∃ x, l[k]'hlk = x := ⟨_, rfl⟩
    have hx' : l.getD k zIns = x := by rw [getD_at hlk, hx]
    rw [hx] at i0 i1 i2 i3 i4 i5 i6 hl6 hR6
    have hxi := hin.out k hlk
    rw [hx'] at hxi
    replace hx' := Aside0.mk hx'
    clear hx
    go_upto_region 11 with (fail)
    have hBx := hBq.trans hB12
    have hbg := hBx.blk hbp
    have hBd : Bel wr wr.drew := (Bel.refl wr).drewN 1
    have hS := Aside0.mk (fun (X : World) (q : Bel wr X) => And.intro (blk_cell (q.blk hbg) 0) (And.intro (blk_cell (q.blk hb2) 4) (And.intro (Bel.cell q y4) (And.intro (Bel.cell q i0) (And.intro (Bel.cell q i1) (And.intro (Bel.cell q i2) (And.intro (Bel.cell q i3) (And.intro (Bel.cell q i4) (And.intro (Bel.cell q i5) (Bel.cell q i6))))))))))
    have hcal := Aside0.mk (fun (X : World) (q : Bel wr X) => Fits_any p n x PA pc A6 c6 X (hP.step ((hB.trans hBx).trans q)) hnp (by rw [hN.out]; exact hp8) (hR6.step q) hl6 ⟨hC.out.func⟩ (by rw [hf.out]; exact hxi))
    simp only [insV, hN.out] at hcal
    clear y4 z4 i0 i1 i2 i3 i4 i5 i6
    refine wp_region_held_drew (S := fun w' => w'.cell? ⟨g, 0, none⟩ = some (.slice PA N pc) ∧ w'.cell? ⟨F, 4, none⟩ = some (.slice (some ad4) nc d4) ∧ w'.cell? (ad4.add b) = some (.slice (some ad5) cl e0) ∧ w'.cell? (ad5.add (k * 7)) = some (.int .i64 x.f0) ∧ w'.cell? ⟨(ad5.add (k * 7)).block, (ad5.add (k * 7)).off + 1, none⟩ = some (.int .i64 x.f1) ∧ w'.cell? ⟨(ad5.add (k * 7)).block, (ad5.add (k * 7)).off + 2, none⟩ = some (.int .i64 x.f2) ∧ w'.cell? ⟨(ad5.add (k * 7)).block, (ad5.add (k * 7)).off + 3, none⟩ = some (.int .i64 x.f3) ∧ w'.cell? ⟨(ad5.add (k * 7)).block, (ad5.add (k * 7)).off + 4, none⟩ = some (.int .i64 x.f4) ∧ w'.cell? ⟨(ad5.add (k * 7)).block, (ad5.add (k * 7)).off + 5, none⟩ = some (.int .i64 x.f5) ∧ w'.cell? ⟨(ad5.add (k * 7)).block, (ad5.add (k * 7)).off + 6, none⟩ = some (.slice A6 x.f6.length c6)) (by kernel_rfl) (hS.out _ hBd) (fun hHeld => ?_)
    refine takeH [0, 1, 2, 3, 4, 5, 6, 7, 8, 9, 10] (by kernel_rfl) (by kernel_rfl) hHeld ?_
    iterate 11 (refine takeI (v := ?_) rfl rfl (fun _ _ _ h => h) (Or.inl ⟨by kernel_rfl, ?_⟩) ?_; rotate_left 1; focus (intro w hSw; (try dsimp only at hSw); go_simp; (try with_reducible rfl); done); try simp only [Act.put, z1, z2, z3, z4, z5, z6])
    refine takeE ?_
    try dsimp only
    refine wpAnyH_ready (rs := [11]) (by kernel_rfl) (by simp) ?_
    refine AllReadyH.cons rfl (fun K hK => ?_) AllReadyH.nil
    go_simp
    (go_at_call 32; refine (hcal.out _ hBd).mono ?_; rintro ex w3 ⟨gb, rfl, -, hB3⟩)
    replace hB3 := hBd.trans hB3
    refine hK.out _ _ ?_ (fun hHeld => ?_)
    rotate_left 1
    clear hK K
    try simp only [Act.put, z1, z2, z3, z4, z5, z6]
    rotate_left 1
    ·exact hS.out _ hB3
    refine takeH [12] (by kernel_rfl) (by kernel_rfl) hHeld ?_
    iterate 1 (refine takeI (v := ?_) rfl rfl (fun _ _ _ h => h) (Or.inl ⟨by kernel_rfl, ?_⟩) ?_; rotate_left 1; focus (intro w hSw; (try dsimp only at hSw); go_simp; (try with_reducible rfl); done); try simp only [Act.put, z1, z2, z3, z4, z5, z6])
    refine takeE ?_
    try dsimp only
    refine wpAnyH_done (by kernel_rfl) ?_ _
    cases gb with
    | false =>
     go_wp2
     go_ret
     exact .no (hB.trans (hBx.trans hB3))
    | true =>
     go_wp2
     go_roundw
     case rel =>
      refine ⟨k + 1, by omega, by go_num, ⟨fun j hj2 => ?_⟩, hB2.trans hB3⟩
      rcases Nat.lt_or_ge j k with h | h
      ·exact hj.out j h
      ·obtain rfl : j = k := by omega
       trivial
     case measure => simp [intOf]; omega
end Go.Proofs.Ytodjpbidjldblaa.H
