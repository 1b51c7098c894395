/- Layer 3, walks: the writer lays a function. -/
import Derived.Test.YtijdmnjkiiemlaaDoorCw5
namespace Go.Proofs.YtijdmnjkiiemlaaDoor.H
open Go.RowKit Go.Proofs.YtijdmnjkiiemlaaDoorW.PrintWords Go.Proofs.YtijdmnjkiiemlaaDoorW.PrintLast
set_option linter.unusedVariables false
set_option linter.unusedSimpArgs false

theorem Bel.cell {wi W : World} (h : Bel wi W) {a : Addr} {v : Value} (hc : wi.cell? a = some v) : W.cell? a = some v := pw_cell_below h.out hc
theorem KT.bel {ts : List Nat} {wi W W1 : World} (h : KT ts wi.heap.size W W1) (k : Bel wi W) : Bel wi W1 := ⟨k.out.trans h.below⟩

theorem sz1 (w : World) (o : Obj) : w.heap.size + 1 = (w.alloc o).heap.size := by unfold World.alloc; simp

/-- three numbers that were just laid down, put -/
theorem wput3 {base g b : Nat} {bs : List Int} {bad : Bool} {W : World} {n1 n2 n3 : Int} (hb : b = W.heap.size) (hW : IsWA base W g bs bad) (hok : ∀ x ∈ [n1, n2, n3], -9223372036854775808 ≤ x ∧ x ≤ 9223372036854775807) (hbs : bs.length ≤ 1000000000000) :
    Calls Tryd.prog 22 #[.pointer (some ⟨g, 0, none⟩), .slice (some ⟨b, 0, none⟩) 3 3] (W.alloc (.cells #[.int .i64 n1, .int .i64 n2, .int .i64 n3] 3)) fun e w' => e = .returned (.tuple #[]) ∧ IsWA base w' g (bs ++ listL [n1, n2, n3]) (bad || [n1, n2, n3].any negB) ∧ Aside0 (KT WT base W w') := by
  subst hb
  obtain ⟨v, hv⟩ := hW.out
  have hB : Bel W (W.alloc (.cells #[.int .i64 n1, .int .i64 n2, .int .i64 n3] 3)) := (Bel.refl W).alloc _
  have hO : OwnAt (Kd.int .i64) 3 W.heap.size (W.alloc (.cells #[.int .i64 n1, .int .i64 n2, .int .i64 n3] 3)) (.slice (some ⟨W.heap.size, 0, none⟩) 3 3) [n1, n2, n3] := Own.lit .i64 3 (Bel.refl W) [n1, n2, n3] (by simp)
  have := wput_any (some ⟨W.heap.size, 0, none⟩) 3 [n1, n2, n3] base g bs bad (W.alloc (.cells #[.int .i64 n1, .int .i64 n2, .int .i64 n3] 3)) ⟨⟨v, hv.step hB⟩⟩ (RdK.own hO (by decide) base) ⟨hok⟩ (by simp; omega)
  exact this.mono fun e w' h => ⟨h.1, h.2.1, ⟨(KT.of_bel hB hv.lt WT).trans h.2.2.out⟩⟩

/-- a variable's kind, and its base -/
def kbL (k b : Int) : List Int := putL k ++ (if k = 2 then putL b else [])
def kbBad (k b : Int) : Bool := negB k || (if k = 2 then negB b else (decide (2 < k) || b != -1))
/-- the kinds and bases of the first n variables -/
def kbsL (ks bs : List Int) (n : Nat) : List Int := (List.range n).flatMap fun (i : Nat) => kbL (rd ks (i : Int)) (rd bs (i : Int))
def kbsBad (ks bs : List Int) (n : Nat) : Bool := (List.range n).any fun (i : Nat) => kbBad (rd ks (i : Int)) (rd bs (i : Int))
theorem kbsL_snoc (ks bs : List Int) (n : Nat) : kbsL ks bs (n + 1) = kbsL ks bs n ++ kbL (rd ks (n : Int)) (rd bs (n : Int)) := by simp [kbsL, List.range_succ]
theorem kbsBad_snoc (ks bs : List Int) (n : Nat) : kbsBad ks bs (n + 1) = (kbsBad ks bs n || kbBad (rd ks (n : Int)) (rd bs (n : Int))) := by simp [kbsBad, List.range_succ]
def codeL (l : List SIns) : List Int := l.flatMap insL
def blockL (b : SBlock) : List Int := putL (b.f0.length : Int) ++ codeL b.f0
def blockBad (b : SBlock) : Bool := b.f0.any insBad
def headL (f : SFunc) : List Int := listL [f.f2, f.f3, (f.f4.length : Int)]
def fnL (f : SFunc) : List Int := putL (f.f0.length : Int) ++ kbsL f.f0 f.f1 f.f0.length ++ headL f ++ f.f4.flatMap blockL
def fnBad (f : SFunc) : Bool := kbsBad f.f0 f.f1 f.f0.length || (negB f.f2 || negB f.f3) || f.f4.any blockBad
/-- what is laid of a function behind others, and the mark then -/
def fnOutL (f : SFunc) (bs : List Int) : List Int := if f.f1.length = f.f0.length then bs ++ fnL f else bs
def fnOutB (f : SFunc) (bad : Bool) : Bool := bad || (f.f1.length != f.f0.length || fnBad f)
/-- a function whose numbers are ints, and that may be laid, as far as its counts go -/
structure FuncOk (f : SFunc) : Prop where
  f0 : ∀ a ∈ f.f0, -9223372036854775808 ≤ a ∧ a ≤ 9223372036854775807
  f1 : ∀ a ∈ f.f1, -9223372036854775808 ≤ a ∧ a ≤ 9223372036854775807
  f2 : -9223372036854775808 ≤ f.f2 ∧ f.f2 ≤ 9223372036854775807
  f3 : -9223372036854775808 ≤ f.f3 ∧ f.f3 ≤ 9223372036854775807
  f4 : ∀ b ∈ f.f4, ∀ x ∈ b.f0, InsOk x
  l0 : f.f0.length ≤ 48
  l4 : f.f4.length ≤ 40
  lb : ∀ b ∈ f.f4, b.f0.length ≤ 40
theorem bl_snoc {l : List SBlock} {k : Nat} (h : k < l.length) : (l.take (k + 1)).flatMap blockL = (l.take k).flatMap blockL ++ blockL l[k] := by rw [List.take_succ_eq_append_getElem h, List.flatMap_append]; simp
theorem bl_any {l : List SBlock} {k : Nat} (h : k < l.length) : (l.take (k + 1)).any blockBad = ((l.take k).any blockBad || blockBad l[k]) := by rw [List.take_succ_eq_append_getElem h, List.any_append]; simp
theorem co_snoc {l : List SIns} {k : Nat} (h : k < l.length) : codeL (l.take (k + 1)) = codeL (l.take k) ++ insL l[k] := by rw [codeL, List.take_succ_eq_append_getElem h, List.flatMap_append]; simp [codeL]
theorem co_any {l : List SIns} {k : Nat} (h : k < l.length) : (l.take (k + 1)).any insBad = ((l.take k).any insBad || insBad l[k]) := by rw [List.take_succ_eq_append_getElem h, List.any_append]; simp
theorem insL_len {x : SIns} (h : InsOk x) : (insL x).length ≤ 90040 := by
  unfold insL
  obtain ⟨_, hl⟩ := partsL_ok x.f0
  have h1 := putL_len x.f0
  have : ∀ l : List Int, (l.flatMap (letL x)).length ≤ 30010 * l.length := by
    intro l
    induction l with
    | nil => simp
    | cons c l ih => have := letL_len h c; simp only [List.flatMap_cons, List.length_append, List.length_cons]; omega
  have := this (partsL x.f0)
  rw [List.length_append]
  omega

set_option maxHeartbeats 8000000 in
set_option maxRecDepth 100000 in
theorem wfn_any (f : SFunc) (A0 A1 A4 : Option Addr) (c0 c1 c4 : Nat) (wi : World) (g : Nat) (bs : List Int) (bad : Bool) (w : World) (hG : GlobA wi.heap.size w) (hW : IsWA wi.heap.size w g bs bad) (hBi : Bel wi w) (hf : Aside0 (FuncOk f))
    (H0 : RdI wi A0 f.f0) (H1 : RdI wi A1 f.f1) (H4 : Rd kBlock wi A4 f.f4) (hbs : bs.length ≤ 10000000000) :
    Calls Tryd.prog 23 #[.pointer (some ⟨g, 0, none⟩), funcV f A0 A1 A4 c0 c1 c4] w fun e w' => e = .returned (.tuple #[]) ∧ IsWA wi.heap.size w' g (fnOutL f bs) (fnOutB f bad) ∧ Aside0 (KT WT wi.heap.size w w') := by
  have hl0 := hf.out.l0
  have hl4 := hf.out.l4
  have hm1 := H1.len
  obtain ⟨v, hv⟩ := hW.out
  have hbw := hv.lt
  unfold funcV
  have hB0 : Bel w (w.alloc (.cells #[.slice A0 f.f0.length c0, .slice A1 f.f1.length c1, .int .i64 f.f2, .int .i64 f.f3, .slice A4 f.f4.length c4] 43)) := (Bel.refl w).alloc _
  have box : (w.alloc (.cells #[.slice A0 f.f0.length c0, .slice A1 f.f1.length c1, .int .i64 f.f2, .int .i64 f.f3, .slice A4 f.f4.length c4] 43)).heap[w.heap.size]? = some (.cells #[.slice A0 f.f0.length c0, .slice A1 f.f1.length c1, .int .i64 f.f2, .int .i64 f.f3, .slice A4 f.f4.length c4] 43 (0, 0)) := heap_alloc_new w _
  go_enter Tryd.func23, Tryd.ntmps23
  go_upto_region 1 with (fail)
  generalize w.alloc (.cells #[.slice A0 f.f0.length c0, .slice A1 f.f1.length c1, .int .i64 f.f2, .int .i64 f.f3, .slice A4 f.f4.length c4] 43) = wa at hB0 box ⊢
  have hva := Aside0.mk (hv.step hB0)
  have hGa : GlobA wi.heap.size wa := ⟨hG.out.step hB0 hbw⟩
  have hKa : KT WT wi.heap.size w wa := KT.of_bel hB0 hbw WT
  have hBa : Bel wi wa := hBi.trans hB0
  obtain ⟨h, hh⟩ : ∃ h, w.heap.size = h := ⟨_, rfl⟩
  rw [hh] at box ⊢
  replace hh := Aside0.mk hh
  replace hKa := Aside0.mk hKa
  clear hv hG hB0 hW hbw hBi
  have x0 : wa.cell? ⟨h, 0, none⟩ = some (.slice A0 f.f0.length c0) := blk_cell box 0
  have x1 : wa.cell? ⟨h, 1, none⟩ = some (.slice A1 f.f1.length c1) := blk_cell box 1
  replace box := Aside0.mk box
  by_cases hlen : f.f1.length = f.f0.length
  · have b1 : ((f.f1.length : Int) != (f.f0.length : Int)) = false := by simp [hlen]
    have b2 : (f.f1.length == f.f0.length) = true := by simp [hlen]
    have b3 : Aside0 ((f.f1.length != f.f0.length) = false) := ⟨by simp [hlen]⟩
    replace hlen := Aside0.mk hlen
    have hput := Aside0.mk (fun b (hb : b = wa.heap.size) => wput1 hb ⟨⟨v, hva.out⟩⟩ (n := (f.f0.length : Int)) (by omega) (by omega) (show bs.length ≤ 1000000000000 by omega))
    go_wp2_with (go_at_call 22; ((with_reducible refine (hput.out _ ?_).mono ?_); (first | rfl | (simp; done)); rintro e w' ⟨rfl, hW1, hK1⟩; have x0' : w'.cell? ⟨h, 0, none⟩ = some (.slice A0 f.f0.length c0) := blk_cell (hK1.out.blk box.out (by decide)) 0))
    obtain ⟨bs1, hbs1⟩ : ∃ b, Aside0 (bs ++ putL (f.f0.length : Int) = b) := ⟨_, ⟨rfl⟩⟩
    have hneg : negB (f.f0.length : Int) = false := decide_eq_false (by omega)
    rw [hbs1.out, hneg, Bool.or_false] at hW1
    have hb1 : bs1.length ≤ bs.length + 10 := by have := putL_len (f.f0.length : Int); rw [← hbs1.out, List.length_append]; omega
    clear hput hva x0' hneg
    go_loopw [29] (fun i W => ∃ (k : Nat) (bk : List Int) (mk : Bool), k ≤ f.f0.length ∧ i = .int .i64 k ∧ bk.length ≤ bs.length + 10 + 20 * k ∧ Aside0 (bk = bs1 ++ kbsL f.f0 f.f1 k) ∧ Aside0 (mk = (bad || kbsBad f.f0 f.f1 k)) ∧ IsWA wi.heap.size W g bk mk ∧ Aside0 (KT WT wi.heap.size wa W)) (fun i _ => f.f0.length - (intOf i).toNat)
    case atStart => exact ⟨0, bs1, bad, by omega, rfl, by omega, ⟨by simp [kbsL]⟩, ⟨by simp [kbsBad]⟩, hW1, hK1⟩
    case round =>
      clear hW1 hK1
      obtain ⟨k, bk, mk, hk, rfl, hbl, hbk, hmk, hW1, hK1⟩ := hrel
      have hBr : Bel wi wr := hK1.out.bel hBa
      by_cases hlt : k < f.f0.length
      · have hlt1 : k < f.f1.length := by rw [hlen.out]; exact hlt
        obtain ⟨ad0, rfl, hc0⟩ := rd_atN (H0.step hBr) k hlt
        have hk0 := (show IntsOk f.f0 from ⟨hf.out.f0⟩).at_ k hlt
        have hk1 := (show IntsOk f.f1 from ⟨hf.out.f1⟩).at_ k (by rw [hlen.out]; exact hlt)
        have hk00 := hk0.1
        have hk01 := hk0.2
        have hk10 := hk1.1
        have hk11 := hk1.2
        have hsl := Aside0.mk (kbsL_snoc f.f0 f.f1 k)
        have hsb := Aside0.mk (kbsBad_snoc f.f0 f.f1 k)
        obtain ⟨kd, hkd⟩ : ∃ x, rd f.f0 (k : Int) = x := ⟨_, rfl⟩
        obtain ⟨bd, hbd⟩ : ∃ x, Aside0 (rd f.f1 (k : Int) = x) := ⟨_, ⟨rfl⟩⟩
        rw [hbd.out] at hk10 hk11
        rw [hkd] at hc0 hk00 hk01 hsl
        rw [hkd] at hsb
        rw [hbd.out] at hsl
        rw [hbd.out] at hsb
        clear hkd hk0 hk1
        have hput := Aside0.mk (fun b (hb : b = wr.heap.size) => wput1 hb hW1 (n := kd) hk00 hk01 (show bk.length ≤ 1000000000000 by omega))
        obtain ⟨ad1, hA1, hcB0⟩ := rd_atN H1 k (by rw [hlen.out]; exact hlt)
        subst hA1
        rw [hbd.out] at hcB0
        have hbx := Aside0.mk (fun W (q : KT WT wi.heap.size wr W) => (hK1.out.trans q).blk box.out (by decide))
        have hcBx := Aside0.mk (fun W (q : KT WT wi.heap.size wr W) => (q.bel hBr).cell hcB0)
        clear hcB0
        by_cases k2 : kd = 2
        · have b4 : (kd == 2) = true := by simpa using k2
          have e1 : Aside0 (kbL kd bd = putL kd ++ putL bd) := ⟨by unfold kbL; rw [if_pos k2]⟩
          have e2 : Aside0 (kbBad kd bd = (negB kd || negB bd)) := ⟨by unfold kbBad; rw [if_pos k2]⟩
          clear k2
          go_wp2_with (first | (go_at_call 22; ((with_reducible refine (hput.out _ ?_).mono ?_); (first | rfl | (simp; done)); rintro e w' ⟨rfl, hW2, hK2⟩; have x1' : w'.cell? ⟨h, 1, none⟩ = some (.slice (some ad1) f.f1.length c1) := blk_cell (hbx.out _ hK2.out) 1; have cB := hcBx.out _ hK2.out)) | (go_at_call 22; ((with_reducible refine (wput1 ?_ hW2 hk10 hk11 ?_).mono ?_); (first | rfl | (simp; done)); (have := putL_len kd; rw [List.length_append]; omega); rintro e w'' ⟨rfl, hW3, hK3⟩)))
          go_roundw
          case rel => exact ⟨k + 1, bk ++ putL kd ++ putL bd, mk || negB kd || negB bd, by omega, by go_num, by have := putL_len kd; have := putL_len bd; rw [List.length_append, List.length_append]; omega, ⟨by rw [hsl.out, e1.out, ← List.append_assoc, ← hbk.out, List.append_assoc]⟩, ⟨by rw [hsb.out, e2.out, ← Bool.or_assoc, ← hmk.out, Bool.or_assoc]⟩, hW3, ⟨(hK1.out.trans hK2.out).trans hK3.out⟩⟩
          case measure => simp [intOf]; omega
        · have b4 : (kd == 2) = false := by simpa using k2
          have e1 : Aside0 (kbL kd bd = putL kd) := ⟨by unfold kbL; rw [if_neg k2, List.append_nil]⟩
          have e2 : Aside0 (kbBad kd bd = (negB kd || (decide (2 < kd) || bd != -1))) := ⟨by unfold kbBad; rw [if_neg k2]⟩
          clear k2
          by_cases k3 : 2 < kd
          · have b5 : decide (2 < kd) = true := decide_eq_true k3
            rw [b5] at e2
            go_wp2_with (go_at_call 22; ((with_reducible refine (hput.out _ ?_).mono ?_); (first | rfl | (simp; done)); rintro e w' ⟨rfl, hW2, hK2⟩; obtain ⟨v2, hv2⟩ := hW2.out; have x1' : w'.cell? ⟨h, 1, none⟩ = some (.slice (some ad1) f.f1.length c1) := blk_cell (hbx.out _ hK2.out) 1; have cB := hcBx.out _ hK2.out; have cg : w'.cell? ⟨g, 1, none⟩ = some (.bool (mk || negB kd)) := blk_cell hv2.blk 1; have fg : w'.frozen? ⟨g, 1, none⟩ = false := blk_frozen hv2.blk 1; replace hv2 := Aside0.mk hv2))
            have hs := Aside0.mk (hv2.out.setM true)
            go_roundw
            case rel => exact ⟨k + 1, bk ++ putL kd, true, by omega, by go_num, by have := putL_len kd; rw [List.length_append]; omega, ⟨by rw [hsl.out, e1.out, ← List.append_assoc, ← hbk.out]⟩, ⟨by rw [hsb.out, e2.out]; simp⟩, ⟨_, hs.out.1⟩, ⟨(hK1.out.trans hK2.out).trans hs.out.2⟩⟩
            case measure => simp [intOf]; omega
          · have b5 : decide (2 < kd) = false := decide_eq_false k3
            rw [b5] at e2
            cases b6 : (bd != -1) with
            | true =>
              rw [b6] at e2
              go_wp2_with (go_at_call 22; ((with_reducible refine (hput.out _ ?_).mono ?_); (first | rfl | (simp; done)); rintro e w' ⟨rfl, hW2, hK2⟩; obtain ⟨v2, hv2⟩ := hW2.out; have x1' : w'.cell? ⟨h, 1, none⟩ = some (.slice (some ad1) f.f1.length c1) := blk_cell (hbx.out _ hK2.out) 1; have cB := hcBx.out _ hK2.out; have cg : w'.cell? ⟨g, 1, none⟩ = some (.bool (mk || negB kd)) := blk_cell hv2.blk 1; have fg : w'.frozen? ⟨g, 1, none⟩ = false := blk_frozen hv2.blk 1; replace hv2 := Aside0.mk hv2))
              have hs := Aside0.mk (hv2.out.setM true)
              go_roundw
              case rel => exact ⟨k + 1, bk ++ putL kd, true, by omega, by go_num, by have := putL_len kd; rw [List.length_append]; omega, ⟨by rw [hsl.out, e1.out, ← List.append_assoc, ← hbk.out]⟩, ⟨by rw [hsb.out, e2.out]; simp⟩, ⟨_, hs.out.1⟩, ⟨(hK1.out.trans hK2.out).trans hs.out.2⟩⟩
              case measure => simp [intOf]; omega
            | false =>
              rw [b6] at e2
              go_wp2_with (go_at_call 22; ((with_reducible refine (hput.out _ ?_).mono ?_); (first | rfl | (simp; done)); rintro e w' ⟨rfl, hW2, hK2⟩; have x1' : w'.cell? ⟨h, 1, none⟩ = some (.slice (some ad1) f.f1.length c1) := blk_cell (hbx.out _ hK2.out) 1; have cB := hcBx.out _ hK2.out))
              go_roundw
              case rel => exact ⟨k + 1, bk ++ putL kd, mk || negB kd, by omega, by go_num, by have := putL_len kd; rw [List.length_append]; omega, ⟨by rw [hsl.out, e1.out, ← List.append_assoc, ← hbk.out]⟩, ⟨by rw [hsb.out, e2.out, ← Bool.or_assoc, ← hmk.out]; simp⟩, hW2, ⟨hK1.out.trans hK2.out⟩⟩
              case measure => simp [intOf]; omega
      · have hkk : k = f.f0.length := by omega
        have y2 : wr.cell? ⟨h, 2, none⟩ = some (.int .i64 f.f2) := blk_cell (hK1.out.blk box.out (by decide)) 2
        have y3 : wr.cell? ⟨h, 3, none⟩ = some (.int .i64 f.f3) := blk_cell (hK1.out.blk box.out (by decide)) 3
        have y4 : wr.cell? ⟨h, 4, none⟩ = some (.slice A4 f.f4.length c4) := blk_cell (hK1.out.blk box.out (by decide)) 4
        have hput := Aside0.mk (fun b (hb : b = wr.heap.size) => wput3 (n1 := f.f2) (n2 := f.f3) (n3 := (f.f4.length : Int)) hb hW1 (by intro x hx; simp only [List.mem_cons, List.not_mem_nil, or_false] at hx; rcases hx with rfl | rfl | rfl; exact hf.out.f2; exact hf.out.f3; constructor <;> omega) (show bk.length ≤ 1000000000000 by omega))
        go_wp2_with (go_at_call 22; ((with_reducible refine (hput.out _ ?_).mono ?_); (first | rfl | (simp; done)); rintro e w' ⟨rfl, hW2, hK2⟩; have z4 : w'.cell? ⟨h, 4, none⟩ = some (.slice A4 f.f4.length c4) := blk_cell ((hK1.out.trans hK2.out).blk box.out (by decide)) 4))
        have e3 : [f.f2, f.f3, (f.f4.length : Int)].any negB = (negB f.f2 || negB f.f3) := by simp only [List.any_cons, List.any_nil, Bool.or_false, show negB (f.f4.length : Int) = false from decide_eq_false (by omega)]
        obtain ⟨bh, hbh⟩ : ∃ b, Aside0 (bk ++ headL f = b) := ⟨_, ⟨rfl⟩⟩
        obtain ⟨mh, hmh⟩ : ∃ b, Aside0 ((mk || (negB f.f2 || negB f.f3)) = b) := ⟨_, ⟨rfl⟩⟩
        rw [e3, show listL [f.f2, f.f3, (f.f4.length : Int)] = headL f from rfl, hbh.out, hmh.out] at hW2
        have hhl : bh.length ≤ bs.length + 10 + 20 * 48 + 30 := by
          have hll := listL_len [f.f2, f.f3, (f.f4.length : Int)]
          rw [← hbh.out, List.length_append, headL]
          simp only [List.length_cons, List.length_nil] at hll
          omega
        replace hK2 := Aside0.mk (hK1.out.trans hK2.out)
        replace e3 := Aside0.mk e3
        clear hput y2 y3 y4 z4 hW1
        go_loopw [77] (fun i W => ∃ (j : Nat) (bj : List Int) (mj : Bool), j ≤ f.f4.length ∧ i = .int .i64 j ∧ bj.length ≤ bs.length + 1000 + 3601610 * j ∧ Aside0 (bj = bh ++ (f.f4.take j).flatMap blockL) ∧ Aside0 (mj = (mh || (f.f4.take j).any blockBad)) ∧ IsWA wi.heap.size W g bj mj ∧ Aside0 (KT WT wi.heap.size wa W)) (fun i _ => f.f4.length - (intOf i).toNat)
        case atStart => exact ⟨0, bh, mh, by omega, rfl, by omega, ⟨by simp⟩, ⟨by simp⟩, hW2, hK2⟩
        case round =>
          clear hW2 hK2
          obtain ⟨j, bj, mj, hj, rfl, hjl, hbj, hmj, hW3, hK3⟩ := hrel
          have hBr3 : Bel wi wr := hK3.out.bel hBa
          by_cases hlj : j < f.f4.length
          · obtain ⟨ad, A, c, rfl, hcb, hcc, hR⟩ := block_at H4 j hlj
            replace hcb := Bel.cell hBr3 hcb
            have hxs := Aside0.mk (bl_snoc hlj)
            have hxb := Aside0.mk (bl_any hlj)
            have hxl := hf.out.lb f.f4[j] (List.getElem_mem hlj)
            have hxo := Aside0.mk (hf.out.f4 f.f4[j] (List.getElem_mem hlj))
            obtain ⟨x, hx⟩ : ∃ x, Aside0 (f.f4[j] = x) := ⟨_, ⟨rfl⟩⟩
            rw [hx.out] at hcb hcc hR hxs hxb hxl hxo
            obtain ⟨l, hl⟩ : ∃ l, Aside0 (x.f0 = l) := ⟨_, ⟨rfl⟩⟩
            rw [hl.out] at hcb hcc hR hxl hxo
            have hml := hR.len
            obtain ⟨v3, hv3⟩ := hW3.out
            have hbw3 := hv3.lt
            have hB3 : Bel wr (wr.alloc (.cells #[.slice A l.length c] 48)) := (Bel.refl wr).alloc _
            have box3 : (wr.alloc (.cells #[.slice A l.length c] 48)).heap[wr.heap.size]? = some (.cells #[.slice A l.length c] 48 (0, 0)) := heap_alloc_new wr _
            have hput := Aside0.mk (fun b (hb : b = (wr.alloc (.cells #[.slice A l.length c] 48)).heap.size) => wput1 (n := (l.length : Int)) hb ⟨⟨v3, hv3.step hB3⟩⟩ (by omega) (by omega) (show bj.length ≤ 1000000000000 by omega))
            replace hv3 := Aside0.mk hv3
            replace hB3 := Aside0.mk hB3
            replace box3 := Aside0.mk box3
            go_wp2_with (go_at_call 22; ((with_reducible refine (hput.out _ ?_).mono ?_); (first | rfl | (simp; done) | exact sz1 _ _); rintro e w' ⟨rfl, hW4, hK4⟩; have zb : w'.cell? ⟨wr.heap.size, 0, none⟩ = some (.slice A l.length c) := blk_cell (hK4.out.blk box3.out (by decide)) 0))
            have hneg : negB (l.length : Int) = false := decide_eq_false (by omega)
            rw [hneg, Bool.or_false] at hW4
            obtain ⟨bl, hbl⟩ : ∃ b, Aside0 (bj ++ putL (l.length : Int) = b) := ⟨_, ⟨rfl⟩⟩
            rw [hbl.out] at hW4
            have hbll : bl.length ≤ bj.length + 10 := by have := putL_len (l.length : Int); rw [← hbl.out, List.length_append]; omega
            have hK5 := Aside0.mk ((hK3.out.trans (KT.of_bel hB3.out hbw3 WT)).trans hK4.out)
            clear hput hneg hv3 hW3
            go_loopw [90] (fun i W => ∃ (m : Nat) (bm : List Int) (mm : Bool), m ≤ l.length ∧ i = .int .i64 m ∧ bm.length ≤ bl.length + 90040 * m ∧ Aside0 (bm = bl ++ codeL (l.take m)) ∧ Aside0 (mm = (mj || (l.take m).any insBad)) ∧ IsWA wi.heap.size W g bm mm ∧ Aside0 (KT WT wi.heap.size wa W)) (fun i _ => l.length - (intOf i).toNat)
            case atStart => exact ⟨0, bl, mj, by omega, rfl, by omega, ⟨by simp [codeL]⟩, ⟨by simp⟩, hW4, hK5⟩
            case round =>
              clear hW4 hK5 hK4 zb
              obtain ⟨m, bm, mm, hm, rfl, hml2, hbm, hmm, hW5, hK5⟩ := hrel
              have hBr5 : Bel wi wr := hK5.out.bel hBa
              by_cases hlm : m < l.length
              · obtain ⟨ad, A6, c6, rfl, h0, h1, h2, h3, h4, h5, h6, hcl, hR6⟩ := ins_at hR m hlm
                replace h0 := Bel.cell hBr5 h0
                replace h1 := Bel.cell hBr5 h1
                replace h2 := Bel.cell hBr5 h2
                replace h3 := Bel.cell hBr5 h3
                replace h4 := Bel.cell hBr5 h4
                replace h5 := Bel.cell hBr5 h5
                replace h6 := Bel.cell hBr5 h6
                have hys := Aside0.mk (co_snoc hlm)
                have hyb := Aside0.mk (co_any hlm)
                have hyo := Aside0.mk (hxo.out l[m] (List.getElem_mem hlm))
                obtain ⟨y, hy⟩ : ∃ y, Aside0 (l[m] = y) := ⟨_, ⟨rfl⟩⟩
                rw [hy.out] at h0 h1 h2 h3 h4 h5 h6 hcl hR6 hys hyb hyo
                obtain ⟨q6, hq6⟩ : ∃ q, y.f6 = q := ⟨_, rfl⟩
                obtain ⟨v5, hv5⟩ := hW5.out
                have hbw5 := hv5.lt
                have hins := Aside0.mk (fun W (k : Bel wr W) => wins_any y A6 c6 wi.heap.size g bm mm W ⟨hGa.out.below (hK5.out.trans (KT.of_bel k hbw5 WT)).below⟩ ⟨⟨v5, hv5.step k⟩⟩ hyo (RdK.came hR6 (hBr5.trans k).out WT) (by omega))
                unfold insV at hins
                rw [hq6] at h6 hcl hR6 hins
                replace hq6 := Aside0.mk hq6
                replace hv5 := Aside0.mk hv5
                go_wp2_with (go_at_call 44; ((with_reducible refine (hins.out _ ((Bel.refl wr).alloc _)).mono ?_); rintro e w' ⟨rfl, hW6, hK6⟩))
                go_roundw
                case rel => exact ⟨m + 1, bm ++ insL y, mm || insBad y, by omega, by go_num, by rw [List.length_append]; have := insL_len hyo.out; omega, ⟨by rw [hys.out, ← List.append_assoc, ← hbm.out]⟩, ⟨by rw [hyb.out, ← Bool.or_assoc, ← hmm.out]⟩, hW6, ⟨(hK5.out.trans (KT.of_bel ((Bel.refl wr).alloc _) hbw5 WT)).trans hK6.out⟩⟩
                case measure => simp [intOf]; omega
              · go_wp2
                go_roundw
                have e1 : Aside0 (bm = bj ++ blockL x) := ⟨by rw [hbm.out, ← hbl.out, List.take_of_length_le (by omega), blockL, hl.out, List.append_assoc]⟩
                have e2 : Aside0 (mm = (mj || blockBad x)) := ⟨by rw [hmm.out, List.take_of_length_le (by omega), blockBad, hl.out]⟩
                case rel => exact ⟨j + 1, bm, mm, by omega, by go_num, by omega, ⟨by rw [hxs.out, ← List.append_assoc, ← hbj.out, e1.out]⟩, ⟨by rw [hxb.out, ← Bool.or_assoc, ← hmj.out, e2.out]⟩, hW5, hK5⟩
                case measure => simp [intOf]; omega
          · go_wp2
            go_end0
            have e1 : bj = fnOutL f bs := by rw [fnOutL, if_pos hlen.out, hbj.out, ← hbh.out, hbk.out, ← hbs1.out, hkk, List.take_of_length_le (by omega), fnL]; simp only [List.append_assoc]
            have e2 : mj = fnOutB f bad := by rw [fnOutB, b3.out, hmj.out, ← hmh.out, hmk.out, hkk, List.take_of_length_le (by omega), fnBad]; simp only [Bool.or_assoc, Bool.false_or]
            exact ⟨rfl, by rw [← e1, ← e2]; exact hW3, ⟨hKa.out.trans hK3.out⟩⟩
  · have b1 : ((f.f1.length : Int) != (f.f0.length : Int)) = true := by simp; omega
    have b2 : (f.f1.length == f.f0.length) = false := by simpa using hlen
    have b3 : Aside0 ((f.f1.length != f.f0.length) = true) := ⟨by simpa using hlen⟩
    replace hlen := Aside0.mk hlen
    have c1' : wa.cell? ⟨g, 1, none⟩ = some (.bool bad) := blk_cell hva.out.blk 1
    have f1 := blk_frozen hva.out.blk 1
    go_wp2
    have hs := hva.out.setM true
    exact bodyPost_ret (v := .tuple #[]) (by simp [results, Tryd.results23, go_sem]) rfl ⟨rfl, ⟨v, by rw [fnOutL, if_neg hlen.out, fnOutB, b3.out]; simpa using hs.1⟩, ⟨hKa.out.trans hs.2⟩⟩
end Go.Proofs.YtijdmnjkiiemlaaDoor.H
