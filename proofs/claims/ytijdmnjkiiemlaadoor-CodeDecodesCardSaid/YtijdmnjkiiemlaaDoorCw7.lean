/- Layer 3, walks: a program's bytes. -/
import Derived.Test.YtijdmnjkiiemlaaDoorCw6
namespace Go.Proofs.YtijdmnjkiiemlaaDoor.H
open Go.RowKit Go.Proofs.YtijdmnjkiiemlaaDoorW.PrintWords Go.Proofs.YtijdmnjkiiemlaaDoorW.PrintLast
set_option linter.unusedVariables false
set_option linter.unusedSimpArgs false

/-- may a program's counts not be? -/
def limB (l : List SFunc) : Bool := (decide (l.length < 1) || decide (8 < l.length)) || l.any fun f => !countsB f
/-- is there something in a function that can't be laid? -/
def fBad (f : SFunc) : Bool := f.f1.length != f.f0.length || fnBad f
def encE (l : List SFunc) : Int := if limB l = true then 9 else if l.any fBad = true then 1 else 0
def encL (l : List SFunc) : List Int := if encE l = 0 then putL (l.length : Int) ++ l.flatMap fnL else []
/-- numbers are ints, and of arguments there are not too many -/
structure FuncIn (f : SFunc) : Prop where
  f0 : ∀ a ∈ f.f0, -9223372036854775808 ≤ a ∧ a ≤ 9223372036854775807
  f1 : ∀ a ∈ f.f1, -9223372036854775808 ≤ a ∧ a ≤ 9223372036854775807
  f2 : -9223372036854775808 ≤ f.f2 ∧ f.f2 ≤ 9223372036854775807
  f3 : -9223372036854775808 ≤ f.f3 ∧ f.f3 ≤ 9223372036854775807
  f4 : ∀ b ∈ f.f4, ∀ x ∈ b.f0, InsOk x
theorem FuncIn.ok {f : SFunc} (h : FuncIn f) (hc : countsB f = true) : FuncOk f := by
  unfold countsB at hc
  simp only [Bool.and_eq_true, decide_eq_true_eq, List.all_eq_true] at hc
  obtain ⟨h0, h1, h2⟩ := hc
  refine ⟨h.f0, h.f1, h.f2, h.f3, h.f4, h0, h1, fun b hb => ?_⟩
  have := h2 b hb
  unfold blockB at this
  simp only [Bool.and_eq_true, decide_eq_true_eq] at this
  exact this.1
theorem kbsL_len (ks bs : List Int) (n : Nat) : (kbsL ks bs n).length ≤ 20 * n := by
  induction n with
  | zero => simp [kbsL]
  | succ n ih =>
    rw [kbsL_snoc, List.length_append]
    have h1 := putL_len (rd ks (n : Int))
    have h2 := putL_len (rd bs (n : Int))
    have : (kbL (rd ks (n : Int)) (rd bs (n : Int))).length ≤ 20 := by
      unfold kbL
      split
      · rw [List.length_append]; omega
      · simp; omega
    omega
theorem codeL_len (l : List SIns) (h : ∀ x ∈ l, InsOk x) : (codeL l).length ≤ 90040 * l.length := by
  induction l with
  | nil => simp [codeL]
  | cons a l ih =>
    have h1 := insL_len (h a (by simp))
    have h2 := ih (fun x hx => h x (by simp [hx]))
    simp only [codeL, List.flatMap_cons, List.length_append, List.length_cons] at h2 ⊢
    omega
theorem blocksL_len (l : List SBlock) (h : ∀ b ∈ l, ∀ x ∈ b.f0, InsOk x) (hl : ∀ b ∈ l, b.f0.length ≤ 40) : (l.flatMap blockL).length ≤ 3601610 * l.length := by
  induction l with
  | nil => simp
  | cons a l ih =>
    have h1 := codeL_len a.f0 (h a (by simp))
    have h2 := ih (fun x hx => h x (by simp [hx])) (fun x hx => hl x (by simp [hx]))
    have h3 := hl a (by simp)
    have h4 := putL_len (a.f0.length : Int)
    simp only [List.flatMap_cons, List.length_append, List.length_cons, blockL]
    omega
theorem fnL_len {f : SFunc} (h : FuncOk f) : (fnL f).length ≤ 150000000 := by
  have h1 := putL_len (f.f0.length : Int)
  have h2 := kbsL_len f.f0 f.f1 f.f0.length
  have h3 : (headL f).length ≤ 30 := by have := listL_len [f.f2, f.f3, (f.f4.length : Int)]; simpa [headL] using this
  have h4 := blocksL_len f.f4 h.f4 h.lb
  have h5 := h.l0
  have h6 := h.l4
  unfold fnL
  simp only [List.length_append]
  omega

/-- a writer, made just now -/
theorem IsW.made {base : Nat} {W W1 : World} (hb : base ≤ W.heap.size) (h : W1 = W.alloc (.cells #[.slice none 0 0, .bool false] 53)) : IsW base W1 W.heap.size [] false (.slice none 0 0) :=
  ⟨hb, by rw [h]; simp; omega, by rw [h]; exact heap_alloc_new W _, OwnAt.nil _ _ _ _⟩

theorem fb_snoc {l : List SFunc} {k : Nat} (h : k < l.length) : (l.take (k + 1)).any fBad = ((l.take k).any fBad || fBad l[k]) := by rw [List.take_succ_eq_append_getElem h, List.any_append]; simp
theorem fl_snoc {l : List SFunc} {k : Nat} (h : k < l.length) : (l.take (k + 1)).flatMap fnL = (l.take k).flatMap fnL ++ fnL l[k] := by rw [List.take_succ_eq_append_getElem h, List.flatMap_append]; simp

set_option maxHeartbeats 4000000 in
theorem Encode_any (A : Option Addr) (c : Nat) (l : List SFunc) (w : World) (hG : GlobA w.heap.size w) (HR : Rd kFunc w A l) (hin : Aside0 (∀ f ∈ l, FuncIn f)) :
    Calls Tryd.prog 10 #[.agg #[.slice A l.length c]] w fun e w' => ∃ v, e = .returned (.tuple #[v, .int .i64 (encE l)]) ∧ OwnB w w' v (encL l) ∧ Bel w w' := by
  have hm := HR.len
  have hB0 : Bel w (w.alloc (.cells #[.slice A l.length c] 24)) := (Bel.refl w).alloc _
  have hc0 : (w.alloc (.cells #[.slice A l.length c] 24)).cell? ⟨w.heap.size, 0, none⟩ = some (.slice A l.length c) := blk_cell (heap_alloc_new w _) 0
  have box : (w.alloc (.cells #[.slice A l.length c] 24)).heap[w.heap.size]? = some (.cells #[.slice A l.length c] 24 (0, 0)) := heap_alloc_new w _
  have hhas := Aside0.mk (fun W (k : Bel w W) => hasCounts_any A c l W (HR.step k))
  have hlim : limB l = true → encE l = 9 ∧ encL l = [] := fun h => by
    have : encE l = 9 := by unfold encE; rw [if_pos h]
    exact ⟨this, by unfold encL; rw [this]; rfl⟩
  cases hlb : limB l with
  | true =>
    obtain ⟨e1, e2⟩ := hlim hlb
    rw [e1, e2]
    clear hlim e1 e2
    by_cases h1 : l.length < 1
    · go_enter Tryd.func10, Tryd.ntmps10
      go_wp2
      go_ret2
      exact ⟨_, rfl, Own.nil _ _ _ _, hB0⟩
    · by_cases h2 : 8 < l.length
      · go_enter Tryd.func10, Tryd.ntmps10
        go_wp2
        go_ret2
        exact ⟨_, rfl, Own.nil _ _ _ _, hB0⟩
      · have h3 : (l.any fun f => !countsB f) = true := by unfold limB at hlb; rw [decide_eq_false h1, decide_eq_false h2] at hlb; simpa using hlb
        rw [h3] at hhas
        clear h3 hlb
        go_enter Tryd.func10, Tryd.ntmps10
        go_wp2_with (go_at_call 19; ((with_reducible refine (hhas.out _ hB0).mono ?_); rintro e w' ⟨rfl, hB1⟩))
        go_ret2
        exact ⟨_, rfl, Own.nil _ _ _ _, hB0.trans hB1⟩
  | false =>
    clear hlim
    have hlb' := hlb
    unfold limB at hlb'
    simp only [Bool.or_eq_false_iff, decide_eq_false_iff_not] at hlb'
    obtain ⟨⟨h1, h2⟩, h3⟩ := hlb'
    rw [h3] at hhas
    have hco : Aside0 (∀ f ∈ l, countsB f = true) := ⟨fun f hf => by have := (List.any_eq_false.1 h3) f hf; simpa using this⟩
    replace hlb := Aside0.mk hlb
    clear h3
    go_enter Tryd.func10, Tryd.ntmps10
    go_upto_region 3 with (go_at_call 19; ((with_reducible refine (hhas.out _ hB0).mono ?_); rintro e w' ⟨rfl, hB1⟩))
    have hB2 := hB0.trans hB1
    have xw : w'.cell? ⟨w.heap.size, 0, none⟩ = some (.slice A l.length c) := blk_cell ((hB1.out.block _ (blk_lt box)).trans box) 0
    have hB3 : Bel w' (w'.alloc (.cells #[.slice none 0 0, .bool false] 53)) := (Bel.refl w').alloc _
    have hmade : IsW w.heap.size (w'.alloc (.cells #[.slice none 0 0, .bool false] 53)) w'.heap.size [] false (.slice none 0 0) := IsW.made hB2.size rfl
    have box3 := (hB3.out.block _ (Nat.lt_of_lt_of_le (blk_lt box) hB1.size)).trans ((hB1.out.block _ (blk_lt box)).trans box)
    go_upto_region 4 with (fail)
    generalize w'.alloc (.cells #[.slice none 0 0, .bool false] 53) = wa at hB3 hmade box3 ⊢
    obtain ⟨g, hg⟩ : ∃ g, w'.heap.size = g := ⟨_, rfl⟩
    obtain ⟨h, hh⟩ : ∃ h, w.heap.size = h := ⟨_, rfl⟩
    have hBa : Bel w wa := hB2.trans hB3
    have hGa : GlobA w.heap.size wa := ⟨hG.out.step hBa (Nat.le_refl _)⟩
    have hsz := hBa.size
    rw [hh] at hmade box3 ⊢
    rw [hg] at hmade ⊢
    have xa : wa.cell? ⟨h, 0, none⟩ = some (.slice A l.length c) := blk_cell box3 0
    replace box3 := Aside0.mk box3
    replace hg := Aside0.mk hg
    clear hB0 hB1 hB2 hB3 hhas hc0 box xw
    have hput := Aside0.mk (fun b (hb : b = wa.heap.size) => wput1 hb ⟨⟨_, hmade⟩⟩ (n := (l.length : Int)) (by omega) (by omega) (by simp))
    go_wp2_with (go_at_call 22; ((with_reducible refine (hput.out _ ?_).mono ?_); (first | rfl | (simp; done)); rintro e w' ⟨rfl, hW1, hK1⟩; have x0' : w'.cell? ⟨h, 0, none⟩ = some (.slice A l.length c) := blk_cell (hK1.out.blk box3.out (by decide)) 0))
    have hneg : negB (l.length : Int) = false := decide_eq_false (by omega)
    obtain ⟨b0, hb0⟩ : ∃ b, Aside0 (putL (l.length : Int) = b) := ⟨_, ⟨rfl⟩⟩
    have hb0l : b0.length ≤ 10 := by have := putL_len (l.length : Int); rw [← hb0.out]; omega
    rw [hneg, Bool.or_false, List.nil_append, hb0.out] at hW1
    clear hput hneg hmade x0'
    have hh' := Aside0.mk hh
    rw [← hh] at hW1 hK1
    clear hh
    go_loopw [33] (fun i W => ∃ (k : Nat) (bk : List Int) (mk : Bool), k ≤ l.length ∧ i = .int .i64 k ∧ bk.length ≤ 10 + 150000000 * k ∧ Aside0 (mk = (l.take k).any fBad) ∧ Aside0 (mk = false → bk = b0 ++ (l.take k).flatMap fnL) ∧ IsWA w.heap.size W g bk mk ∧ Aside0 (KT WT w.heap.size wa W)) (fun i _ => l.length - (intOf i).toNat)
    case atStart => exact ⟨0, b0, false, by omega, rfl, by omega, ⟨by simp⟩, ⟨by simp⟩, hW1, hK1⟩
    case round =>
      clear hW1 hK1
      obtain ⟨k, bk, mk, hk, rfl, hbl, hmk, hbk, hW1, hK1⟩ := hrel
      have hBr : Bel w wr := hK1.out.bel hBa
      by_cases hlt : k < l.length
      · obtain ⟨ad, A0, A1, A4, c0, c1, c4, rfl, h0, h1', h2', h3, h4, hR0, hR1, hR4, hc0, hc1, hc4⟩ := func_at HR k hlt
        replace h0 := Bel.cell hBr h0
        replace h1' := Bel.cell hBr h1'
        replace h2' := Bel.cell hBr h2'
        replace h3 := Bel.cell hBr h3
        replace h4 := Bel.cell hBr h4
        have hok := Aside0.mk ((hin.out l[k] (List.getElem_mem hlt)).ok (hco.out l[k] (List.getElem_mem hlt)))
        have hfb := Aside0.mk (fb_snoc hlt)
        have hfl := Aside0.mk (fl_snoc hlt)
        obtain ⟨x, hx⟩ : ∃ x, Aside0 (l[k] = x) := ⟨_, ⟨rfl⟩⟩
        rw [hx.out] at h0 h1' h2' h3 h4 hR0 hR1 hR4 hc0 hc1 hc4 hok hfb hfl
        obtain ⟨v1, hv1⟩ := hW1.out
        have hbw := hv1.lt
        have hfn := Aside0.mk (fun W (q : Bel wr W) => wfn_any x A0 A1 A4 c0 c1 c4 w g bk mk W ⟨hGa.out.below (hK1.out.trans (KT.of_bel q hbw WT)).below⟩ ⟨⟨v1, hv1.step q⟩⟩ (hBr.trans q) hok hR0 hR1 hR4 (by omega))
        unfold funcV at hfn
        replace hv1 := Aside0.mk hv1
        have hm0 := hR0.len
        have hm1 := hR1.len
        have hm4 := hR4.len
        clear hR0 hR1 hR4
        go_wp2_with (go_at_call 23; ((with_reducible refine (hfn.out _ ((Bel.refl wr).alloc _)).mono ?_); rintro e w' ⟨rfl, hW2, hK2⟩))
        go_roundw
        case rel =>
          refine ⟨k + 1, fnOutL x bk, fnOutB x mk, by omega, by go_num, ?_, ⟨by rw [hfb.out, ← hmk.out]; rfl⟩, ⟨fun hf => ?_⟩, hW2, ⟨(hK1.out.trans (KT.of_bel ((Bel.refl wr).alloc _) hbw WT)).trans hK2.out⟩⟩
          · have := fnL_len hok.out
            unfold fnOutL
            split
            · rw [List.length_append]; omega
            · omega
          · unfold fnOutB at hf
            rw [Bool.or_eq_false_iff, Bool.or_eq_false_iff] at hf
            rw [hfl.out, ← List.append_assoc, ← hbk.out hf.1, fnOutL, if_pos (by simpa using hf.2.1)]
        case measure => simp [intOf]; omega
      · obtain ⟨v1, hv1⟩ := hW1.out
        have c0 : wr.cell? ⟨g, 0, none⟩ = some v1 := blk_cell hv1.blk 0
        have c1 : wr.cell? ⟨g, 1, none⟩ = some (.bool mk) := blk_cell hv1.blk 1
        replace hv1 := Aside0.mk hv1
        have htk : l.take k = l := List.take_of_length_le (by omega)
        rw [htk] at hmk hbk
        cases mk with
        | true =>
          have e1 : encE l = 1 := by unfold encE; rw [if_neg (by rw [hlb.out]; decide), if_pos hmk.out.symm]
          have e2 : encL l = [] := by unfold encL; rw [e1]; rfl
          replace e1 := Aside0.mk e1
          replace e2 := Aside0.mk e2
          go_wp2
          go_ret2
          rw [e1.out, e2.out]
          exact ⟨_, rfl, Own.nil _ _ _ _, hBr⟩
        | false =>
          have e1 : encE l = 0 := by unfold encE; rw [if_neg (by rw [hlb.out]; decide), if_neg (by rw [← hmk.out]; decide)]
          have e2 : encL l = bk := by unfold encL; rw [e1, if_pos rfl, hbk.out rfl, hb0.out]
          replace e1 := Aside0.mk e1
          replace e2 := Aside0.mk e2
          go_wp2
          go_ret2
          rw [e1.out, e2.out]
          exact ⟨_, rfl, hv1.out.own, hBr⟩
end Go.Proofs.YtijdmnjkiiemlaaDoor.H
