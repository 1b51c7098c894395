/- Layer 3, walks: the writer lays an instruction. -/
import Derived.Test.YtijdmnjkiiemlaaDoorCw4
namespace Go.Proofs.YtijdmnjkiiemlaaDoor.H
open Go.RowKit Go.Proofs.YtijdmnjkiiemlaaDoorW.PrintWords Go.Proofs.YtijdmnjkiiemlaaDoorW.PrintLast
set_option linter.unusedVariables false
set_option linter.unusedSimpArgs false

/-- one number that was just laid down, put -/
theorem wput1 {base g b : Nat} {bs : List Int} {bad : Bool} {W : World} {n : Int} (hb : b = W.heap.size) (hW : IsWA base W g bs bad) (h0 : -9223372036854775808 ≤ n) (h1 : n ≤ 9223372036854775807) (hbs : bs.length ≤ 1000000000000) :
    Calls Tryd.prog 22 #[.pointer (some ⟨g, 0, none⟩), .slice (some ⟨b, 0, none⟩) 1 1] (W.alloc (.cells #[.int .i64 n] 3)) fun e w' => e = .returned (.tuple #[]) ∧ IsWA base w' g (bs ++ putL n) (bad || negB n) ∧ Aside0 (KT WT base W w') := by
  subst hb
  obtain ⟨v, hv⟩ := hW.out
  have hB : Bel W (W.alloc (.cells #[.int .i64 n] 3)) := (Bel.refl W).alloc _
  have hO : OwnAt (Kd.int .i64) 3 W.heap.size (W.alloc (.cells #[.int .i64 n] 3)) (.slice (some ⟨W.heap.size, 0, none⟩) 1 1) [n] := Own.lit .i64 3 (Bel.refl W) [n] (by simp)
  have := wput_any (some ⟨W.heap.size, 0, none⟩) 1 [n] base g bs bad (W.alloc (.cells #[.int .i64 n] 3)) ⟨⟨v, hv.step hB⟩⟩ (RdK.own hO (by decide) base) ⟨by intro x hx; rw [List.mem_singleton.1 hx]; exact ⟨h0, h1⟩⟩ (by simp; omega)
  refine this.mono fun e w' h => ⟨h.1, ?_, ⟨(KT.of_bel hB hv.lt WT).trans h.2.2.out⟩⟩
  have h2 := h.2.1
  rwa [show listL [n] = putL n by simp [listL], show [n].any negB = negB n by simp] at h2

/-- what a letter lays -/
def letL (x : SIns) (c : Int) : List Int := if c = 110 then digs 9 (zz x.f4) else if c = 76 then putL (x.f6.length : Int) ++ listL x.f6 else putL (fld x c)
def letBad (x : SIns) (c : Int) : Bool := if c = 110 then false else if c = 76 then x.f6.any negB else negB (fld x c)
def insL (x : SIns) : List Int := putL x.f0 ++ (partsL x.f0).flatMap (letL x)
def insBad (x : SIns) : Bool := ((partsL x.f0).isEmpty || !bareB x) || (negB x.f0 || (partsL x.f0).any (letBad x))
theorem flat_snoc {l : List Int} {k : Nat} (h : k < l.length) (x : SIns) : (l.take (k + 1)).flatMap (letL x) = (l.take k).flatMap (letL x) ++ letL x (rd l (k : Int)) := by rw [take_snoc' l k h, List.flatMap_append]; simp
theorem any_snoc {l : List Int} {k : Nat} (h : k < l.length) (p : Int → Bool) : (l.take (k + 1)).any p = ((l.take k).any p || p (rd l (k : Int))) := by rw [take_snoc' l k h, List.any_append]; simp
/-- an instruction's numbers are ints; its arguments aren't too many to be looked at -/
structure InsOk (x : SIns) : Prop where
  f0 : -9223372036854775808 ≤ x.f0 ∧ x.f0 ≤ 9223372036854775807
  f1 : -9223372036854775808 ≤ x.f1 ∧ x.f1 ≤ 9223372036854775807
  f2 : -9223372036854775808 ≤ x.f2 ∧ x.f2 ≤ 9223372036854775807
  f3 : -9223372036854775808 ≤ x.f3 ∧ x.f3 ≤ 9223372036854775807
  f4 : -9223372036854775808 ≤ x.f4 ∧ x.f4 ≤ 9223372036854775807
  f5 : -9223372036854775808 ≤ x.f5 ∧ x.f5 ≤ 9223372036854775807
  f6 : ∀ a ∈ x.f6, -9223372036854775808 ≤ a ∧ a ≤ 9223372036854775807
  len : x.f6.length ≤ 3000
theorem fld_ok {x : SIns} (h : InsOk x) (c : Int) : -9223372036854775808 ≤ fld x c ∧ fld x c ≤ 9223372036854775807 := by
  unfold fld
  (repeat' split)
  · exact h.f1
  · exact h.f2
  · exact h.f3
  · exact h.f5
  · exact h.f4
theorem letL_len {x : SIns} (h : InsOk x) (c : Int) : (letL x c).length ≤ 30010 := by
  unfold letL
  have h1 := digs_len 9 (zz x.f4)
  have h2 := putL_len (x.f6.length : Int)
  have h3 := listL_len x.f6
  have h4 := putL_len (fld x c)
  have h5 := h.len
  (repeat' split)
  · omega
  · rw [List.length_append]; omega
  · omega

set_option maxHeartbeats 8000000 in
theorem wins_any (x : SIns) (A : Option Addr) (c : Nat) (base g : Nat) (bs : List Int) (bad : Bool) (w : World) (hG : GlobA base w) (hW : IsWA base w g bs bad) (hx : Aside0 (InsOk x)) (hA : RdK (Kd.int .i64) WT base w A x.f6) (hbs : bs.length ≤ 100000000000) :
    Calls Tryd.prog 44 #[.pointer (some ⟨g, 0, none⟩), insV x A c] w fun e w' => e = .returned (.tuple #[]) ∧ IsWA base w' g (bs ++ insL x) (bad || insBad x) ∧ Aside0 (KT WT base w w') := by
  obtain ⟨s, l, hT, hl3⟩ := txt x.f0
  have hsz := hT.sz
  replace hT := Aside0.mk hT
  have hlen := hx.out.len
  obtain ⟨v, hv⟩ := hW.out
  replace hv := Aside0.mk hv
  have hbw := hv.out.lt
  unfold insV
  have hB0 : Bel w (w.alloc (.cells #[.int .i64 x.f0, .int .i64 x.f1, .int .i64 x.f2, .int .i64 x.f3, .int .i64 x.f4, .int .i64 x.f5, .slice A x.f6.length c] 45)) := (Bel.refl w).alloc _
  have box : (w.alloc (.cells #[.int .i64 x.f0, .int .i64 x.f1, .int .i64 x.f2, .int .i64 x.f3, .int .i64 x.f4, .int .i64 x.f5, .slice A x.f6.length c] 45)).heap[w.heap.size]? = some (.cells (insC x (.slice A x.f6.length c)) 45 (0, 0)) := heap_alloc_new w _
  go_enter Tryd.func44, Tryd.ntmps44
  go_upto_region 1 with (fail)
  generalize w.alloc (.cells #[.int .i64 x.f0, .int .i64 x.f1, .int .i64 x.f2, .int .i64 x.f3, .int .i64 x.f4, .int .i64 x.f5, .slice A x.f6.length c] 45) = wa at hB0 box ⊢
  have hva := Aside0.mk (hv.out.step hB0)
  have hGa : GlobA base wa := ⟨hG.out.step hB0 hbw⟩
  have hAa := hA.step hB0 hbw
  have hKa : KT WT base w wa := KT.of_bel hB0 hbw WT
  have hba := hva.out.lt
  obtain ⟨h, hh⟩ : ∃ h, w.heap.size = h := ⟨_, rfl⟩
  rw [hh] at box ⊢
  replace hh := Aside0.mk hh
  clear hv hG hA hB0 hW hbw
  have c1 : wa.cell? ⟨g, 1, none⟩ = some (.bool bad) := blk_cell hva.out.blk 1
  have f1 := blk_frozen hva.out.blk 1
  have x0 : wa.cell? ⟨h, 0, none⟩ = some (.int .i64 x.f0) := blk_cell box 0
  have x1 : wa.cell? ⟨h, 1, none⟩ = some (.int .i64 x.f1) := blk_cell box 1
  have x2 : wa.cell? ⟨h, 2, none⟩ = some (.int .i64 x.f2) := blk_cell box 2
  have x3 : wa.cell? ⟨h, 3, none⟩ = some (.int .i64 x.f3) := blk_cell box 3
  have x4 : wa.cell? ⟨h, 4, none⟩ = some (.int .i64 x.f4) := blk_cell box 4
  have x5 : wa.cell? ⟨h, 5, none⟩ = some (.int .i64 x.f5) := blk_cell box 5
  have x6 : wa.cell? ⟨h, 6, none⟩ = some (.slice A x.f6.length c) := blk_cell box 6
  replace box := Aside0.mk box
  go_cut [20] (fun _ W => ∃ v, Aside0 (IsW base W g bs (bad || ((partsL x.f0).isEmpty || !bareB x)) v ∧ KT WT base wa W))
  case first =>
    have hbare := Aside0.mk (fun W (k : Bel wa W) => bare_any x A c base W (by omega) ⟨hGa.out.step k hba⟩ (Nat.le_trans hba k.size))
    unfold insV at hbare
    cases bad with
    | true =>
      go_wp2
      go_meet
      case rel => exact ⟨v, ⟨(hva.out.setM true).1, (hva.out.setM true).2⟩⟩
    | false =>
      by_cases hl0 : l = []
      · have e1 : s.toList = [] := by rw [ByteArray.toList_eq]; exact List.eq_nil_of_length_eq_zero (by rw [data_length, hsz, hl0]; rfl)
        have e2 : s.toList.isEmpty = true := by rw [e1]; rfl
        have hv2 : Aside0 ((partsL x.f0).isEmpty = true) := ⟨by rw [hT.out.is, hl0]; rfl⟩
        go_wp2_with (go_at_call 17; ((with_reducible refine (Parts_txt hT.out hGa).mono ?_); rintro e w' ⟨rfl, rfl⟩))
        go_meet
        case rel => exact ⟨v, ⟨by rw [hv2.out]; exact (hva.out.setM true).1, (hva.out.setM true).2⟩⟩
      · have e1 : ¬ s.toList = [] := by rw [ByteArray.toList_eq]; intro e; have := data_length s; rw [e, hsz] at this; exact hl0 (List.eq_nil_of_length_eq_zero this.symm)
        have e2 : s.toList.isEmpty = false := by simpa using e1
        have hv2 : Aside0 ((partsL x.f0).isEmpty = false) := ⟨by rw [hT.out.is]; simpa using hl0⟩
        cases hbb : bareB x with
        | true =>
          rw [hbb] at hbare
          replace hbb := Aside0.mk hbb
          go_wp2_with (first | (go_at_call 17; ((with_reducible refine (Parts_txt hT.out hGa).mono ?_); rintro e w' ⟨rfl, rfl⟩)) | (go_at_call 57; ((with_reducible refine (hbare.out _ (Bel.refl _)).mono ?_); rintro e w' ⟨rfl, hB⟩; have f1' : w'.frozen? ⟨g, 1, none⟩ = false := blk_frozen (hva.out.step hB).blk 1; have c1' : w'.cell? ⟨g, 1, none⟩ = some (.bool false) := blk_cell (hva.out.step hB).blk 1)))
          go_meet
          case rel => exact ⟨v, ⟨by rw [hv2.out, hbb.out]; exact ((hva.out.step hB).setM false).1, (KT.of_bel hB hba WT).trans ((hva.out.step hB).setM false).2⟩⟩
        | false =>
          rw [hbb] at hbare
          replace hbb := Aside0.mk hbb
          go_wp2_with (first | (go_at_call 17; ((with_reducible refine (Parts_txt hT.out hGa).mono ?_); rintro e w' ⟨rfl, rfl⟩)) | (go_at_call 57; ((with_reducible refine (hbare.out _ (Bel.refl _)).mono ?_); rintro e w' ⟨rfl, hB⟩; have f1' : w'.frozen? ⟨g, 1, none⟩ = false := blk_frozen (hva.out.step hB).blk 1; have c1' : w'.cell? ⟨g, 1, none⟩ = some (.bool false) := blk_cell (hva.out.step hB).blk 1)))
          go_meet
          case rel => exact ⟨v, ⟨by rw [hv2.out, hbb.out]; exact ((hva.out.step hB).setM true).1, (KT.of_bel hB hba WT).trans ((hva.out.step hB).setM true).2⟩⟩
  case rest =>
    clear c1 f1 hva
    obtain ⟨v, hcv⟩ := hcut
    have hvc := Aside0.mk hcv.out.1
    have hKc := Aside0.mk hcv.out.2
    clear hcv
    have x0 : wc.cell? ⟨h, 0, none⟩ = some (.int .i64 x.f0) := blk_cell (hKc.out.blk box.out (by decide)) 0
    have hGc : GlobA base wc := ⟨hGa.out.below hKc.out.below⟩
    obtain ⟨m0, hm0⟩ : ∃ m, Aside0 (m = (bad || ((partsL x.f0).isEmpty || !bareB x))) := ⟨_, ⟨rfl⟩⟩
    rw [← hm0.out] at hvc
    have hxf := hx.out.f0
    have hxf0 := hxf.1
    have hxf1 := hxf.2
    clear hxf
    have hput := Aside0.mk (fun b (hb : b = wc.heap.size) => wput1 hb ⟨⟨v, hvc.out⟩⟩ hxf0 hxf1 (show bs.length ≤ 1000000000000 by omega))
    go_wp2_with (first | (go_at_call 22; ((with_reducible refine (hput.out _ ?_).mono ?_); (first | rfl | (simp; done)); rintro e w' ⟨rfl, hW1, hK1⟩; have x0' : w'.cell? ⟨h, 0, none⟩ = some (.int .i64 x.f0) := blk_cell ((hKc.out.trans hK1.out).blk box.out (by decide)) 0)) | (go_at_call 17; ((with_reducible refine (Parts_txt hT.out ⟨hGc.out.below hK1.out.below⟩).mono ?_); rintro e w'' ⟨rfl, rfl⟩)))
    replace hK1 := Aside0.mk (hKc.out.trans hK1.out)
    obtain ⟨bs1, hbs1⟩ : ∃ b, Aside0 (bs ++ putL x.f0 = b) := ⟨_, ⟨rfl⟩⟩
    obtain ⟨m1, hm1⟩ : ∃ b, Aside0 ((m0 || negB x.f0) = b) := ⟨_, ⟨rfl⟩⟩
    rw [hbs1.out, hm1.out] at hW1
    have hb1 : bs1.length ≤ bs.length + 10 := by have := putL_len x.f0; rw [← hbs1.out, List.length_append]; omega
    clear hput hvc hKc x0 x0' hGc
    go_loopw [33] (fun i W => ∃ (k : Nat) (bk : List Int) (mk : Bool), k ≤ l.length ∧ i = .int .i64 k ∧ bk.length ≤ bs.length + 10 + 30010 * k ∧ Aside0 (bk = bs1 ++ (l.take k).flatMap (letL x)) ∧ Aside0 (mk = (m1 || (l.take k).any (letBad x))) ∧ IsWA base W g bk mk ∧ Aside0 (KT WT base wa W)) (fun i _ => l.length - (intOf i).toNat)
    case atStart => exact ⟨0, bs1, m1, by omega, rfl, by omega, ⟨by simp⟩, ⟨by simp⟩, hW1, hK1⟩
    case round =>
      clear hW1 hK1
      obtain ⟨k, bk, mk, hk, rfl, hbl, hbk, hmk, hW1, hK1⟩ := hrel
      have hblk := hK1.out.blk box.out (by decide)
      have y0 : wr.cell? ⟨h, 0, none⟩ = some (.int .i64 x.f0) := blk_cell hblk 0
      have y1 : wr.cell? ⟨h, 1, none⟩ = some (.int .i64 x.f1) := blk_cell hblk 1
      have y2 : wr.cell? ⟨h, 2, none⟩ = some (.int .i64 x.f2) := blk_cell hblk 2
      have y3 : wr.cell? ⟨h, 3, none⟩ = some (.int .i64 x.f3) := blk_cell hblk 3
      have y4 : wr.cell? ⟨h, 4, none⟩ = some (.int .i64 x.f4) := blk_cell hblk 4
      have y5 : wr.cell? ⟨h, 5, none⟩ = some (.int .i64 x.f5) := blk_cell hblk 5
      have y6 : wr.cell? ⟨h, 6, none⟩ = some (.slice A x.f6.length c) := blk_cell hblk 6
      replace hblk := Aside0.mk hblk
      have hGr : GlobA base wr := ⟨hGa.out.below hK1.out.below⟩
      have hAr := hAa.keep hK1.out
      by_cases hlt : k < l.length
      · have hlet := hT.out.is ▸ partsL_at x.f0 k (by rw [hT.out.is]; exact hlt)
        have hidx := fun h => hT.out.at_ k hlt h
        have hfs := flat_snoc hlt x
        have has := any_snoc hlt (letBad x)
        rcases hlet with hc | hc | hc | hc | hc | hc | hc
        · skip
          rw [hc] at hidx hfs has
          replace hc := Aside0.mk hc
          replace hfs := Aside0.mk hfs
          replace has := Aside0.mk has
          have hpl := Aside0.mk (putL_len x.f1)
          have hput := Aside0.mk (fun b (hb : b = wr.heap.size) => wput1 hb hW1 (n := x.f1) (hx.out.f1).1 (hx.out.f1).2 (show bk.length ≤ 1000000000000 by omega))
          go_wp2_with (first | (go_at_call 17; ((with_reducible refine (Parts_txt hT.out hGr).mono ?_); rintro e w' ⟨rfl, rfl⟩)) | (go_at_call 59; ((with_reducible refine (field_n _ 68 1 _ rfl).mono ?_); rintro e w' ⟨rfl, rfl⟩)) | (go_at_call 22; ((with_reducible refine (hput.out _ ?_).mono ?_); (first | rfl | (simp; done)); rintro e w' ⟨rfl, hW2, hK2⟩)))
          go_roundw
          case rel => exact ⟨k + 1, bk ++ putL x.f1, mk || negB x.f1, by omega, by go_num, by rw [List.length_append]; have := hpl.out; omega, ⟨by rw [hfs.out, ← List.append_assoc, ← hbk.out]; rfl⟩, ⟨by rw [has.out, ← Bool.or_assoc, ← hmk.out]; rfl⟩, hW2, ⟨hK1.out.trans hK2.out⟩⟩
          case measure => simp [intOf]; omega
        · skip
          rw [hc] at hidx hfs has
          replace hc := Aside0.mk hc
          replace hfs := Aside0.mk hfs
          replace has := Aside0.mk has
          have hpl := Aside0.mk (putL_len x.f2)
          have hput := Aside0.mk (fun b (hb : b = wr.heap.size) => wput1 hb hW1 (n := x.f2) (hx.out.f2).1 (hx.out.f2).2 (show bk.length ≤ 1000000000000 by omega))
          go_wp2_with (first | (go_at_call 17; ((with_reducible refine (Parts_txt hT.out hGr).mono ?_); rintro e w' ⟨rfl, rfl⟩)) | (go_at_call 59; ((with_reducible refine (field_n _ 65 2 _ rfl).mono ?_); rintro e w' ⟨rfl, rfl⟩)) | (go_at_call 22; ((with_reducible refine (hput.out _ ?_).mono ?_); (first | rfl | (simp; done)); rintro e w' ⟨rfl, hW2, hK2⟩)))
          go_roundw
          case rel => exact ⟨k + 1, bk ++ putL x.f2, mk || negB x.f2, by omega, by go_num, by rw [List.length_append]; have := hpl.out; omega, ⟨by rw [hfs.out, ← List.append_assoc, ← hbk.out]; rfl⟩, ⟨by rw [has.out, ← Bool.or_assoc, ← hmk.out]; rfl⟩, hW2, ⟨hK1.out.trans hK2.out⟩⟩
          case measure => simp [intOf]; omega
        · skip
          rw [hc] at hidx hfs has
          replace hc := Aside0.mk hc
          replace hfs := Aside0.mk hfs
          replace has := Aside0.mk has
          have hpl := Aside0.mk (putL_len x.f3)
          have hput := Aside0.mk (fun b (hb : b = wr.heap.size) => wput1 hb hW1 (n := x.f3) (hx.out.f3).1 (hx.out.f3).2 (show bk.length ≤ 1000000000000 by omega))
          go_wp2_with (first | (go_at_call 17; ((with_reducible refine (Parts_txt hT.out hGr).mono ?_); rintro e w' ⟨rfl, rfl⟩)) | (go_at_call 59; ((with_reducible refine (field_n _ 66 3 _ rfl).mono ?_); rintro e w' ⟨rfl, rfl⟩)) | (go_at_call 22; ((with_reducible refine (hput.out _ ?_).mono ?_); (first | rfl | (simp; done)); rintro e w' ⟨rfl, hW2, hK2⟩)))
          go_roundw
          case rel => exact ⟨k + 1, bk ++ putL x.f3, mk || negB x.f3, by omega, by go_num, by rw [List.length_append]; have := hpl.out; omega, ⟨by rw [hfs.out, ← List.append_assoc, ← hbk.out]; rfl⟩, ⟨by rw [has.out, ← Bool.or_assoc, ← hmk.out]; rfl⟩, hW2, ⟨hK1.out.trans hK2.out⟩⟩
          case measure => simp [intOf]; omega
        · skip
          rw [hc] at hidx hfs has
          replace hc := Aside0.mk hc
          replace hfs := Aside0.mk hfs
          replace has := Aside0.mk has
          have hpl := Aside0.mk (putL_len x.f5)
          have hput := Aside0.mk (fun b (hb : b = wr.heap.size) => wput1 hb hW1 (n := x.f5) (hx.out.f5).1 (hx.out.f5).2 (show bk.length ≤ 1000000000000 by omega))
          go_wp2_with (first | (go_at_call 17; ((with_reducible refine (Parts_txt hT.out hGr).mono ?_); rintro e w' ⟨rfl, rfl⟩)) | (go_at_call 59; ((with_reducible refine (field_n _ 77 5 _ rfl).mono ?_); rintro e w' ⟨rfl, rfl⟩)) | (go_at_call 22; ((with_reducible refine (hput.out _ ?_).mono ?_); (first | rfl | (simp; done)); rintro e w' ⟨rfl, hW2, hK2⟩)))
          go_roundw
          case rel => exact ⟨k + 1, bk ++ putL x.f5, mk || negB x.f5, by omega, by go_num, by rw [List.length_append]; have := hpl.out; omega, ⟨by rw [hfs.out, ← List.append_assoc, ← hbk.out]; rfl⟩, ⟨by rw [has.out, ← Bool.or_assoc, ← hmk.out]; rfl⟩, hW2, ⟨hK1.out.trans hK2.out⟩⟩
          case measure => simp [intOf]; omega
        · skip
          rw [hc] at hidx hfs has
          replace hc := Aside0.mk hc
          replace hfs := Aside0.mk hfs
          replace has := Aside0.mk has
          have hpl := Aside0.mk (putL_len x.f4)
          have hput := Aside0.mk (fun b (hb : b = wr.heap.size) => wput1 hb hW1 (n := x.f4) (hx.out.f4).1 (hx.out.f4).2 (show bk.length ≤ 1000000000000 by omega))
          go_wp2_with (first | (go_at_call 17; ((with_reducible refine (Parts_txt hT.out hGr).mono ?_); rintro e w' ⟨rfl, rfl⟩)) | (go_at_call 59; ((with_reducible refine (field_n _ 78 4 _ rfl).mono ?_); rintro e w' ⟨rfl, rfl⟩)) | (go_at_call 22; ((with_reducible refine (hput.out _ ?_).mono ?_); (first | rfl | (simp; done)); rintro e w' ⟨rfl, hW2, hK2⟩)))
          go_roundw
          case rel => exact ⟨k + 1, bk ++ putL x.f4, mk || negB x.f4, by omega, by go_num, by rw [List.length_append]; have := hpl.out; omega, ⟨by rw [hfs.out, ← List.append_assoc, ← hbk.out]; rfl⟩, ⟨by rw [has.out, ← Bool.or_assoc, ← hmk.out]; rfl⟩, hW2, ⟨hK1.out.trans hK2.out⟩⟩
          case measure => simp [intOf]; omega
        · -- a signed number
          rw [hc] at hidx hfs has
          replace hc := Aside0.mk hc
          replace hfs := Aside0.mk hfs
          replace has := Aside0.mk has
          obtain ⟨v, hv⟩ := hW1.out
          obtain ⟨A2, c2, rfl, hc2, hD⟩ := hv.own.reads
          replace hv := Aside0.mk hv
          have c0 : wr.cell? ⟨g, 0, none⟩ = some (.slice A2 bk.length c2) := blk_cell hv.out.blk 0
          have hgl := blk_lt hv.out.blk
          have hll := Aside0.mk (digs_len 9 (zz x.f4))
          have o4 := Aside0.mk hx.out.f4
          go_wp2_with (go_at_call 17; ((with_reducible refine (Parts_txt hT.out hGr).mono ?_); rintro e w' ⟨rfl, rfl⟩))
          go_region_law (refine goes_ (f := 58) Tryd.func58 (by kernel_rfl) rfl #[.slice A2 bk.length c2, .int .i64 x.f4] rfl rfl rfl (by simp only [List.map_toArray, List.map_cons, List.map_nil]; rfl) ?_; refine (PutSigned_any A2 c2 bk x.f4 _ hc2 hD.nil_of (hD.drewN 1) (by omega) o4.out.1 o4.out.2).mono ?_; rintro e w' ⟨v2, rfl, hR, hB⟩; obtain ⟨A3, c3, rfl, _, _⟩ := hR.reads; refine ⟨_, rfl, ?_⟩; have f0' : w'.frozen? ⟨g, 0, none⟩ = false := blk_frozen ((hB.out.block g hgl).trans hv.out.blk) 0; have c0' : w'.cell? ⟨g, 0, none⟩ = some (.slice A2 bk.length c2) := blk_cell ((hB.out.block g hgl).trans hv.out.blk) 0)
          all_goals
            have hs := hv.out.setB (KT.of_bel (((Bel.refl wr).drewN 1).trans hB) hv.out.lt [5]) (OwnAt.of_own hR hv.out.lt)
            rw [List.length_append] at hs
            replace hs := Aside0.mk hs
            go_wp2
            go_roundw
            case rel => exact ⟨k + 1, bk ++ digs 9 (zz x.f4), mk, by omega, by go_num, by rw [List.length_append]; have := hll.out; omega, ⟨by rw [hfs.out, ← List.append_assoc, ← hbk.out]; rfl⟩, ⟨by rw [has.out, ← Bool.or_assoc, ← hmk.out, show letBad x 110 = false from rfl, Bool.or_false]⟩, ⟨_, hs.out.1⟩, ⟨hK1.out.trans hs.out.2⟩⟩
            case measure => simp [intOf]; omega
        · -- the arguments
          rw [hc] at hidx hfs has
          replace hc := Aside0.mk hc
          replace hfs := Aside0.mk hfs
          replace has := Aside0.mk has
          have hll := Aside0.mk (listL_len x.f6)
          have hpl := Aside0.mk (putL_len (x.f6.length : Int))
          have hput := Aside0.mk (fun b (hb : b = wr.heap.size) => wput1 hb hW1 (n := (x.f6.length : Int)) (by omega) (by omega) (show bk.length ≤ 1000000000000 by omega))
          go_wp2_with (first | (go_at_call 17; ((with_reducible refine (Parts_txt hT.out hGr).mono ?_); rintro e w' ⟨rfl, rfl⟩)) | (go_at_call 22; ((with_reducible refine (hput.out _ ?_).mono ?_); (first | rfl | (simp; done)); rintro e w' ⟨rfl, hW2, hK2⟩; have z6 : w'.cell? ⟨h, 6, none⟩ = some (.slice A x.f6.length c) := blk_cell (hK2.out.blk hblk.out (by decide)) 6)) | (go_at_call 22; ((with_reducible refine (wput_any A c x.f6 base g _ _ _ hW2 (hAr.keep hK2.out) ⟨hx.out.f6⟩ ?_).mono ?_); (have := hpl.out; rw [List.length_append]; omega); rintro e w'' ⟨rfl, hW3, hK3⟩)))
          go_roundw
          case rel => exact ⟨k + 1, bk ++ putL (x.f6.length : Int) ++ listL x.f6, mk || negB (x.f6.length : Int) || x.f6.any negB, by omega, by go_num, by rw [List.length_append, List.length_append]; have := hll.out; have := hpl.out; omega, ⟨by rw [hfs.out, ← List.append_assoc, ← hbk.out, show letL x 76 = putL (x.f6.length : Int) ++ listL x.f6 from rfl, List.append_assoc]⟩, ⟨by rw [has.out, ← Bool.or_assoc, ← hmk.out, show letBad x 76 = x.f6.any negB from rfl, show negB (x.f6.length : Int) = false from decide_eq_false (by omega), Bool.or_false]⟩, hW3, ⟨(hK1.out.trans hK2.out).trans hK3.out⟩⟩
          case measure => simp [intOf]; omega
      · go_wp2
        go_end0
        have e1 : bk = bs ++ insL x := by rw [hbk.out, ← hbs1.out, List.take_of_length_le (by omega), insL, hT.out.is, List.append_assoc]
        have e2 : mk = (bad || insBad x) := by rw [hmk.out, ← hm1.out, hm0.out, List.take_of_length_le (by omega), insBad, hT.out.is]; simp only [Bool.or_assoc]
        exact ⟨rfl, by rw [← e1, ← e2]; exact hW1, ⟨hKa.trans hK1.out⟩⟩
end Go.Proofs.YtijdmnjkiiemlaaDoor.H
