/- Layer 3, the reference: the writer lays an instruction. -/
import Derived.Test.YtijdmnjkiiemlaaDoorRe3
import Derived.Test.YtijdmnjkiiemlaaDoorCw5
import Derived.Test.YtijdmnjkiiemlaaDoorCc3
import Derived.BigQuiet
import Derived.Deep.RegionHeld3
namespace Go.Proofs.YtijdmnjkiiemlaaDoor.H
open Go.RowKit Go.Proofs.YtijdmnjkiiemlaaDoorW.PrintWords Go.Proofs.YtijdmnjkiiemlaaDoorW.PrintLast
set_option linter.unusedVariables false
set_option linter.unusedSimpArgs false

/-- nothing stands in a field of this letter, unless the letter is a part -/
def chk (x : SIns) (c : Int) : Bool := hasB (partsL x.f0) c || fld x c == 0
def chkN (x : SIns) : Bool := (hasB (partsL x.f0) 78 || hasB (partsL x.f0) 110) || x.f4 == 0
def chkL (x : SIns) : Bool := hasB (partsL x.f0) 76 || decide (x.f6.length = 0)
theorem bare_chk (x : SIns) (hp : partsL x.f0 ≠ []) : bareB x = ((((chk x 68 && chk x 65) && chk x 66) && chk x 77) && (chkN x && chkL x)) := by
  obtain ⟨f0, f1, f2, f3, f4, f5, f6⟩ := x
  simp only at hp
  have h76 : partsL 19 = [68, 78, 76] := by decide +kernel
  rcases parts_cases f0 with h | ⟨_, _, ⟨_, h | h | h | h | h | h | h | h | h | h | h | h⟩ | rfl⟩
  · exact absurd h hp
  all_goals first | rw [Bool.eq_iff_iff] | skip
  all_goals first | simp [bareB, bareL, chk, chkN, chkL, hasB, clr, fld, h] | simp [bareB, bareL, chk, chkN, chkL, hasB, clr, fld, h76]
  all_goals first | done | (constructor <;> (intro q; simp_all))
/-- the mark, behind so many letters of DABM -/
def dabm (x : SIns) : Nat → Bool
  | 0 => true
  | 1 => chk x 68
  | 2 => chk x 68 && chk x 65
  | 3 => (chk x 68 && chk x 65) && chk x 66
  | _ => ((chk x 68 && chk x 65) && chk x 66) && chk x 77

set_option maxRecDepth 100000
set_option maxHeartbeats 8000000 in
theorem vins_any (x : SIns) (A : Option Addr) (c : Nat) (base g : Nat) (bs : List Int) (ok : Bool) (w : World) (hV : IsVA base w g bs ok) (hx : Aside0 (InsOk x)) (hA : ∀ W, KT VT base w W → RdI W A x.f6) (hbs : bs.length ≤ 10000000000) :
    Calls Tryd.prog 26 #[.pointer (some ⟨g, 0, none⟩), insV x A c] w fun e w' => ∃ bs', e = .returned (.tuple #[]) ∧ IsVA base w' g bs' (ok && !insBad x) ∧ Aside0 ((ok && !insBad x) = true → bs' = bs ++ insL x) ∧ Aside0 (KT VT base w w') ∧ bs'.length ≤ bs.length + 100000 := by
  obtain ⟨s, l, hT, hl3⟩ := txt x.f0
  have hsz := hT.sz
  have hil := insL_len hx.out
  replace hT := Aside0.mk hT
  have hlen := hx.out.len
  obtain ⟨v, hv⟩ := hV.out
  have hbw := hv.lt
  replace hv := Aside0.mk hv
  unfold insV
  have hB0 : Bel w (w.alloc (.cells #[.int .i64 x.f0, .int .i64 x.f1, .int .i64 x.f2, .int .i64 x.f3, .int .i64 x.f4, .int .i64 x.f5, .slice A x.f6.length c] 45)) := (Bel.refl w).alloc _
  have box : (w.alloc (.cells #[.int .i64 x.f0, .int .i64 x.f1, .int .i64 x.f2, .int .i64 x.f3, .int .i64 x.f4, .int .i64 x.f5, .slice A x.f6.length c] 45)).heap[w.heap.size]? = some (.cells (insC x (.slice A x.f6.length c)) 45 (0, 0)) := heap_alloc_new w _
  go_enter Tryd.func26, Tryd.ntmps26
  go_upto_region 1 with (fail)
  generalize w.alloc (.cells #[.int .i64 x.f0, .int .i64 x.f1, .int .i64 x.f2, .int .i64 x.f3, .int .i64 x.f4, .int .i64 x.f5, .slice A x.f6.length c] 45) = wa at hB0 box ⊢
  have hva := Aside0.mk (hv.out.keep hB0)
  have hKa := KT.of_bel hB0 hbw VT
  obtain ⟨h, hh⟩ : ∃ h, w.heap.size = h := ⟨_, rfl⟩
  rw [hh] at box ⊢
  replace hh := Aside0.mk hh
  have c1 : wa.cell? ⟨g, 1, none⟩ = some (.bool ok) := blk_cell hva.out.blk 1
  have f1 := blk_frozen hva.out.blk 1
  have x0 : wa.cell? ⟨h, 0, none⟩ = some (.int .i64 x.f0) := blk_cell box 0
  by_cases hl0 : l = []
  · have e1 : s.toList = [] := by rw [ByteArray.toList_eq]; exact List.eq_nil_of_length_eq_zero (by rw [data_length, hsz, hl0]; rfl)
    have e2 : s.toList.isEmpty = true := by rw [e1]; rfl
    have hb : Aside0 (insBad x = true) := ⟨by unfold insBad; rw [hT.out.is, hl0]; rfl⟩
    have hs := Aside0.mk (hva.out.setM false)
    replace hl0 := Aside0.mk hl0
    replace hKa := Aside0.mk hKa
    replace box := Aside0.mk box
    go_wp2_with (go_at_call 18; ((with_reducible refine (refParts_txt hT.out).mono ?_); rintro e w' ⟨rfl, rfl⟩))
    exact bodyPost_ret (v := .tuple #[]) (by simp [results, Tryd.results26, go_sem]) rfl ⟨bs, rfl, ⟨⟨_, by rw [hb.out]; simpa using hs.out.1⟩⟩, ⟨by rw [hb.out]; simp⟩, ⟨hKa.out.trans hs.out.2⟩, by omega⟩
  have e1 : ¬ s.toList = [] := by rw [ByteArray.toList_eq]; intro e; have := data_length s; rw [e, hsz] at this; exact hl0 (List.eq_nil_of_length_eq_zero this.symm)
  have e2 : s.toList.isEmpty = false := by simpa using e1
  have hp : partsL x.f0 ≠ [] := by rw [hT.out.is]; exact hl0
  have hfin : Aside0 ((!insBad x) = ((!(negB x.f0 || l.any (letBad x))) && (dabm x 4 && (chkN x && chkL x)))) := ⟨by
    unfold insBad dabm
    rw [bare_chk x hp, hT.out.is]
    cases l with
    | nil => exact absurd rfl hl0
    | cons a l => simp [Bool.and_comm, Bool.and_assoc, Bool.and_left_comm]⟩
  replace hl0 := Aside0.mk hl0
  replace hp := Aside0.mk hp
  replace hKa := Aside0.mk hKa
  have hnum := Aside0.mk (vnum_any x.f0 base g bs ok wa ⟨⟨v, hva.out⟩⟩ hx.out.f0.2 (by omega))
  replace box := Aside0.mk box
  go_upto_region 5 with (first | (go_at_call 18; ((with_reducible refine (refParts_txt hT.out).mono ?_); rintro e w' ⟨rfl, rfl⟩)) | (go_at_call 25; ((with_reducible refine hnum.out.mono ?_); rintro e w1 ⟨rfl, hV1, hK1⟩)))
  obtain ⟨b1, hb1⟩ : ∃ y, Aside0 (bs ++ putL x.f0 = y) := ⟨_, ⟨rfl⟩⟩
  obtain ⟨o1, ho1⟩ : ∃ y, Aside0 ((ok && !negB x.f0) = y) := ⟨_, ⟨rfl⟩⟩
  have hb1l : b1.length ≤ 10000000010 := by have := putL_len x.f0; rw [← hb1.out, List.length_append]; omega
  rw [hb1.out, ho1.out] at hV1
  have hbox := Aside0.mk (fun W (k : KT VT base wa W) => k.blk box.out (by decide))
  have hAW := Aside0.mk (fun W (k : KT VT base wa W) => hA W (hKa.out.trans k))
  clear hnum x0 c1 f1
  go_wp2
  go_loopw [5] (fun i W => ∃ k : Nat, k ≤ l.length ∧ i = .int .i64 k ∧ IsVA base W g (b1 ++ (l.take k).flatMap (letL x)) (o1 && !(l.take k).any (letBad x)) ∧ Aside0 (KT VT base wa W)) (fun i _ => l.length - (intOf i).toNat)
  case atStart => exact ⟨0, by omega, rfl, by simpa using hV1, hK1⟩
  case round =>
    clear hV1 hK1
    obtain ⟨k, hk, rfl, hVk, hKk⟩ := hrel
    by_cases hlt : k < l.length
    · have hlet := hT.out.is ▸ partsL_at x.f0 k (by rw [hT.out.is]; exact hlt)
      have hidx := fun h => hT.out.at_ k hlt h
      have hfs := Aside0.mk (flat_snoc hlt x)
      have has := Aside0.mk (any_snoc hlt (letBad x))
      have hbl : (b1 ++ (l.take k).flatMap (letL x)).length ≤ 10000100000 := by
        have h1 : ∀ m : Nat, m ≤ 3 → ((l.take m).flatMap (letL x)).length ≤ 30010 * m := by
          intro m
          induction m with
          | zero => intro _; simp
          | succ m ih =>
            intro hm
            by_cases hml : m < l.length
            · rw [flat_snoc hml x, List.length_append]
              have := ih (by omega)
              have := letL_len hx.out (rd l (m : Int))
              omega
            · rw [List.take_of_length_le (by omega)]
              have := ih (by omega)
              rw [List.take_of_length_le (by omega)] at this
              omega
        have := h1 k (by omega)
        rw [List.length_append]
        omega
      have hbx := hbox.out wr hKk.out
      have y0 : wr.cell? ⟨h, 0, none⟩ = some (.int .i64 x.f0) := blk_cell hbx 0
      have y1 : wr.cell? ⟨h, 1, none⟩ = some (.int .i64 x.f1) := blk_cell hbx 1
      have y2 : wr.cell? ⟨h, 2, none⟩ = some (.int .i64 x.f2) := blk_cell hbx 2
      have y3 : wr.cell? ⟨h, 3, none⟩ = some (.int .i64 x.f3) := blk_cell hbx 3
      have y4 : wr.cell? ⟨h, 4, none⟩ = some (.int .i64 x.f4) := blk_cell hbx 4
      have y5 : wr.cell? ⟨h, 5, none⟩ = some (.int .i64 x.f5) := blk_cell hbx 5
      have y6 : wr.cell? ⟨h, 6, none⟩ = some (.slice A x.f6.length c) := blk_cell hbx 6
      obtain ⟨v1, hv1⟩ := hVk.out
      obtain ⟨bk, hbk⟩ : ∃ y, Aside0 (b1 ++ (l.take k).flatMap (letL x) = y) := ⟨_, ⟨rfl⟩⟩
      obtain ⟨ok1, hok1⟩ : ∃ y, Aside0 ((o1 && !(l.take k).any (letBad x)) = y) := ⟨_, ⟨rfl⟩⟩
      rw [hbk.out] at hbl
      rw [hbk.out, hok1.out] at hv1
      obtain ⟨A1, d1, rfl, hd1, hR1⟩ := hv1.own.reads
      have z0 : wr.cell? ⟨g, 0, none⟩ = some (.slice A1 bk.length d1) := blk_cell hv1.blk 0
      clear hVk
      rcases hlet with hc | hc | hc | hc | hc | hc | hc
      · skip
        rw [hc] at hidx hfs has
        replace hc := Aside0.mk hc
        rw [show letL x 68 = putL x.f1 by simp [letL, fld]] at hfs
        rw [show letBad x 68 = negB x.f1 by simp [letBad, fld]] at has
        have hfld := Aside0.mk (fun W => refField_any x A c 68 W)
        rw [show fld x 68 = x.f1 from rfl] at hfld
        unfold insV at hfld
        have hnum := Aside0.mk (fun W (q : Bel wr W) => vnum_any x.f1 base g bk ok1 W ⟨⟨_, hv1.keep q⟩⟩ (by have := fld_ok hx.out 68; exact this.2) (by omega))
        have hnext := Aside0.mk (fun W (q : IsVA base W g (bk ++ putL x.f1) (ok1 && !negB x.f1)) => (show IsVA base W g (b1 ++ (l.take (k + 1)).flatMap (letL x)) (o1 && !(l.take (k + 1)).any (letBad x)) from by rw [hfs.out, has.out, ← List.append_assoc, hbk.out, Bool.not_or, ← Bool.and_assoc, hok1.out]; exact q))
        have hbwr : base ≤ wr.heap.size := hv1.lt
        replace hv1 := Aside0.mk hv1
        go_upto_region 9 with (fail)
        go_region_law (first | (refine goes_ (f := 47) Tryd.func47 (by kernel_rfl) rfl #[.agg #[.int .i64 x.f0, .int .i64 x.f1, .int .i64 x.f2, .int .i64 x.f3, .int .i64 x.f4, .int .i64 x.f5, .slice A x.f6.length c], .int .u8 68] rfl rfl rfl (by simp only [List.map_toArray, List.map_cons, List.map_nil]; rfl) ?_; refine (hfld.out _).mono ?_; rintro ex w6 ⟨rfl, hB6'⟩; refine ⟨_, rfl, ?_⟩; have hB6 : Bel wr w6 := (Bel.trans (Bel.drewN (Bel.refl wr) _) hB6')) | (refine goes_ (f := 25) Tryd.func25 (by kernel_rfl) rfl #[.pointer (some ⟨g, 0, none⟩), .int .i64 x.f1] rfl rfl rfl (by simp only [List.map_toArray, List.map_cons, List.map_nil]; rfl) ?_; refine (hnum.out _ ?_).mono ?_; (repeat (first | exact Bel.refl _ | exact hB6 | refine Bel.drewN ?_ _)); rintro ex w7 ⟨rfl, hV7, hK7⟩; refine ⟨_, rfl, ?_⟩))
        all_goals
          go_wp2
          go_roundw
          case rel => exact ⟨k + 1, by omega, by go_num, hnext.out _ hV7, ⟨hKk.out.trans ((KT.of_bel hB6 hbwr VT).trans hK7.out)⟩⟩
          case measure => simp [intOf]; omega
      · skip
        rw [hc] at hidx hfs has
        replace hc := Aside0.mk hc
        rw [show letL x 65 = putL x.f2 by simp [letL, fld]] at hfs
        rw [show letBad x 65 = negB x.f2 by simp [letBad, fld]] at has
        have hfld := Aside0.mk (fun W => refField_any x A c 65 W)
        rw [show fld x 65 = x.f2 from rfl] at hfld
        unfold insV at hfld
        have hnum := Aside0.mk (fun W (q : Bel wr W) => vnum_any x.f2 base g bk ok1 W ⟨⟨_, hv1.keep q⟩⟩ (by have := fld_ok hx.out 65; exact this.2) (by omega))
        have hnext := Aside0.mk (fun W (q : IsVA base W g (bk ++ putL x.f2) (ok1 && !negB x.f2)) => (show IsVA base W g (b1 ++ (l.take (k + 1)).flatMap (letL x)) (o1 && !(l.take (k + 1)).any (letBad x)) from by rw [hfs.out, has.out, ← List.append_assoc, hbk.out, Bool.not_or, ← Bool.and_assoc, hok1.out]; exact q))
        have hbwr : base ≤ wr.heap.size := hv1.lt
        replace hv1 := Aside0.mk hv1
        go_upto_region 9 with (fail)
        go_region_law (first | (refine goes_ (f := 47) Tryd.func47 (by kernel_rfl) rfl #[.agg #[.int .i64 x.f0, .int .i64 x.f1, .int .i64 x.f2, .int .i64 x.f3, .int .i64 x.f4, .int .i64 x.f5, .slice A x.f6.length c], .int .u8 65] rfl rfl rfl (by simp only [List.map_toArray, List.map_cons, List.map_nil]; rfl) ?_; refine (hfld.out _).mono ?_; rintro ex w6 ⟨rfl, hB6'⟩; refine ⟨_, rfl, ?_⟩; have hB6 : Bel wr w6 := (Bel.trans (Bel.drewN (Bel.refl wr) _) hB6')) | (refine goes_ (f := 25) Tryd.func25 (by kernel_rfl) rfl #[.pointer (some ⟨g, 0, none⟩), .int .i64 x.f2] rfl rfl rfl (by simp only [List.map_toArray, List.map_cons, List.map_nil]; rfl) ?_; refine (hnum.out _ ?_).mono ?_; (repeat (first | exact Bel.refl _ | exact hB6 | refine Bel.drewN ?_ _)); rintro ex w7 ⟨rfl, hV7, hK7⟩; refine ⟨_, rfl, ?_⟩))
        all_goals
          go_wp2
          go_roundw
          case rel => exact ⟨k + 1, by omega, by go_num, hnext.out _ hV7, ⟨hKk.out.trans ((KT.of_bel hB6 hbwr VT).trans hK7.out)⟩⟩
          case measure => simp [intOf]; omega
      · skip
        rw [hc] at hidx hfs has
        replace hc := Aside0.mk hc
        rw [show letL x 66 = putL x.f3 by simp [letL, fld]] at hfs
        rw [show letBad x 66 = negB x.f3 by simp [letBad, fld]] at has
        have hfld := Aside0.mk (fun W => refField_any x A c 66 W)
        rw [show fld x 66 = x.f3 from rfl] at hfld
        unfold insV at hfld
        have hnum := Aside0.mk (fun W (q : Bel wr W) => vnum_any x.f3 base g bk ok1 W ⟨⟨_, hv1.keep q⟩⟩ (by have := fld_ok hx.out 66; exact this.2) (by omega))
        have hnext := Aside0.mk (fun W (q : IsVA base W g (bk ++ putL x.f3) (ok1 && !negB x.f3)) => (show IsVA base W g (b1 ++ (l.take (k + 1)).flatMap (letL x)) (o1 && !(l.take (k + 1)).any (letBad x)) from by rw [hfs.out, has.out, ← List.append_assoc, hbk.out, Bool.not_or, ← Bool.and_assoc, hok1.out]; exact q))
        have hbwr : base ≤ wr.heap.size := hv1.lt
        replace hv1 := Aside0.mk hv1
        go_upto_region 9 with (fail)
        go_region_law (first | (refine goes_ (f := 47) Tryd.func47 (by kernel_rfl) rfl #[.agg #[.int .i64 x.f0, .int .i64 x.f1, .int .i64 x.f2, .int .i64 x.f3, .int .i64 x.f4, .int .i64 x.f5, .slice A x.f6.length c], .int .u8 66] rfl rfl rfl (by simp only [List.map_toArray, List.map_cons, List.map_nil]; rfl) ?_; refine (hfld.out _).mono ?_; rintro ex w6 ⟨rfl, hB6'⟩; refine ⟨_, rfl, ?_⟩; have hB6 : Bel wr w6 := (Bel.trans (Bel.drewN (Bel.refl wr) _) hB6')) | (refine goes_ (f := 25) Tryd.func25 (by kernel_rfl) rfl #[.pointer (some ⟨g, 0, none⟩), .int .i64 x.f3] rfl rfl rfl (by simp only [List.map_toArray, List.map_cons, List.map_nil]; rfl) ?_; refine (hnum.out _ ?_).mono ?_; (repeat (first | exact Bel.refl _ | exact hB6 | refine Bel.drewN ?_ _)); rintro ex w7 ⟨rfl, hV7, hK7⟩; refine ⟨_, rfl, ?_⟩))
        all_goals
          go_wp2
          go_roundw
          case rel => exact ⟨k + 1, by omega, by go_num, hnext.out _ hV7, ⟨hKk.out.trans ((KT.of_bel hB6 hbwr VT).trans hK7.out)⟩⟩
          case measure => simp [intOf]; omega
      · skip
        rw [hc] at hidx hfs has
        replace hc := Aside0.mk hc
        rw [show letL x 77 = putL x.f5 by simp [letL, fld]] at hfs
        rw [show letBad x 77 = negB x.f5 by simp [letBad, fld]] at has
        have hfld := Aside0.mk (fun W => refField_any x A c 77 W)
        rw [show fld x 77 = x.f5 from rfl] at hfld
        unfold insV at hfld
        have hnum := Aside0.mk (fun W (q : Bel wr W) => vnum_any x.f5 base g bk ok1 W ⟨⟨_, hv1.keep q⟩⟩ (by have := fld_ok hx.out 77; exact this.2) (by omega))
        have hnext := Aside0.mk (fun W (q : IsVA base W g (bk ++ putL x.f5) (ok1 && !negB x.f5)) => (show IsVA base W g (b1 ++ (l.take (k + 1)).flatMap (letL x)) (o1 && !(l.take (k + 1)).any (letBad x)) from by rw [hfs.out, has.out, ← List.append_assoc, hbk.out, Bool.not_or, ← Bool.and_assoc, hok1.out]; exact q))
        have hbwr : base ≤ wr.heap.size := hv1.lt
        replace hv1 := Aside0.mk hv1
        go_upto_region 9 with (fail)
        go_region_law (first | (refine goes_ (f := 47) Tryd.func47 (by kernel_rfl) rfl #[.agg #[.int .i64 x.f0, .int .i64 x.f1, .int .i64 x.f2, .int .i64 x.f3, .int .i64 x.f4, .int .i64 x.f5, .slice A x.f6.length c], .int .u8 77] rfl rfl rfl (by simp only [List.map_toArray, List.map_cons, List.map_nil]; rfl) ?_; refine (hfld.out _).mono ?_; rintro ex w6 ⟨rfl, hB6'⟩; refine ⟨_, rfl, ?_⟩; have hB6 : Bel wr w6 := (Bel.trans (Bel.drewN (Bel.refl wr) _) hB6')) | (refine goes_ (f := 25) Tryd.func25 (by kernel_rfl) rfl #[.pointer (some ⟨g, 0, none⟩), .int .i64 x.f5] rfl rfl rfl (by simp only [List.map_toArray, List.map_cons, List.map_nil]; rfl) ?_; refine (hnum.out _ ?_).mono ?_; (repeat (first | exact Bel.refl _ | exact hB6 | refine Bel.drewN ?_ _)); rintro ex w7 ⟨rfl, hV7, hK7⟩; refine ⟨_, rfl, ?_⟩))
        all_goals
          go_wp2
          go_roundw
          case rel => exact ⟨k + 1, by omega, by go_num, hnext.out _ hV7, ⟨hKk.out.trans ((KT.of_bel hB6 hbwr VT).trans hK7.out)⟩⟩
          case measure => simp [intOf]; omega
      · skip
        rw [hc] at hidx hfs has
        replace hc := Aside0.mk hc
        rw [show letL x 78 = putL x.f4 by simp [letL, fld]] at hfs
        rw [show letBad x 78 = negB x.f4 by simp [letBad, fld]] at has
        have hfld := Aside0.mk (fun W => refField_any x A c 78 W)
        rw [show fld x 78 = x.f4 from rfl] at hfld
        unfold insV at hfld
        have hnum := Aside0.mk (fun W (q : Bel wr W) => vnum_any x.f4 base g bk ok1 W ⟨⟨_, hv1.keep q⟩⟩ (by have := fld_ok hx.out 78; exact this.2) (by omega))
        have hnext := Aside0.mk (fun W (q : IsVA base W g (bk ++ putL x.f4) (ok1 && !negB x.f4)) => (show IsVA base W g (b1 ++ (l.take (k + 1)).flatMap (letL x)) (o1 && !(l.take (k + 1)).any (letBad x)) from by rw [hfs.out, has.out, ← List.append_assoc, hbk.out, Bool.not_or, ← Bool.and_assoc, hok1.out]; exact q))
        have hbwr : base ≤ wr.heap.size := hv1.lt
        replace hv1 := Aside0.mk hv1
        go_upto_region 9 with (fail)
        go_region_law (first | (refine goes_ (f := 47) Tryd.func47 (by kernel_rfl) rfl #[.agg #[.int .i64 x.f0, .int .i64 x.f1, .int .i64 x.f2, .int .i64 x.f3, .int .i64 x.f4, .int .i64 x.f5, .slice A x.f6.length c], .int .u8 78] rfl rfl rfl (by simp only [List.map_toArray, List.map_cons, List.map_nil]; rfl) ?_; refine (hfld.out _).mono ?_; rintro ex w6 ⟨rfl, hB6'⟩; refine ⟨_, rfl, ?_⟩; have hB6 : Bel wr w6 := (Bel.trans (Bel.drewN (Bel.refl wr) _) hB6')) | (refine goes_ (f := 25) Tryd.func25 (by kernel_rfl) rfl #[.pointer (some ⟨g, 0, none⟩), .int .i64 x.f4] rfl rfl rfl (by simp only [List.map_toArray, List.map_cons, List.map_nil]; rfl) ?_; refine (hnum.out _ ?_).mono ?_; (repeat (first | exact Bel.refl _ | exact hB6 | refine Bel.drewN ?_ _)); rintro ex w7 ⟨rfl, hV7, hK7⟩; refine ⟨_, rfl, ?_⟩))
        all_goals
          go_wp2
          go_roundw
          case rel => exact ⟨k + 1, by omega, by go_num, hnext.out _ hV7, ⟨hKk.out.trans ((KT.of_bel hB6 hbwr VT).trans hK7.out)⟩⟩
          case measure => simp [intOf]; omega
      · -- signed
        rw [hc] at hidx hfs has
        replace hc := Aside0.mk hc
        have hcall := Aside0.mk (fun W (q : Bel wr W) => refPutSigned_any A1 d1 bk x.f4 W (hR1.step q) (by omega) hx.out.f4.1 hx.out.f4.2)
        replace hv1 := Aside0.mk hv1
        obtain ⟨y, hy⟩ : ∃ y, Aside0 (bk ++ digs 9 (zz x.f4) = y) := ⟨_, ⟨rfl⟩⟩
        rw [hy.out] at hcall
        rw [show letL x 110 = digs 9 (zz x.f4) by simp [letL]] at hfs
        rw [show letBad x 110 = false by simp [letBad], Bool.or_false] at has
        have hbwr : base ≤ wr.heap.size := hv1.out.lt
        go_upto_region 11 with (fail)
        go_region_law (refine goes_ (f := 46) Tryd.func46 (by kernel_rfl) rfl #[.slice A1 bk.length d1, .int .i64 x.f4] rfl rfl rfl (by simp only [List.map_toArray, List.map_cons, List.map_nil]; rfl) ?_; refine (hcall.out _ ?_).mono ?_; (repeat (first | exact Bel.refl _ | refine Bel.drewN ?_ _)); rintro ex w6 ⟨v2, rfl, hO, hB6'⟩; obtain ⟨A2, d2, rfl, _, _⟩ := hO.reads; refine ⟨_, rfl, ?_⟩; have hB6 : Bel wr w6 := (Bel.trans (Bel.drewN (Bel.refl wr) _) hB6'); have hv2 := hv1.out.keep hB6; have cz : w6.cell? ⟨g, 0, none⟩ = some (.slice A1 bk.length d1) := blk_cell hv2.blk 0; have fz := blk_frozen hv2.blk 0; have cl : g < w6.heap.size := blk_lt hv2.blk; have hs := Aside0.mk (hv2.setB (OwnAt.of_own hO hbwr)))
        all_goals
          go_wp2
          go_roundw
          case rel => exact ⟨k + 1, by omega, by go_num, ⟨_, by rw [hfs.out, has.out, ← List.append_assoc, hbk.out, hok1.out, hy.out]; exact hs.out.1⟩, ⟨hKk.out.trans ((KT.of_bel hB6 hbwr VT).trans hs.out.2)⟩⟩
          case measure => simp [intOf]; omega
      · -- the arguments
        rw [hc] at hidx hfs has
        replace hc := Aside0.mk hc
        rw [show letL x 76 = putL (x.f6.length : Int) ++ listL x.f6 by simp [letL]] at hfs
        rw [show letBad x 76 = x.f6.any negB by simp [letBad]] at has
        have hnum := Aside0.mk (vnum_any (x.f6.length : Int) base g bk ok1 wr ⟨⟨_, hv1⟩⟩ (by omega) (by omega))
        rw [show negB (x.f6.length : Int) = false from decide_eq_false (by omega), Bool.not_false, Bool.and_true] at hnum
        obtain ⟨b2, hb2⟩ : ∃ y, Aside0 (bk ++ putL (x.f6.length : Int) = y) := ⟨_, ⟨rfl⟩⟩
        have hb2l : b2.length ≤ 10000100010 := by have := putL_len (x.f6.length : Int); rw [← hb2.out, List.length_append]; omega
        rw [hb2.out] at hnum
        replace hv1 := Aside0.mk hv1
        go_upto_region 14 with (go_at_call 25; ((with_reducible refine hnum.out.mono ?_); rintro e w2 ⟨rfl, hV2, hK2⟩))
        have hK3 := Aside0.mk (hKk.out.trans hK2.out)
        clear hnum y0 y1 y2 y3 y4 y5 y6 z0 hv1 hR1
        go_wp2
        go_loopw [6] (fun i W => ∃ j : Nat, j ≤ x.f6.length ∧ i = .int .i64 j ∧ IsVA base W g (b2 ++ listL (x.f6.take j)) (ok1 && !(x.f6.take j).any negB) ∧ Aside0 (KT VT base wa W)) (fun i _ => x.f6.length - (intOf i).toNat)
        case atStart => exact ⟨0, by omega, rfl, by simpa [listL] using hV2, hK3⟩
        case round =>
          clear hV2 hK3
          obtain ⟨j, hj, rfl, hVj, hKj⟩ := hrel
          have hbj := hbox.out wr hKj.out
          have y6 : wr.cell? ⟨h, 6, none⟩ = some (.slice A x.f6.length c) := blk_cell hbj 6
          by_cases hltj : j < x.f6.length
          · obtain ⟨ad, rfl, hcell⟩ := rd_atN (hAW.out wr hKj.out) j hltj
            have hts := Aside0.mk (take_snoc x.f6 j hltj)
            have hnb : -9223372036854775808 ≤ rd x.f6 (j : Int) ∧ rd x.f6 (j : Int) ≤ 9223372036854775807 := hx.out.f6 _ (by rw [rd, List.getD_eq_getElem?_getD, List.getElem?_eq_getElem (by simpa using hltj)]; exact List.getElem_mem _)
            have hlj : (b2 ++ listL (x.f6.take j)).length ≤ 20000000000 := by have := listL_len (x.f6.take j); rw [List.length_append]; rw [List.length_take] at this; omega
            obtain ⟨n, hn⟩ : ∃ n, rd x.f6 (j : Int) = n := ⟨_, rfl⟩
            rw [hn] at hcell hts hnb
            obtain ⟨b3, hb3⟩ : ∃ y, Aside0 (b2 ++ listL (x.f6.take j) = y) := ⟨_, ⟨rfl⟩⟩
            obtain ⟨ok3, hok3⟩ : ∃ y, Aside0 ((ok1 && !(x.f6.take j).any negB) = y) := ⟨_, ⟨rfl⟩⟩
            rw [hb3.out, hok3.out] at hVj
            rw [hb3.out] at hlj
            clear hn
            have hnum := Aside0.mk (vnum_any n base g b3 ok3 wr hVj hnb.2 (by omega))
            go_wp2_with (go_at_call 25; ((with_reducible refine hnum.out.mono ?_); rintro e w2 ⟨rfl, hV2, hK2⟩))
            go_roundw
            case rel => exact ⟨j + 1, by omega, by go_num, by rw [hts.out, listL_snoc, List.any_append, ← List.append_assoc, hb3.out]; simpa [Bool.not_or, ← Bool.and_assoc, hok3.out] using hV2, ⟨hKj.out.trans hK2.out⟩⟩
            case measure => simp [intOf]; omega
          · have htk : x.f6.take j = x.f6 := List.take_of_length_le (by omega)
            rw [htk] at hVj
            have hnext := Aside0.mk (show IsVA base wr g (b1 ++ (l.take (k + 1)).flatMap (letL x)) (o1 && !(l.take (k + 1)).any (letBad x)) from by rw [hfs.out, has.out, ← List.append_assoc, hbk.out, ← List.append_assoc, hb2.out, Bool.not_or, ← Bool.and_assoc, hok1.out]; exact hVj)
            go_wp2
            go_roundw
            case rel => exact ⟨k + 1, by omega, by go_num, hnext.out, hKj⟩
            case measure => simp [intOf]; omega
    · have htk : l.take k = l := List.take_of_length_le (by omega)
      rw [htk] at hVk
      obtain ⟨bF, hbF⟩ : ∃ y, Aside0 (b1 ++ l.flatMap (letL x) = y) := ⟨_, ⟨rfl⟩⟩
      obtain ⟨oF, hoF⟩ : ∃ y, Aside0 ((o1 && !l.any (letBad x)) = y) := ⟨_, ⟨rfl⟩⟩
      rw [hbF.out, hoF.out] at hVk
      clear htk
      go_wp2
      go_loopw [8] (fun i W => ∃ k : Nat, k ≤ 4 ∧ i = .int .i64 k ∧ IsVA base W g bF (oF && dabm x k) ∧ Aside0 (KT VT base wa W)) (fun i _ => 4 - (intOf i).toNat)
      case atStart => exact ⟨0, by omega, rfl, by simpa [dabm] using hVk, hKk⟩
      case round =>
        clear hVk hKk
        obtain ⟨k, hk, rfl, hVk, hKk⟩ := hrel
        have hbx := hbox.out wr hKk.out
        have y0 : wr.cell? ⟨h, 0, none⟩ = some (.int .i64 x.f0) := blk_cell hbx 0
        have y1 : wr.cell? ⟨h, 1, none⟩ = some (.int .i64 x.f1) := blk_cell hbx 1
        have y2 : wr.cell? ⟨h, 2, none⟩ = some (.int .i64 x.f2) := blk_cell hbx 2
        have y3 : wr.cell? ⟨h, 3, none⟩ = some (.int .i64 x.f3) := blk_cell hbx 3
        have y4 : wr.cell? ⟨h, 4, none⟩ = some (.int .i64 x.f4) := blk_cell hbx 4
        have y5 : wr.cell? ⟨h, 5, none⟩ = some (.int .i64 x.f5) := blk_cell hbx 5
        have y6 : wr.cell? ⟨h, 6, none⟩ = some (.slice A x.f6.length c) := blk_cell hbx 6
        obtain ⟨v1, hv1⟩ := hVk.out
        have hbwr : base ≤ wr.heap.size := hv1.lt
        clear hVk
        by_cases hlt : k < 4
        · obtain rfl | rfl | rfl | rfl : k = 0 ∨ k = 1 ∨ k = 2 ∨ k = 3 := by omega
          · skip
            by_cases hh1 : hasB l 68 = true
            · have hn := Aside0.mk (show dabm x 1 = dabm x 0 from by simp [dabm, chk, hT.out.is, hh1])
              have hcall := Aside0.mk (fun W => has_ref hT.out 68 W)
              rw [hh1] at hcall
              clear hh1
              replace hv1 := Aside0.mk hv1
              go_upto_region 22 with (fail)
              go_quiet ((go_at_call 48; refine Calls.quiet_of_same ((hcall.out _).mono (fun e w' h => ⟨h.1, h.2.symm⟩))))
              go_wp2
              go_roundw
              case rel => exact ⟨1, by omega, by go_num, ⟨_, by rw [hn.out]; exact hv1.out.keep (Bel.drewN (Bel.refl wr) _)⟩, ⟨hKk.out.trans (KT.of_bel (Bel.drewN (Bel.refl wr) _) hbwr VT)⟩⟩
              case measure => simp [intOf]
            · have hh0 : hasB l 68 = false := by simpa using hh1
              have hcall := Aside0.mk (fun W => has_ref hT.out 68 W)
              rw [hh0] at hcall
              have hfld := Aside0.mk (fun W => refField_any x A c 68 W)
              rw [show fld x 68 = x.f1 from rfl] at hfld
              unfold insV at hfld
              by_cases hz : x.f1 = 0
              · have b9 : (x.f1 != 0) = false := by simpa using hz
                have hn := Aside0.mk (show dabm x 1 = dabm x 0 from by simp [dabm, chk, fld, hz])
                clear hh1 hh0 hz
                replace hv1 := Aside0.mk hv1
                go_upto_region 22 with (fail)
                go_region_held3 (fun w' => w'.cell? ⟨h, 0, none⟩ = some (.int .i64 x.f0) ∧ w'.cell? ⟨h, 1, none⟩ = some (.int .i64 x.f1) ∧ w'.cell? ⟨h, 2, none⟩ = some (.int .i64 x.f2) ∧ w'.cell? ⟨h, 3, none⟩ = some (.int .i64 x.f3) ∧ w'.cell? ⟨h, 4, none⟩ = some (.int .i64 x.f4) ∧ w'.cell? ⟨h, 5, none⟩ = some (.int .i64 x.f5) ∧ w'.cell? ⟨h, 6, none⟩ = some (.slice A x.f6.length c))
                  (first | go_keep | exact ⟨Bel.cell hB6' y0, Bel.cell hB6' y1, Bel.cell hB6' y2, Bel.cell hB6' y3, Bel.cell hB6' y4, Bel.cell hB6' y5, Bel.cell hB6' y6⟩)
                  (first | (go_at_call 48; refine (hcall.out _).mono ?_; rintro e w5 ⟨rfl, rfl⟩) | (go_at_call 47; refine (hfld.out _).mono ?_; rintro e w6 ⟨rfl, hB6'⟩))
                have hB6 : Bel wr w6 := Bel.trans (Bel.drewN (Bel.refl wr) 1) hB6'
                go_wp2
                go_roundw
                case rel => exact ⟨1, by omega, by go_num, ⟨_, by rw [hn.out]; exact hv1.out.keep hB6⟩, ⟨hKk.out.trans (KT.of_bel hB6 hbwr VT)⟩⟩
                case measure => simp [intOf]
              · have b9 : (x.f1 != 0) = true := by simpa using hz
                have hn := Aside0.mk (show dabm x 1 = false from by simp [dabm, chk, fld, hz, hT.out.is, hh0])
                clear hh1 hh0 hz
                replace hv1 := Aside0.mk hv1
                go_upto_region 22 with (fail)
                go_region_held3 (fun w' => w'.cell? ⟨h, 0, none⟩ = some (.int .i64 x.f0) ∧ w'.cell? ⟨h, 1, none⟩ = some (.int .i64 x.f1) ∧ w'.cell? ⟨h, 2, none⟩ = some (.int .i64 x.f2) ∧ w'.cell? ⟨h, 3, none⟩ = some (.int .i64 x.f3) ∧ w'.cell? ⟨h, 4, none⟩ = some (.int .i64 x.f4) ∧ w'.cell? ⟨h, 5, none⟩ = some (.int .i64 x.f5) ∧ w'.cell? ⟨h, 6, none⟩ = some (.slice A x.f6.length c))
                  (first | go_keep | exact ⟨Bel.cell hB6' y0, Bel.cell hB6' y1, Bel.cell hB6' y2, Bel.cell hB6' y3, Bel.cell hB6' y4, Bel.cell hB6' y5, Bel.cell hB6' y6⟩)
                  (first | (go_at_call 48; refine (hcall.out _).mono ?_; rintro e w5 ⟨rfl, rfl⟩) | (go_at_call 47; refine (hfld.out _).mono ?_; rintro e w6 ⟨rfl, hB6'⟩))
                have hB6 : Bel wr w6 := Bel.trans (Bel.drewN (Bel.refl wr) 1) hB6'
                have hv2 := hv1.out.keep hB6
                have cz := blk_cell hv2.blk 1
                have fz := blk_frozen hv2.blk 1
                have cl : g < w6.heap.size := blk_lt hv2.blk
                have hs := Aside0.mk (hv2.setM false)
                go_wp2
                go_roundw
                case rel => exact ⟨1, by omega, by go_num, ⟨_, by rw [hn.out, Bool.and_false]; exact hs.out.1⟩, ⟨hKk.out.trans ((KT.of_bel hB6 hbwr VT).trans hs.out.2)⟩⟩
                case measure => simp [intOf]
          · skip
            by_cases hh1 : hasB l 65 = true
            · have hn := Aside0.mk (show dabm x 2 = dabm x 1 from by simp [dabm, chk, hT.out.is, hh1])
              have hcall := Aside0.mk (fun W => has_ref hT.out 65 W)
              rw [hh1] at hcall
              clear hh1
              replace hv1 := Aside0.mk hv1
              go_upto_region 22 with (fail)
              go_quiet ((go_at_call 48; refine Calls.quiet_of_same ((hcall.out _).mono (fun e w' h => ⟨h.1, h.2.symm⟩))))
              go_wp2
              go_roundw
              case rel => exact ⟨2, by omega, by go_num, ⟨_, by rw [hn.out]; exact hv1.out.keep (Bel.drewN (Bel.refl wr) _)⟩, ⟨hKk.out.trans (KT.of_bel (Bel.drewN (Bel.refl wr) _) hbwr VT)⟩⟩
              case measure => simp [intOf]
            · have hh0 : hasB l 65 = false := by simpa using hh1
              have hcall := Aside0.mk (fun W => has_ref hT.out 65 W)
              rw [hh0] at hcall
              have hfld := Aside0.mk (fun W => refField_any x A c 65 W)
              rw [show fld x 65 = x.f2 from rfl] at hfld
              unfold insV at hfld
              by_cases hz : x.f2 = 0
              · have b9 : (x.f2 != 0) = false := by simpa using hz
                have hn := Aside0.mk (show dabm x 2 = dabm x 1 from by simp [dabm, chk, fld, hz])
                clear hh1 hh0 hz
                replace hv1 := Aside0.mk hv1
                go_upto_region 22 with (fail)
                go_region_held3 (fun w' => w'.cell? ⟨h, 0, none⟩ = some (.int .i64 x.f0) ∧ w'.cell? ⟨h, 1, none⟩ = some (.int .i64 x.f1) ∧ w'.cell? ⟨h, 2, none⟩ = some (.int .i64 x.f2) ∧ w'.cell? ⟨h, 3, none⟩ = some (.int .i64 x.f3) ∧ w'.cell? ⟨h, 4, none⟩ = some (.int .i64 x.f4) ∧ w'.cell? ⟨h, 5, none⟩ = some (.int .i64 x.f5) ∧ w'.cell? ⟨h, 6, none⟩ = some (.slice A x.f6.length c))
                  (first | go_keep | exact ⟨Bel.cell hB6' y0, Bel.cell hB6' y1, Bel.cell hB6' y2, Bel.cell hB6' y3, Bel.cell hB6' y4, Bel.cell hB6' y5, Bel.cell hB6' y6⟩)
                  (first | (go_at_call 48; refine (hcall.out _).mono ?_; rintro e w5 ⟨rfl, rfl⟩) | (go_at_call 47; refine (hfld.out _).mono ?_; rintro e w6 ⟨rfl, hB6'⟩))
                have hB6 : Bel wr w6 := Bel.trans (Bel.drewN (Bel.refl wr) 1) hB6'
                go_wp2
                go_roundw
                case rel => exact ⟨2, by omega, by go_num, ⟨_, by rw [hn.out]; exact hv1.out.keep hB6⟩, ⟨hKk.out.trans (KT.of_bel hB6 hbwr VT)⟩⟩
                case measure => simp [intOf]
              · have b9 : (x.f2 != 0) = true := by simpa using hz
                have hn := Aside0.mk (show dabm x 2 = false from by simp [dabm, chk, fld, hz, hT.out.is, hh0])
                clear hh1 hh0 hz
                replace hv1 := Aside0.mk hv1
                go_upto_region 22 with (fail)
                go_region_held3 (fun w' => w'.cell? ⟨h, 0, none⟩ = some (.int .i64 x.f0) ∧ w'.cell? ⟨h, 1, none⟩ = some (.int .i64 x.f1) ∧ w'.cell? ⟨h, 2, none⟩ = some (.int .i64 x.f2) ∧ w'.cell? ⟨h, 3, none⟩ = some (.int .i64 x.f3) ∧ w'.cell? ⟨h, 4, none⟩ = some (.int .i64 x.f4) ∧ w'.cell? ⟨h, 5, none⟩ = some (.int .i64 x.f5) ∧ w'.cell? ⟨h, 6, none⟩ = some (.slice A x.f6.length c))
                  (first | go_keep | exact ⟨Bel.cell hB6' y0, Bel.cell hB6' y1, Bel.cell hB6' y2, Bel.cell hB6' y3, Bel.cell hB6' y4, Bel.cell hB6' y5, Bel.cell hB6' y6⟩)
                  (first | (go_at_call 48; refine (hcall.out _).mono ?_; rintro e w5 ⟨rfl, rfl⟩) | (go_at_call 47; refine (hfld.out _).mono ?_; rintro e w6 ⟨rfl, hB6'⟩))
                have hB6 : Bel wr w6 := Bel.trans (Bel.drewN (Bel.refl wr) 1) hB6'
                have hv2 := hv1.out.keep hB6
                have cz := blk_cell hv2.blk 1
                have fz := blk_frozen hv2.blk 1
                have cl : g < w6.heap.size := blk_lt hv2.blk
                have hs := Aside0.mk (hv2.setM false)
                go_wp2
                go_roundw
                case rel => exact ⟨2, by omega, by go_num, ⟨_, by rw [hn.out, Bool.and_false]; exact hs.out.1⟩, ⟨hKk.out.trans ((KT.of_bel hB6 hbwr VT).trans hs.out.2)⟩⟩
                case measure => simp [intOf]
          · skip
            by_cases hh1 : hasB l 66 = true
            · have hn := Aside0.mk (show dabm x 3 = dabm x 2 from by simp [dabm, chk, hT.out.is, hh1])
              have hcall := Aside0.mk (fun W => has_ref hT.out 66 W)
              rw [hh1] at hcall
              clear hh1
              replace hv1 := Aside0.mk hv1
              go_upto_region 22 with (fail)
              go_quiet ((go_at_call 48; refine Calls.quiet_of_same ((hcall.out _).mono (fun e w' h => ⟨h.1, h.2.symm⟩))))
              go_wp2
              go_roundw
              case rel => exact ⟨3, by omega, by go_num, ⟨_, by rw [hn.out]; exact hv1.out.keep (Bel.drewN (Bel.refl wr) _)⟩, ⟨hKk.out.trans (KT.of_bel (Bel.drewN (Bel.refl wr) _) hbwr VT)⟩⟩
              case measure => simp [intOf]
            · have hh0 : hasB l 66 = false := by simpa using hh1
              have hcall := Aside0.mk (fun W => has_ref hT.out 66 W)
              rw [hh0] at hcall
              have hfld := Aside0.mk (fun W => refField_any x A c 66 W)
              rw [show fld x 66 = x.f3 from rfl] at hfld
              unfold insV at hfld
              by_cases hz : x.f3 = 0
              · have b9 : (x.f3 != 0) = false := by simpa using hz
                have hn := Aside0.mk (show dabm x 3 = dabm x 2 from by simp [dabm, chk, fld, hz])
                clear hh1 hh0 hz
                replace hv1 := Aside0.mk hv1
                go_upto_region 22 with (fail)
                go_region_held3 (fun w' => w'.cell? ⟨h, 0, none⟩ = some (.int .i64 x.f0) ∧ w'.cell? ⟨h, 1, none⟩ = some (.int .i64 x.f1) ∧ w'.cell? ⟨h, 2, none⟩ = some (.int .i64 x.f2) ∧ w'.cell? ⟨h, 3, none⟩ = some (.int .i64 x.f3) ∧ w'.cell? ⟨h, 4, none⟩ = some (.int .i64 x.f4) ∧ w'.cell? ⟨h, 5, none⟩ = some (.int .i64 x.f5) ∧ w'.cell? ⟨h, 6, none⟩ = some (.slice A x.f6.length c))
                  (first | go_keep | exact ⟨Bel.cell hB6' y0, Bel.cell hB6' y1, Bel.cell hB6' y2, Bel.cell hB6' y3, Bel.cell hB6' y4, Bel.cell hB6' y5, Bel.cell hB6' y6⟩)
                  (first | (go_at_call 48; refine (hcall.out _).mono ?_; rintro e w5 ⟨rfl, rfl⟩) | (go_at_call 47; refine (hfld.out _).mono ?_; rintro e w6 ⟨rfl, hB6'⟩))
                have hB6 : Bel wr w6 := Bel.trans (Bel.drewN (Bel.refl wr) 1) hB6'
                go_wp2
                go_roundw
                case rel => exact ⟨3, by omega, by go_num, ⟨_, by rw [hn.out]; exact hv1.out.keep hB6⟩, ⟨hKk.out.trans (KT.of_bel hB6 hbwr VT)⟩⟩
                case measure => simp [intOf]
              · have b9 : (x.f3 != 0) = true := by simpa using hz
                have hn := Aside0.mk (show dabm x 3 = false from by simp [dabm, chk, fld, hz, hT.out.is, hh0])
                clear hh1 hh0 hz
                replace hv1 := Aside0.mk hv1
                go_upto_region 22 with (fail)
                go_region_held3 (fun w' => w'.cell? ⟨h, 0, none⟩ = some (.int .i64 x.f0) ∧ w'.cell? ⟨h, 1, none⟩ = some (.int .i64 x.f1) ∧ w'.cell? ⟨h, 2, none⟩ = some (.int .i64 x.f2) ∧ w'.cell? ⟨h, 3, none⟩ = some (.int .i64 x.f3) ∧ w'.cell? ⟨h, 4, none⟩ = some (.int .i64 x.f4) ∧ w'.cell? ⟨h, 5, none⟩ = some (.int .i64 x.f5) ∧ w'.cell? ⟨h, 6, none⟩ = some (.slice A x.f6.length c))
                  (first | go_keep | exact ⟨Bel.cell hB6' y0, Bel.cell hB6' y1, Bel.cell hB6' y2, Bel.cell hB6' y3, Bel.cell hB6' y4, Bel.cell hB6' y5, Bel.cell hB6' y6⟩)
                  (first | (go_at_call 48; refine (hcall.out _).mono ?_; rintro e w5 ⟨rfl, rfl⟩) | (go_at_call 47; refine (hfld.out _).mono ?_; rintro e w6 ⟨rfl, hB6'⟩))
                have hB6 : Bel wr w6 := Bel.trans (Bel.drewN (Bel.refl wr) 1) hB6'
                have hv2 := hv1.out.keep hB6
                have cz := blk_cell hv2.blk 1
                have fz := blk_frozen hv2.blk 1
                have cl : g < w6.heap.size := blk_lt hv2.blk
                have hs := Aside0.mk (hv2.setM false)
                go_wp2
                go_roundw
                case rel => exact ⟨3, by omega, by go_num, ⟨_, by rw [hn.out, Bool.and_false]; exact hs.out.1⟩, ⟨hKk.out.trans ((KT.of_bel hB6 hbwr VT).trans hs.out.2)⟩⟩
                case measure => simp [intOf]
          · skip
            by_cases hh1 : hasB l 77 = true
            · have hn := Aside0.mk (show dabm x 4 = dabm x 3 from by simp [dabm, chk, hT.out.is, hh1])
              have hcall := Aside0.mk (fun W => has_ref hT.out 77 W)
              rw [hh1] at hcall
              clear hh1
              replace hv1 := Aside0.mk hv1
              go_upto_region 22 with (fail)
              go_quiet ((go_at_call 48; refine Calls.quiet_of_same ((hcall.out _).mono (fun e w' h => ⟨h.1, h.2.symm⟩))))
              go_wp2
              go_roundw
              case rel => exact ⟨4, by omega, by go_num, ⟨_, by rw [hn.out]; exact hv1.out.keep (Bel.drewN (Bel.refl wr) _)⟩, ⟨hKk.out.trans (KT.of_bel (Bel.drewN (Bel.refl wr) _) hbwr VT)⟩⟩
              case measure => simp [intOf]
            · have hh0 : hasB l 77 = false := by simpa using hh1
              have hcall := Aside0.mk (fun W => has_ref hT.out 77 W)
              rw [hh0] at hcall
              have hfld := Aside0.mk (fun W => refField_any x A c 77 W)
              rw [show fld x 77 = x.f5 from rfl] at hfld
              unfold insV at hfld
              by_cases hz : x.f5 = 0
              · have b9 : (x.f5 != 0) = false := by simpa using hz
                have hn := Aside0.mk (show dabm x 4 = dabm x 3 from by simp [dabm, chk, fld, hz])
                clear hh1 hh0 hz
                replace hv1 := Aside0.mk hv1
                go_upto_region 22 with (fail)
                go_region_held3 (fun w' => w'.cell? ⟨h, 0, none⟩ = some (.int .i64 x.f0) ∧ w'.cell? ⟨h, 1, none⟩ = some (.int .i64 x.f1) ∧ w'.cell? ⟨h, 2, none⟩ = some (.int .i64 x.f2) ∧ w'.cell? ⟨h, 3, none⟩ = some (.int .i64 x.f3) ∧ w'.cell? ⟨h, 4, none⟩ = some (.int .i64 x.f4) ∧ w'.cell? ⟨h, 5, none⟩ = some (.int .i64 x.f5) ∧ w'.cell? ⟨h, 6, none⟩ = some (.slice A x.f6.length c))
                  (first | go_keep | exact ⟨Bel.cell hB6' y0, Bel.cell hB6' y1, Bel.cell hB6' y2, Bel.cell hB6' y3, Bel.cell hB6' y4, Bel.cell hB6' y5, Bel.cell hB6' y6⟩)
                  (first | (go_at_call 48; refine (hcall.out _).mono ?_; rintro e w5 ⟨rfl, rfl⟩) | (go_at_call 47; refine (hfld.out _).mono ?_; rintro e w6 ⟨rfl, hB6'⟩))
                have hB6 : Bel wr w6 := Bel.trans (Bel.drewN (Bel.refl wr) 1) hB6'
                go_wp2
                go_roundw
                case rel => exact ⟨4, by omega, by go_num, ⟨_, by rw [hn.out]; exact hv1.out.keep hB6⟩, ⟨hKk.out.trans (KT.of_bel hB6 hbwr VT)⟩⟩
                case measure => simp [intOf]
              · have b9 : (x.f5 != 0) = true := by simpa using hz
                have hn := Aside0.mk (show dabm x 4 = false from by simp [dabm, chk, fld, hz, hT.out.is, hh0])
                clear hh1 hh0 hz
                replace hv1 := Aside0.mk hv1
                go_upto_region 22 with (fail)
                go_region_held3 (fun w' => w'.cell? ⟨h, 0, none⟩ = some (.int .i64 x.f0) ∧ w'.cell? ⟨h, 1, none⟩ = some (.int .i64 x.f1) ∧ w'.cell? ⟨h, 2, none⟩ = some (.int .i64 x.f2) ∧ w'.cell? ⟨h, 3, none⟩ = some (.int .i64 x.f3) ∧ w'.cell? ⟨h, 4, none⟩ = some (.int .i64 x.f4) ∧ w'.cell? ⟨h, 5, none⟩ = some (.int .i64 x.f5) ∧ w'.cell? ⟨h, 6, none⟩ = some (.slice A x.f6.length c))
                  (first | go_keep | exact ⟨Bel.cell hB6' y0, Bel.cell hB6' y1, Bel.cell hB6' y2, Bel.cell hB6' y3, Bel.cell hB6' y4, Bel.cell hB6' y5, Bel.cell hB6' y6⟩)
                  (first | (go_at_call 48; refine (hcall.out _).mono ?_; rintro e w5 ⟨rfl, rfl⟩) | (go_at_call 47; refine (hfld.out _).mono ?_; rintro e w6 ⟨rfl, hB6'⟩))
                have hB6 : Bel wr w6 := Bel.trans (Bel.drewN (Bel.refl wr) 1) hB6'
                have hv2 := hv1.out.keep hB6
                have cz := blk_cell hv2.blk 1
                have fz := blk_frozen hv2.blk 1
                have cl : g < w6.heap.size := blk_lt hv2.blk
                have hs := Aside0.mk (hv2.setM false)
                go_wp2
                go_roundw
                case rel => exact ⟨4, by omega, by go_num, ⟨_, by rw [hn.out, Bool.and_false]; exact hs.out.1⟩, ⟨hKk.out.trans ((KT.of_bel hB6 hbwr VT).trans hs.out.2)⟩⟩
                case measure => simp [intOf]
        · have hk4 : k = 4 := by omega
          subst hk4
          have hcall := Aside0.mk (fun c W => has_ref hT.out c W)
          have hfi := Aside0.mk (show (!insBad x) = ((!(negB x.f0 || l.any (letBad x))) && (dabm x 4 && (chkN x && chkL x))) from hfin.out)
          have hres := Aside0.mk (fun W (b : Bool) (hb : b = (chkN x && chkL x)) (q : IsVA base W g bF ((oF && dabm x 4) && b)) => (show IsVA base W g bF (ok && !insBad x) from by
            rw [hfin.out, Bool.not_or, Bool.and_assoc, ← Bool.and_assoc ok, ho1.out, ← Bool.and_assoc o1, hoF.out, ← Bool.and_assoc oF, ← hb]; exact q))
          have hend := Aside0.mk (show bF = bs ++ insL x from by rw [← hbF.out, ← hb1.out, insL, hT.out.is, List.append_assoc])
          have hcN := Aside0.mk (show chkN x = ((hasB l 78 || hasB l 110) || x.f4 == 0) from by unfold chkN; rw [hT.out.is])
          have hcL := Aside0.mk (show chkL x = (hasB l 76 || decide (x.f6.length = 0)) from by unfold chkL; rw [hT.out.is])
          have hbFl : bF.length ≤ bs.length + 100000 := by rw [hend.out, List.length_append]; omega
          have z1 : wr.cell? ⟨g, 1, none⟩ = some (.bool (oF && dabm x 4)) := blk_cell hv1.blk 1
          have fz := blk_frozen hv1.blk 1
          clear hfin hfi hbF hoF hlt hk y0 y1 y2 y3 y5
          obtain ⟨oG, hoG⟩ : ∃ y, Aside0 ((oF && dabm x 4) = y) := ⟨_, ⟨rfl⟩⟩
          rw [hoG.out] at hv1 z1
          have hres2 := Aside0.mk (fun W (b : Bool) (hb : b = (chkN x && chkL x)) (q : IsVA base W g bF (oG && b)) => hres.out W b hb (by rw [hoG.out]; exact q))
          have hbad := Aside0.mk (fun (hb : (chkN x && chkL x) = false) => hres2.out _ false hb.symm ⟨_, by rw [Bool.and_false]; exact (hv1.setM false).1⟩)
          have hgood := Aside0.mk (fun (hb : (chkN x && chkL x) = true) => hres2.out wr true hb.symm ⟨_, by rw [Bool.and_true]; exact hv1⟩)
          have hkt := Aside0.mk ((hKa.out.trans hKk.out).trans (hv1.setM false).2)
          clear hres hres2
          replace hv1 := Aside0.mk hv1
          have hb6 := Aside0.mk (show decide ((0 : Int) < (x.f6.length : Int)) = !decide (x.f6.length = 0) from by by_cases h : x.f6.length = 0 <;> simp [h]; omega)
          have hb7 := Aside0.mk (show decide (0 < x.f6.length) = !decide (x.f6.length = 0) from by by_cases h : x.f6.length = 0 <;> simp [h]; omega)
          cases hN : hasB l 78 <;> cases hn : hasB l 110 <;> cases hL : hasB l 76 <;> cases h4 : (x.f4 == 0) <;> cases h6 : decide (x.f6.length = 0)
          all_goals
            have k1 := hcall.out 78
            have k2 := hcall.out 110
            have k3 := hcall.out 76
            rw [hN] at k1
            rw [hn] at k2
            rw [hL] at k3
            have cN := hcN.out
            have cL := hcL.out
            rw [hN, hn] at cN
            rw [hL] at cL
            have b4 : (x.f4 != 0) = !(x.f4 == 0) := rfl
            have b6 := hb6.out
            rw [h4] at b4 cN
            have b7 := hb7.out
            rw [h6] at b6 b7 cL
            simp only [Bool.not_true, Bool.not_false] at b4 b6 b7
            have hcc : (chkN x && chkL x) = true ∨ (chkN x && chkL x) = false := by rw [cN, cL]; simp
            replace hcc := Aside0.mk hcc
            replace cN := Aside0.mk cN
            replace cL := Aside0.mk cL
            replace k1 := Aside0.mk k1
            replace k2 := Aside0.mk k2
            replace k3 := Aside0.mk k3
            clear hN hn hL h4 h6 hcall hcN hcL hb6 hb7
            go_wp2_with (go_at_call 48; first | ((with_reducible refine (k1.out _).mono ?_); rintro e w5 ⟨rfl, rfl⟩) | ((with_reducible refine (k2.out _).mono ?_); rintro e w5 ⟨rfl, rfl⟩) | ((with_reducible refine (k3.out _).mono ?_); rintro e w5 ⟨rfl, rfl⟩))
            go_end0
            first
              | exact ⟨bF, rfl, hgood.out (by rw [cN.out, cL.out]; rfl), ⟨fun _ => hend.out⟩, ⟨hKa.out.trans hKk.out⟩, hbFl⟩
              | exact ⟨bF, rfl, hbad.out (by rw [cN.out, cL.out]; rfl), ⟨fun _ => hend.out⟩, hkt, hbFl⟩
end Go.Proofs.YtijdmnjkiiemlaaDoor.H
