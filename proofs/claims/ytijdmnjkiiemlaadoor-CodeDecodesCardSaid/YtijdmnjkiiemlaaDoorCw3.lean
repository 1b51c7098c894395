/- Layer 3, walks: has an instruction nothing beside its parts? -/
import Derived.Test.YtijdmnjkiiemlaaDoorCw2
namespace Go.Proofs.YtijdmnjkiiemlaaDoor.H
open Go.RowKit Go.Proofs.YtijdmnjkiiemlaaDoorW.PrintWords
set_option linter.unusedVariables false
set_option linter.unusedSimpArgs false

/-- An instruction's variable, at block g. -/
def IsIns (W : World) (g : Nat) (x : SIns) : Prop := ∃ A c, x.f6.length ≤ 9223372036854775807 ∧ W.heap[g]? = some (.cells (insC x (.slice A x.f6.length c)) 45 (0, 0))
theorem clr_f0 (x : SIns) (c : Int) : (clr x c).f0 = x.f0 := by unfold clr; (repeat' split) <;> rfl
theorem fold_f0 (l : List Int) : ∀ x : SIns, (l.foldl clr x).f0 = x.f0 := by
  induction l with
  | nil => intro x; rfl
  | cons c l ih => intro x; rw [List.foldl_cons, ih, clr_f0]
theorem take_snoc' (l : List Int) (k : Nat) (h : k < l.length) : l.take (k + 1) = l.take k ++ [rd l (k : Int)] := by
  rw [List.take_succ_eq_append_getElem h, rd, List.getD_eq_getElem?_getD, List.getElem?_eq_getElem (by simpa using h)]; rfl
theorem fold_snoc (l : List Int) (k : Nat) (h : k < l.length) (x : SIns) : (l.take (k + 1)).foldl clr x = clr ((l.take k).foldl clr x) (rd l (k : Int)) := by rw [take_snoc' l k h, List.foldl_append]; rfl
/-- what the parts of an operation are as a text -/
structure Txt (op : Int) (s : ByteArray) (l : List Int) : Prop where
  eq : partsB op = s
  is : partsL op = l
  sz : s.size = l.length
  at_ : ∀ k : Nat, k < l.length → ∀ h : k < s.size, (((s[k]'h).toNat : Nat) : Int) = rd l (k : Int)
theorem txt (op : Int) : ∃ s l, Txt op s l ∧ l.length ≤ 3 := ⟨_, _, ⟨rfl, rfl, strOf_size _, fun k hk h => strOf_at _ k h (by
  rcases partsL_at op k hk with h | h | h | h | h | h | h <;> rw [h] <;> decide)⟩, (partsL_ok op).2⟩
theorem Parts_txt {op : Int} {s : ByteArray} {l : List Int} {base : Nat} {w : World} (hT : Txt op s l) (hG : GlobA base w) :
    Calls Tryd.prog 17 #[.int .i64 op] w fun e w' => e = .returned (.string s) ∧ w = w' := by
  have := Parts_any op base w hG
  rwa [hT.eq] at this

theorem field_n (g : Nat) (c : Int) (n : Nat) (w : World) (h : fldN c = n) :
    Calls Tryd.prog 59 #[.pointer (some ⟨g, 0, none⟩), .int .u8 c] w fun e w' => e = .returned (.pointer (some ⟨g, n, none⟩)) ∧ w = w' := h ▸ field_any g c w
set_option maxHeartbeats 4000000 in
theorem bare_any (x : SIns) (A : Option Addr) (c : Nat) (base : Nat) (w : World) (hl : x.f6.length ≤ 9223372036854775807) (hG : GlobA base w) (hb : base ≤ w.heap.size) :
    Calls Tryd.prog 57 #[insV x A c] w fun e w' => e = .returned (.bool (bareB x)) ∧ Bel w w' := by
  obtain ⟨s, l, hT, hl3⟩ := txt x.f0
  have hsz := hT.sz
  replace hT := Aside0.mk hT
  have hG1 : ∀ o, GlobA base (w.alloc o) := fun o => ⟨hG.out.step ((Bel.refl w).alloc o) hb⟩
  replace hG1 := Aside0.mk hG1
  unfold insV
  go_enter Tryd.func57, Tryd.ntmps57
  go_wp2_with (go_at_call 17; ((with_reducible refine (Parts_txt hT.out (hG1.out _)).mono ?_); rintro e w' ⟨rfl, rfl⟩))
  go_loopw [9] (fun i W => ∃ k : Nat, k ≤ l.length ∧ i = .int .i64 k ∧ Aside0 (IsIns W w.heap.size ((l.take k).foldl clr x)) ∧ Bel w W) (fun i _ => l.length - (intOf i).toNat)
  case atStart => exact ⟨0, by omega, rfl, ⟨A, c, hl, by simpa [insC] using heap_alloc_new w _⟩, (Bel.refl _).alloc _⟩
  case round =>
    obtain ⟨k, hk, rfl, hx, hB⟩ := hrel
    have hGr : GlobA base wr := ⟨hG.out.step hB hb⟩
    obtain ⟨y, hy⟩ : ∃ y, Aside0 ((l.take k).foldl clr x = y) := ⟨_, ⟨rfl⟩⟩
    have hy0 : y.f0 = x.f0 := by rw [← hy.out, fold_f0]
    rw [hy.out] at hx
    obtain ⟨A', c', hyl, hblk⟩ := hx.out
    have c0 : wr.cell? ⟨w.heap.size, 0, none⟩ = some (.int .i64 x.f0) := by rw [← hy0]; exact blk_cell hblk 0
    have c1 : wr.cell? ⟨w.heap.size, 1, none⟩ = some (.int .i64 y.f1) := blk_cell hblk 1
    have c2 : wr.cell? ⟨w.heap.size, 2, none⟩ = some (.int .i64 y.f2) := blk_cell hblk 2
    have c3 : wr.cell? ⟨w.heap.size, 3, none⟩ = some (.int .i64 y.f3) := blk_cell hblk 3
    have c4 : wr.cell? ⟨w.heap.size, 4, none⟩ = some (.int .i64 y.f4) := blk_cell hblk 4
    have c5 : wr.cell? ⟨w.heap.size, 5, none⟩ = some (.int .i64 y.f5) := blk_cell hblk 5
    have c6 : wr.cell? ⟨w.heap.size, 6, none⟩ = some (.slice A' y.f6.length c') := blk_cell hblk 6
    have f1 := blk_frozen hblk 1
    have f2 := blk_frozen hblk 2
    have f3 := blk_frozen hblk 3
    have f4 := blk_frozen hblk 4
    have f5 := blk_frozen hblk 5
    have f6 := blk_frozen hblk 6
    replace hblk := Aside0.mk hblk
    replace hy0 := Aside0.mk hy0
    by_cases hlt : k < l.length
    · have hlet := hT.out.is ▸ partsL_at x.f0 k (by rw [hT.out.is]; exact hlt)
      rcases hlet with hc | hc | hc | hc | hc | hc | hc
      · skip
        clear hx
        have hcl := Aside0.mk (fold_snoc l k hlt x)
        rw [hy.out] at hcl
        have hidx := fun h => by have := hT.out.at_ k hlt h; rw [hc] at this; exact this
        replace hc := Aside0.mk hc
        go_wp2_with (first | (go_at_call 17; ((with_reducible refine (Parts_txt hT.out hGr).mono ?_); rintro e w' ⟨rfl, rfl⟩)) | (go_at_call 59; ((with_reducible refine (field_n _ 68 1 _ rfl).mono ?_); rintro e w' ⟨rfl, rfl⟩)))
        go_roundw
        case rel => exact ⟨k + 1, by omega, by go_num, ⟨by rw [hcl.out, hc.out]; exact ⟨_, _, by first | exact hyl | simp [clr], (blk_set hblk.out 1 _).trans rfl⟩⟩, ⟨hB.out.setCell (p := ⟨w.heap.size, 1, none⟩) (Nat.le_refl _) _⟩⟩
        case measure => simp [intOf]; omega
      · skip
        clear hx
        have hcl := Aside0.mk (fold_snoc l k hlt x)
        rw [hy.out] at hcl
        have hidx := fun h => by have := hT.out.at_ k hlt h; rw [hc] at this; exact this
        replace hc := Aside0.mk hc
        go_wp2_with (first | (go_at_call 17; ((with_reducible refine (Parts_txt hT.out hGr).mono ?_); rintro e w' ⟨rfl, rfl⟩)) | (go_at_call 59; ((with_reducible refine (field_n _ 65 2 _ rfl).mono ?_); rintro e w' ⟨rfl, rfl⟩)))
        go_roundw
        case rel => exact ⟨k + 1, by omega, by go_num, ⟨by rw [hcl.out, hc.out]; exact ⟨_, _, by first | exact hyl | simp [clr], (blk_set hblk.out 2 _).trans rfl⟩⟩, ⟨hB.out.setCell (p := ⟨w.heap.size, 2, none⟩) (Nat.le_refl _) _⟩⟩
        case measure => simp [intOf]; omega
      · skip
        clear hx
        have hcl := Aside0.mk (fold_snoc l k hlt x)
        rw [hy.out] at hcl
        have hidx := fun h => by have := hT.out.at_ k hlt h; rw [hc] at this; exact this
        replace hc := Aside0.mk hc
        go_wp2_with (first | (go_at_call 17; ((with_reducible refine (Parts_txt hT.out hGr).mono ?_); rintro e w' ⟨rfl, rfl⟩)) | (go_at_call 59; ((with_reducible refine (field_n _ 66 3 _ rfl).mono ?_); rintro e w' ⟨rfl, rfl⟩)))
        go_roundw
        case rel => exact ⟨k + 1, by omega, by go_num, ⟨by rw [hcl.out, hc.out]; exact ⟨_, _, by first | exact hyl | simp [clr], (blk_set hblk.out 3 _).trans rfl⟩⟩, ⟨hB.out.setCell (p := ⟨w.heap.size, 3, none⟩) (Nat.le_refl _) _⟩⟩
        case measure => simp [intOf]; omega
      · skip
        clear hx
        have hcl := Aside0.mk (fold_snoc l k hlt x)
        rw [hy.out] at hcl
        have hidx := fun h => by have := hT.out.at_ k hlt h; rw [hc] at this; exact this
        replace hc := Aside0.mk hc
        go_wp2_with (first | (go_at_call 17; ((with_reducible refine (Parts_txt hT.out hGr).mono ?_); rintro e w' ⟨rfl, rfl⟩)) | (go_at_call 59; ((with_reducible refine (field_n _ 77 5 _ rfl).mono ?_); rintro e w' ⟨rfl, rfl⟩)))
        go_roundw
        case rel => exact ⟨k + 1, by omega, by go_num, ⟨by rw [hcl.out, hc.out]; exact ⟨_, _, by first | exact hyl | simp [clr], (blk_set hblk.out 5 _).trans rfl⟩⟩, ⟨hB.out.setCell (p := ⟨w.heap.size, 5, none⟩) (Nat.le_refl _) _⟩⟩
        case measure => simp [intOf]; omega
      · skip
        clear hx
        have hcl := Aside0.mk (fold_snoc l k hlt x)
        rw [hy.out] at hcl
        have hidx := fun h => by have := hT.out.at_ k hlt h; rw [hc] at this; exact this
        replace hc := Aside0.mk hc
        go_wp2_with (first | (go_at_call 17; ((with_reducible refine (Parts_txt hT.out hGr).mono ?_); rintro e w' ⟨rfl, rfl⟩)) | (go_at_call 59; ((with_reducible refine (field_n _ 78 4 _ rfl).mono ?_); rintro e w' ⟨rfl, rfl⟩)))
        go_roundw
        case rel => exact ⟨k + 1, by omega, by go_num, ⟨by rw [hcl.out, hc.out]; exact ⟨_, _, by first | exact hyl | simp [clr], (blk_set hblk.out 4 _).trans rfl⟩⟩, ⟨hB.out.setCell (p := ⟨w.heap.size, 4, none⟩) (Nat.le_refl _) _⟩⟩
        case measure => simp [intOf]; omega
      · skip
        clear hx
        have hcl := Aside0.mk (fold_snoc l k hlt x)
        rw [hy.out] at hcl
        have hidx := fun h => by have := hT.out.at_ k hlt h; rw [hc] at this; exact this
        replace hc := Aside0.mk hc
        go_wp2_with (first | (go_at_call 17; ((with_reducible refine (Parts_txt hT.out hGr).mono ?_); rintro e w' ⟨rfl, rfl⟩)) | (go_at_call 59; ((with_reducible refine (field_n _ 110 4 _ rfl).mono ?_); rintro e w' ⟨rfl, rfl⟩)))
        go_roundw
        case rel => exact ⟨k + 1, by omega, by go_num, ⟨by rw [hcl.out, hc.out]; exact ⟨_, _, by first | exact hyl | simp [clr], (blk_set hblk.out 4 _).trans rfl⟩⟩, ⟨hB.out.setCell (p := ⟨w.heap.size, 4, none⟩) (Nat.le_refl _) _⟩⟩
        case measure => simp [intOf]; omega
      · skip
        clear hx
        have hcl := Aside0.mk (fold_snoc l k hlt x)
        rw [hy.out] at hcl
        have hidx := fun h => by have := hT.out.at_ k hlt h; rw [hc] at this; exact this
        replace hc := Aside0.mk hc
        go_wp2_with (first | (go_at_call 17; ((with_reducible refine (Parts_txt hT.out hGr).mono ?_); rintro e w' ⟨rfl, rfl⟩)) | (go_at_call 59; ((with_reducible refine (field_n _ 76 6 _ rfl).mono ?_); rintro e w' ⟨rfl, rfl⟩)))
        go_roundw
        case rel => exact ⟨k + 1, by omega, by go_num, ⟨by rw [hcl.out, hc.out]; exact ⟨_, _, by first | exact hyl | simp [clr], (blk_set hblk.out 6 _).trans rfl⟩⟩, ⟨hB.out.setCell (p := ⟨w.heap.size, 6, none⟩) (Nat.le_refl _) _⟩⟩
        case measure => simp [intOf]; omega
    · have hv : Aside0 (bareB x = (y.f1 == 0 && (y.f2 == 0 && (y.f3 == 0 && (y.f4 == 0 && (y.f5 == 0 && decide (y.f6.length = 0))))))) := ⟨by
        have e : bareL x = y := by unfold bareL; rw [hT.out.is, ← hy.out, List.take_of_length_le (by omega)]
        unfold bareB; rw [e]⟩
      clear hx
      cases b1 : (y.f1 == 0) with
      | false =>
        go_wp2
        go_ret
        exact ⟨by rw [hv.out]; simp only [b1, Bool.false_and, Bool.true_and, Bool.and_false, Bool.and_true]; rfl, hB⟩
      | true =>
        cases b2 : (y.f2 == 0) with
        | false =>
          go_wp2
          go_ret
          exact ⟨by rw [hv.out]; simp only [b1, b2, Bool.false_and, Bool.true_and, Bool.and_false, Bool.and_true]; rfl, hB⟩
        | true =>
          cases b3 : (y.f3 == 0) with
          | false =>
            go_wp2
            go_ret
            exact ⟨by rw [hv.out]; simp only [b1, b2, b3, Bool.false_and, Bool.true_and, Bool.and_false, Bool.and_true]; rfl, hB⟩
          | true =>
            cases b4 : (y.f4 == 0) with
            | false =>
              go_wp2
              go_ret
              exact ⟨by rw [hv.out]; simp only [b1, b2, b3, b4, Bool.false_and, Bool.true_and, Bool.and_false, Bool.and_true]; rfl, hB⟩
            | true =>
              cases b5 : (y.f5 == 0) with
              | false =>
                go_wp2
                go_ret
                exact ⟨by rw [hv.out]; simp only [b1, b2, b3, b4, b5, Bool.false_and, Bool.true_and, Bool.and_false, Bool.and_true]; rfl, hB⟩
              | true =>
                cases b6 : decide (y.f6.length = 0) with
                | false =>
                  have b7 : (y.f6.length == 0) = false := by simpa using b6
                  have b8 : ((y.f6.length : Int) == 0) = false := by simpa using b6
                  go_wp2
                  go_ret
                  exact ⟨by rw [hv.out]; simp only [b1, b2, b3, b4, b5, b6, Bool.false_and, Bool.true_and, Bool.and_false, Bool.and_true]; rfl, hB⟩
                | true =>
                  have b7 : (y.f6.length == 0) = true := by simpa using b6
                  have b8 : ((y.f6.length : Int) == 0) = true := by simpa using b6
                  go_wp2
                  go_ret
                  exact ⟨by rw [hv.out]; simp only [b1, b2, b3, b4, b5, b6, Bool.false_and, Bool.true_and, Bool.and_false, Bool.and_true]; rfl, hB⟩
end Go.Proofs.YtijdmnjkiiemlaaDoor.H
