/- Layer 3, the reference: the writer, and a number. -/
import Derived.Test.YtijdmnjkiiemlaaDoorRe2
import Derived.Test.YtijdmnjkiiemlaaDoorCw6
namespace Go.Proofs.YtijdmnjkiiemlaaDoor.H
open Go.RowKit Go.Proofs.YtijdmnjkiiemlaaDoorW.PrintWords Go.Proofs.YtijdmnjkiiemlaaDoorW.PrintLast
set_option linter.unusedVariables false
set_option linter.unusedSimpArgs false

abbrev VT : List Nat := [57]
/-- the document's writer at g: its bytes (if all could be put), and whether all could be -/
structure IsV (base : Nat) (W : World) (g : Nat) (bs : List Int) (ok : Bool) (v : Value) : Prop where
  ge : base ≤ g
  lt : base ≤ W.heap.size
  blk : W.heap[g]? = some (.cells #[v, .bool ok] 57 (0, 0))
  own : OwnAt (Kd.int .u8) 5 base W v bs
abbrev IsVA (base : Nat) (W : World) (g : Nat) (bs : List Int) (ok : Bool) : Prop := Aside0 (∃ v, IsV base W g bs ok v)
theorem IsV.keep {base g : Nat} {W W1 : World} {bs : List Int} {ok : Bool} {v : Value} (h : IsV base W g bs ok v) (k : Bel W W1) : IsV base W1 g bs ok v :=
  ⟨h.ge, Nat.le_trans h.lt k.size, (k.out.block g (blk_lt h.blk)).trans h.blk, h.own.step k⟩
theorem IsV.setB {base g : Nat} {W : World} {bs bs1 : List Int} {ok : Bool} {v v1 : Value} (h : IsV base W g bs ok v) (ho : OwnAt (Kd.int .u8) 5 base W v1 bs1) :
    IsV base (W.setCell ⟨g, 0, none⟩ v1) g bs1 ok v1 ∧ KT VT base W (W.setCell ⟨g, 0, none⟩ v1) := by
  have ks : KT VT base W (W.setCell ⟨g, 0, none⟩ v1) := KT.set h.blk (by decide) h.ge 0 v1
  exact ⟨⟨h.ge, Nat.le_trans h.lt ks.size, (blk_set h.blk 0 v1).trans rfl, ho.keep ks (by decide)⟩, ks⟩
theorem IsV.setM {base g : Nat} {W : World} {bs : List Int} {ok : Bool} {v : Value} (h : IsV base W g bs ok v) (b : Bool) :
    IsV base (W.setCell ⟨g, 1, none⟩ (.bool b)) g bs b v ∧ KT VT base W (W.setCell ⟨g, 1, none⟩ (.bool b)) := by
  have ks : KT VT base W (W.setCell ⟨g, 1, none⟩ (.bool b)) := KT.set h.blk (by decide) h.ge 1 _
  exact ⟨⟨h.ge, Nat.le_trans h.lt ks.size, (blk_set h.blk 1 _).trans rfl, h.own.keep ks (by decide)⟩, ks⟩

set_option maxHeartbeats 2000000 in
theorem vnum_any (n : Int) (base g : Nat) (bs : List Int) (ok : Bool) (w : World) (hV : IsVA base w g bs ok) (h1 : n ≤ 9223372036854775807) (hbs : bs.length ≤ 100000000000) :
    Calls Tryd.prog 25 #[.pointer (some ⟨g, 0, none⟩), .int .i64 n] w fun e w' => e = .returned (.tuple #[]) ∧ IsVA base w' g (bs ++ putL n) (ok && !negB n) ∧ Aside0 (KT VT base w w') := by
  obtain ⟨v, hv⟩ := hV.out
  obtain ⟨A, c, rfl, hc, hR⟩ := hv.own.reads
  have x0 : w.cell? ⟨g, 0, none⟩ = some (.slice A bs.length c) := blk_cell hv.blk 0
  have x1 : w.cell? ⟨g, 1, none⟩ = some (.bool ok) := blk_cell hv.blk 1
  have f1 := blk_frozen hv.blk 1
  by_cases hn : n < 0
  · have hs := Aside0.mk (hv.setM false)
    have e1 : putL n = [] := by unfold putL; rw [if_pos hn]
    have e2 : negB n = true := decide_eq_true hn
    rw [e1, e2, List.append_nil]
    clear e1 e2
    replace hv := Aside0.mk hv
    go_enter Tryd.func25, Tryd.ntmps25
    go_wp2
    exact bodyPost_ret (v := .tuple #[]) (by simp [results, Tryd.results25, go_sem]) rfl ⟨rfl, ⟨⟨_, by simpa using hs.out.1⟩⟩, ⟨hs.out.2⟩⟩
  · have e2 : negB n = false := decide_eq_false hn
    rw [e2]
    have hcall := refPut_any A c bs n w hR (by omega) h1
    obtain ⟨y, hy⟩ : ∃ y, Aside0 (bs ++ putL n = y) := ⟨_, ⟨rfl⟩⟩
    rw [hy.out] at hcall
    replace hcall := Aside0.mk hcall
    clear e2
    replace hv := Aside0.mk hv
    go_enter Tryd.func25, Tryd.ntmps25
    go_wp2_with (go_at_call 45; ((with_reducible refine hcall.out.mono ?_); rintro e w' ⟨v1, rfl, hO, hB⟩; obtain ⟨A1, c1, rfl, _, _⟩ := hO.reads; have hv1 := hv.out.keep hB; have cz : w'.cell? ⟨g, 0, none⟩ = some (.slice A bs.length c) := blk_cell hv1.blk 0; have fz := blk_frozen hv1.blk 0))
    have hs := hv1.setB (OwnAt.of_own hO hv.out.lt)
    go_end0
    exact ⟨rfl, ⟨⟨_, by rw [hy.out]; simpa using hs.1⟩⟩, ⟨(KT.of_bel hB hv.out.lt VT).trans hs.2⟩⟩
end Go.Proofs.YtijdmnjkiiemlaaDoor.H
