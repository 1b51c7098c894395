/- Layer 1, more walks: sizes, lists. -/
import Derived.Test.YtceibabhmomfiaaDoorVh
import Derived.Lib.Strings
import Derived.Lib.Slices
import Derived.Lib.Small
import Derived.Lib.Walk
import Derived.Lib.BitFns
namespace Go.Proofs.YtceibabhmomfiaaDoor.H
open Go.RowKit Go.Proofs.YtceibabhmomfiaaDoorW.PrintWords
set_option linter.unusedVariables false
set_option linter.unusedSimpArgs false

/-- numbers' bytes, one behind the other -/
def listL (l : List Int) : List Int := (l.map putL).flatten
theorem listL_snoc (l : List Int) (n : Int) : listL (l ++ [n]) = listL l ++ putL n := by simp [listL]
theorem putL_len (n : Int) : (putL n).length ≤ 10 := by
  unfold putL
  split
  · simp
  · exact (digs_len 9 n).2
theorem listL_len (l : List Int) : (listL l).length ≤ 10 * l.length := by
  induction l with
  | nil => simp [listL]
  | cons x r ih => have := putL_len x; simp [listL] at ih ⊢; omega
theorem take_snoc (l : List Int) (k : Nat) (h : k < l.length) : l.take (k + 1) = l.take k ++ [rd l (k : Int)] := by
  rw [List.take_succ_eq_append_getElem h, rd, List.getD_eq_getElem?_getD, List.getElem?_eq_getElem (by simpa using h)]; rfl
/-- ints -/
abbrev IntsOk (l : List Int) : Prop := Aside0 (∀ x ∈ l, -9223372036854775808 ≤ x ∧ x ≤ 9223372036854775807)
theorem IntsOk.at_ {l : List Int} (h : IntsOk l) (k : Nat) (h1 : k < l.length) : -9223372036854775808 ≤ rd l (k : Int) ∧ rd l (k : Int) ≤ 9223372036854775807 := by
  refine h.out _ ?_
  rw [rd, List.getD_eq_getElem?_getD, List.getElem?_eq_getElem (by simpa using h1)]
  exact List.getElem_mem _

set_option maxHeartbeats 1000000 in
theorem List_any (A : Option Addr) (c : Nat) (l : List Int) (w : World) (HR : RdI w A l) (hok : IntsOk l) (hl : l.length ≤ 10000000000000) :
    Calls Tryd.prog 39 #[.slice A l.length c] w fun e w' => ∃ v : Value, e = .returned v ∧ OwnB w w' v (listL l) ∧ Bel w w' := by
  go_enter Tryd.func39, Tryd.ntmps39
  go_wp2
  go_loopw [3, 8] (fun v i W => ∃ k : Nat, k ≤ l.length ∧ i = .int .i64 k ∧ OwnB w W v (listL (l.take k)) ∧ Bel w W) (fun _ i _ => l.length - (intOf i).toNat)
  case atStart => exact ⟨0, by omega, rfl, by simpa [listL] using Own.nil _ _ _ _, Bel.refl _⟩
  case round =>
    obtain ⟨k, hk, rfl, hR, hB⟩ := hrel
    by_cases hlt : k < l.length
    · obtain ⟨ad, rfl, hcell⟩ := rd_atN (HR.step hB) k hlt
      have hx := hok.at_ k hlt
      have hts := Aside0.mk (take_snoc l k hlt)
      have hlen := Aside0.mk (listL_len (l.take k))
      obtain ⟨A2, c2, rfl, hc2, hRd⟩ := hR.reads
      go_wp2_with (go_at_call 68; refine (Put_any A2 c2 (listL (l.take k)) _ wr hc2 hRd.nil_of hRd (by have := hlen.out; rw [List.length_take] at this; omega) hx.2).mono ?_; rintro e w' ⟨v2, rfl, hR2, hB2⟩)
      go_roundw
      case rel => exact ⟨k + 1, by omega, by go_num, by rw [hts.out, listL_snoc]; exact hR2.lower hB, hB.trans hB2⟩
      case measure => simp [intOf]; omega
    · have hts := Aside0.mk (List.take_of_length_le (show l.length ≤ k by omega))
      go_wp2
      go_ret
      exact ⟨_, rfl, by rw [hts.out] at hR; exact hR, hB⟩

/-- bytes' numbers -/
def splitGo : Nat → List Int → List Int → List Int × Int
  | 0, _, _ => ([], 0)
  | f + 1, l, out => if l = [] then (out, 0) else if (getL 9 l).2.2 ≠ 0 then ([], (getL 9 l).2.2) else splitGo f (l.drop (getL 9 l).2.1.toNat) (out ++ [(getL 9 l).1])

end Go.Proofs.YtceibabhmomfiaaDoor.H
