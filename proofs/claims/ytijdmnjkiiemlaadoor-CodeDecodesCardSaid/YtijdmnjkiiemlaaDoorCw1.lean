/- Layer 3, walks: the parts of an operation; a field's place. -/
import Derived.Test.YtijdmnjkiiemlaaDoorCp
import Derived.Test.YtijdmnjkiiemlaaDoorBk
namespace Go.Proofs.YtijdmnjkiiemlaaDoor.H
open Go.RowKit Go.Proofs.YtijdmnjkiiemlaaDoorW.PrintWords
set_option linter.unusedVariables false
set_option linter.unusedSimpArgs false

/-- The variable 'parts' holds the table; base lies behind it. -/
structure Glob (base : Nat) (W : World) : Prop where
  pos : 0 < base
  at_ : ∀ i : Nat, i < 24 → W.cell? ⟨0, i, none⟩ = some (.string (strOf (partsN i)))
theorem Glob.below {base : Nat} {W W1 : World} (h : Glob base W) (k : Below base W W1) : Glob base W1 := ⟨h.pos, fun i hi => (k.cell (p := ⟨0, i, none⟩) h.pos).trans (h.at_ i hi)⟩
theorem Glob.step {base : Nat} {W W1 : World} (h : Glob base W) (k : Bel W W1) (hb : base ≤ W.heap.size) : Glob base W1 := h.below (k.out.mono hb)
abbrev GlobA (base : Nat) (W : World) : Prop := Aside0 (Glob base W)

set_option maxHeartbeats 400000 in
theorem Parts_any (op : Int) (base : Nat) (w : World) (hG : GlobA base w) :
    Calls Tryd.prog 17 #[.int .i64 op] w fun e w' => e = .returned (.string (partsB op)) ∧ w = w' := by
  by_cases h0 : op < 0
  · have e : partsB op = ByteArray.empty := by unfold partsB partsL; rw [if_neg (by omega)]; rfl
    replace e := Aside0.mk e
    go_enter Tryd.func17, Tryd.ntmps17
    go_wp2
    go_ret
    exact ⟨by rw [e.out]; rfl, rfl⟩
  · by_cases h1 : 24 ≤ op
    · have e : partsB op = ByteArray.empty := by unfold partsB partsL; rw [if_neg (by omega)]; rfl
      replace e := Aside0.mk e
      go_enter Tryd.func17, Tryd.ntmps17
      go_wp2
      go_ret
      exact ⟨by rw [e.out]; rfl, rfl⟩
    · obtain ⟨k, rfl⟩ := Int.eq_ofNat_of_zero_le (show 0 ≤ op by omega)
      have hk : k < 24 := by omega
      have hc := hG.out.at_ k hk
      have e : partsB (k : Int) = strOf (partsN k) := by unfold partsB partsL; rw [if_pos (by omega)]; rfl
      replace e := Aside0.mk e
      obtain ⟨s, hs⟩ : ∃ s, strOf (partsN k) = s := ⟨_, rfl⟩
      rw [hs] at hc
      replace hs := Aside0.mk hs
      go_enter Tryd.func17, Tryd.ntmps17
      go_wp2
      go_ret
      exact ⟨by rw [e.out, hs.out]; rfl, rfl⟩

set_option maxHeartbeats 1000000 in
theorem field_any (g : Nat) (c : Int) (w : World) :
    Calls Tryd.prog 59 #[.pointer (some ⟨g, 0, none⟩), .int .u8 c] w fun e w' => e = .returned (.pointer (some ⟨g, fldN c, none⟩)) ∧ w = w' := by
  by_cases h1 : c = 68
  · subst h1
    have hn : Aside0 (fldN 68 = 1) := ⟨rfl⟩
    go_enter Tryd.func59, Tryd.ntmps59
    go_wp2
    go_ret
    exact ⟨by rw [hn.out]; rfl, rfl⟩
  by_cases h2 : c = 65
  · subst h2
    have hn : Aside0 (fldN 65 = 2) := ⟨rfl⟩
    go_enter Tryd.func59, Tryd.ntmps59
    go_wp2
    go_ret
    exact ⟨by rw [hn.out]; rfl, rfl⟩
  by_cases h3 : c = 66
  · subst h3
    have hn : Aside0 (fldN 66 = 3) := ⟨rfl⟩
    go_enter Tryd.func59, Tryd.ntmps59
    go_wp2
    go_ret
    exact ⟨by rw [hn.out]; rfl, rfl⟩
  by_cases h4 : c = 77
  · subst h4
    have hn : Aside0 (fldN 77 = 5) := ⟨rfl⟩
    go_enter Tryd.func59, Tryd.ntmps59
    go_wp2
    go_ret
    exact ⟨by rw [hn.out]; rfl, rfl⟩
  have b1 : (c == 68) = false := by simpa using h1
  have b2 : (c == 65) = false := by simpa using h2
  have b3 : (c == 66) = false := by simpa using h3
  have b4 : (c == 77) = false := by simpa using h4
  have hn : Aside0 (fldN c = 4) := ⟨by simp [fldN, h1, h2, h3, h4]⟩
  clear h1 h2 h3 h4
  go_enter Tryd.func59, Tryd.ntmps59
  go_wp2
  go_ret
  exact ⟨by rw [hn.out]; rfl, rfl⟩
end Go.Proofs.YtijdmnjkiiemlaaDoor.H
