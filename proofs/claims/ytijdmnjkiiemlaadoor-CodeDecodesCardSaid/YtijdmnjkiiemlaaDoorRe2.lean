/- Layer 3, the reference: parts, letters, fields. -/
import Derived.Test.YtijdmnjkiiemlaaDoorCw3
namespace Go.Proofs.YtijdmnjkiiemlaaDoor.H
open Go.RowKit Go.Proofs.YtijdmnjkiiemlaaDoorW.PrintWords Go.Proofs.YtijdmnjkiiemlaaDoorW.PrintLast
set_option linter.unusedVariables false
set_option linter.unusedSimpArgs false

set_option maxHeartbeats 2000000 in
theorem refParts_any (op : Int) (w : World) :
    Calls Tryd.prog 18 #[.int .i64 op] w fun e w' => e = .returned (.string (partsB op)) ∧ w = w' := by
  by_cases h1 : op = 1
  case pos =>
    subst h1
    go_enter Tryd.func18, Tryd.ntmps18
    go_wp2
    go_ret
    exact ⟨by first | rfl | kernel_rfl, rfl⟩
  by_cases h2 : op = 2
  case pos =>
    subst h2
    go_enter Tryd.func18, Tryd.ntmps18
    go_wp2
    go_ret
    exact ⟨by first | rfl | kernel_rfl, rfl⟩
  by_cases h3 : op = 3
  case pos =>
    subst h3
    go_enter Tryd.func18, Tryd.ntmps18
    go_wp2
    go_ret
    exact ⟨by first | rfl | kernel_rfl, rfl⟩
  by_cases h4 : op = 4
  case pos =>
    subst h4
    go_enter Tryd.func18, Tryd.ntmps18
    go_wp2
    go_ret
    exact ⟨by first | rfl | kernel_rfl, rfl⟩
  by_cases h5 : op = 5
  case pos =>
    subst h5
    go_enter Tryd.func18, Tryd.ntmps18
    go_wp2
    go_ret
    exact ⟨by first | rfl | kernel_rfl, rfl⟩
  by_cases h6 : op = 6
  case pos =>
    subst h6
    go_enter Tryd.func18, Tryd.ntmps18
    go_wp2
    go_ret
    exact ⟨by first | rfl | kernel_rfl, rfl⟩
  by_cases h7 : op = 7
  case pos =>
    subst h7
    go_enter Tryd.func18, Tryd.ntmps18
    go_wp2
    go_ret
    exact ⟨by first | rfl | kernel_rfl, rfl⟩
  by_cases h8 : op = 8
  case pos =>
    subst h8
    go_enter Tryd.func18, Tryd.ntmps18
    go_wp2
    go_ret
    exact ⟨by first | rfl | kernel_rfl, rfl⟩
  by_cases h9 : op = 9
  case pos =>
    subst h9
    go_enter Tryd.func18, Tryd.ntmps18
    go_wp2
    go_ret
    exact ⟨by first | rfl | kernel_rfl, rfl⟩
  by_cases h10 : op = 10
  case pos =>
    subst h10
    go_enter Tryd.func18, Tryd.ntmps18
    go_wp2
    go_ret
    exact ⟨by first | rfl | kernel_rfl, rfl⟩
  by_cases h11 : op = 11
  case pos =>
    subst h11
    go_enter Tryd.func18, Tryd.ntmps18
    go_wp2
    go_ret
    exact ⟨by first | rfl | kernel_rfl, rfl⟩
  by_cases h12 : op = 12
  case pos =>
    subst h12
    go_enter Tryd.func18, Tryd.ntmps18
    go_wp2
    go_ret
    exact ⟨by first | rfl | kernel_rfl, rfl⟩
  by_cases h13 : op = 13
  case pos =>
    subst h13
    go_enter Tryd.func18, Tryd.ntmps18
    go_wp2
    go_ret
    exact ⟨by first | rfl | kernel_rfl, rfl⟩
  by_cases h14 : op = 14
  case pos =>
    subst h14
    go_enter Tryd.func18, Tryd.ntmps18
    go_wp2
    go_ret
    exact ⟨by first | rfl | kernel_rfl, rfl⟩
  by_cases h15 : op = 15
  case pos =>
    subst h15
    go_enter Tryd.func18, Tryd.ntmps18
    go_wp2
    go_ret
    exact ⟨by first | rfl | kernel_rfl, rfl⟩
  by_cases h16 : op = 16
  case pos =>
    subst h16
    go_enter Tryd.func18, Tryd.ntmps18
    go_wp2
    go_ret
    exact ⟨by first | rfl | kernel_rfl, rfl⟩
  by_cases h17 : op = 17
  case pos =>
    subst h17
    go_enter Tryd.func18, Tryd.ntmps18
    go_wp2
    go_ret
    exact ⟨by first | rfl | kernel_rfl, rfl⟩
  by_cases h18 : op = 18
  case pos =>
    subst h18
    go_enter Tryd.func18, Tryd.ntmps18
    go_wp2
    go_ret
    exact ⟨by first | rfl | kernel_rfl, rfl⟩
  by_cases h19 : op = 19
  case pos =>
    subst h19
    go_enter Tryd.func18, Tryd.ntmps18
    go_wp2
    go_ret
    exact ⟨by first | rfl | kernel_rfl, rfl⟩
  by_cases h20 : op = 20
  case pos =>
    subst h20
    go_enter Tryd.func18, Tryd.ntmps18
    go_wp2
    go_ret
    exact ⟨by first | rfl | kernel_rfl, rfl⟩
  by_cases h21 : op = 21
  case pos =>
    subst h21
    go_enter Tryd.func18, Tryd.ntmps18
    go_wp2
    go_ret
    exact ⟨by first | rfl | kernel_rfl, rfl⟩
  by_cases h22 : op = 22
  case pos =>
    subst h22
    go_enter Tryd.func18, Tryd.ntmps18
    go_wp2
    go_ret
    exact ⟨by first | rfl | kernel_rfl, rfl⟩
  by_cases h23 : op = 23
  case pos =>
    subst h23
    go_enter Tryd.func18, Tryd.ntmps18
    go_wp2
    go_ret
    exact ⟨by first | rfl | kernel_rfl, rfl⟩
  have b1 : (op == 1) = false := by simpa using h1
  have b2 : (op == 2) = false := by simpa using h2
  have b3 : (op == 3) = false := by simpa using h3
  have b4 : (op == 4) = false := by simpa using h4
  have b5 : (op == 5) = false := by simpa using h5
  have b6 : (op == 6) = false := by simpa using h6
  have b7 : (op == 7) = false := by simpa using h7
  have b8 : (op == 8) = false := by simpa using h8
  have b9 : (op == 9) = false := by simpa using h9
  have b10 : (op == 10) = false := by simpa using h10
  have b11 : (op == 11) = false := by simpa using h11
  have b12 : (op == 12) = false := by simpa using h12
  have b13 : (op == 13) = false := by simpa using h13
  have b14 : (op == 14) = false := by simpa using h14
  have b15 : (op == 15) = false := by simpa using h15
  have b16 : (op == 16) = false := by simpa using h16
  have b17 : (op == 17) = false := by simpa using h17
  have b18 : (op == 18) = false := by simpa using h18
  have b19 : (op == 19) = false := by simpa using h19
  have b20 : (op == 20) = false := by simpa using h20
  have b21 : (op == 21) = false := by simpa using h21
  have b22 : (op == 22) = false := by simpa using h22
  have b23 : (op == 23) = false := by simpa using h23
  have e : partsB op = ByteArray.empty := by
    have h0 : partsL op = [] := by
      unfold partsL
      split
      · have : op = 0 := by omega
        rw [this]; rfl
      · rfl
    unfold partsB
    rw [h0]; rfl
  rw [e]
  clear e h1 h2 h3 h4 h5 h6 h7 h8 h9 h10 h11 h12 h13 h14 h15 h16 h17 h18 h19 h20 h21 h22 h23
  go_enter Tryd.func18, Tryd.ntmps18
  go_wp2
  go_ret
  exact ⟨rfl, rfl⟩
theorem refParts_txt {op : Int} {s : ByteArray} {l : List Int} {w : World} (hT : Txt op s l) :
    Calls Tryd.prog 18 #[.int .i64 op] w fun e w' => e = .returned (.string s) ∧ w = w' := by
  have := refParts_any op w
  rwa [hT.eq] at this

set_option maxHeartbeats 2000000 in
theorem refField_any (x : SIns) (A : Option Addr) (n : Nat) (c : Int) (w : World) :
    Calls Tryd.prog 47 #[insV x A n, .int .u8 c] w fun e w' => e = .returned (.int .i64 (fld x c)) ∧ Bel w w' := by
  have hB0 := (Bel.refl w).alloc (.cells #[.int .i64 x.f0, .int .i64 x.f1, .int .i64 x.f2, .int .i64 x.f3, .int .i64 x.f4, .int .i64 x.f5, .slice A x.f6.length n] 45)
  unfold insV fld
  by_cases h0 : c = 68
  · subst h0
    go_enter Tryd.func47, Tryd.ntmps47
    go_wp2
    go_ret
    exact ⟨rfl, hB0⟩
  by_cases h1 : c = 65
  · subst h1
    go_enter Tryd.func47, Tryd.ntmps47
    go_wp2
    go_ret
    exact ⟨rfl, hB0⟩
  by_cases h2 : c = 66
  · subst h2
    go_enter Tryd.func47, Tryd.ntmps47
    go_wp2
    go_ret
    exact ⟨rfl, hB0⟩
  by_cases h3 : c = 77
  · subst h3
    go_enter Tryd.func47, Tryd.ntmps47
    go_wp2
    go_ret
    exact ⟨rfl, hB0⟩
  rw [if_neg h0, if_neg h1, if_neg h2, if_neg h3]
  have b0 : (c == 68) = false := by simpa using h0
  have b1 : (c == 65) = false := by simpa using h1
  have b2 : (c == 66) = false := by simpa using h2
  have b3 : (c == 77) = false := by simpa using h3
  clear h0 h1 h2 h3
  go_enter Tryd.func47, Tryd.ntmps47
  go_wp2
  go_ret
  exact ⟨rfl, hB0⟩

/-- has a text a letter? -/
def hasB (l : List Int) (c : Int) : Bool := decide (c ∈ l)
theorem hasB_no {l : List Int} {c : Int} (h : ∀ k : Nat, k < l.length → rd l (k : Int) ≠ c) : hasB l c = false := by
  refine decide_eq_false fun hm => ?_
  obtain ⟨k, hk, e⟩ := List.mem_iff_getElem.1 hm
  exact h k hk (by rw [rd, List.getD_eq_getElem?_getD, List.getElem?_eq_getElem (by simpa using hk)]; simpa using e)
theorem hasB_yes {l : List Int} {c : Int} (k : Nat) (hk : k < l.length) (h : rd l (k : Int) = c) : hasB l c = true := by
  refine decide_eq_true ?_
  rw [← h, rd, List.getD_eq_getElem?_getD, List.getElem?_eq_getElem (by simpa using hk)]
  exact List.getElem_mem _
set_option maxHeartbeats 2000000 in
theorem has_ref {op : Int} {s : ByteArray} {l : List Int} (hT : Txt op s l) (c : Int) (w : World) :
    Calls Tryd.prog 48 #[.string s, .int .u8 c] w fun e w' => e = .returned (.bool (hasB l c)) ∧ w = w' := by
  have hsz := hT.sz
  have hl3 : l.length ≤ 3 := by rw [← hT.is]; exact (partsL_ok op).2
  replace hT := Aside0.mk hT
  go_enter Tryd.func48, Tryd.ntmps48
  go_wp2
  go_loopw [5] (fun i W => ∃ k : Nat, k ≤ l.length ∧ i = .int .i64 k ∧ Aside0 (∀ j : Nat, j < k → rd l (j : Int) ≠ c) ∧ w = W) (fun i _ => l.length - (intOf i).toNat)
  case atStart => exact ⟨0, by omega, rfl, ⟨fun j h => by omega⟩, rfl⟩
  case round =>
    obtain ⟨k, hk, rfl, hs, rfl⟩ := hrel
    by_cases hlt : k < l.length
    · have hidx := fun h => hT.out.at_ k hlt h
      by_cases he : rd l (k : Int) = c
      · have b1 : (rd l (k : Int) == c) = true := by simpa using he
        have hy := hasB_yes k hlt he
        replace hy := Aside0.mk hy
        clear he
        go_wp2
        go_ret
        exact ⟨by rw [hy.out]; rfl, rfl⟩
      · have b1 : (rd l (k : Int) == c) = false := by simpa using he
        replace he := Aside0.mk he
        go_wp2
        go_roundw
        case rel => exact ⟨k + 1, by omega, by go_num, ⟨fun j hj => by rcases Nat.lt_or_ge j k with h | h; exact hs.out j h; rw [show j = k by omega]; exact he.out⟩, by trivial⟩
        case measure => simp [intOf]; omega
    · have hn := Aside0.mk (hasB_no (l := l) (c := c) (fun j hj => hs.out j (by omega)))
      go_wp2
      go_ret
      exact ⟨by rw [hn.out]; rfl, rfl⟩
end Go.Proofs.YtijdmnjkiiemlaaDoor.H
