/- Layer 1: the fixed fact. -/
import Derived.Test.YtijdmnjkiiemlaaVj
namespace Go.Proofs.Ytijdmnjkiiemlaa.H
open Go.RowKit Go.Proofs.YtijdmnjkiiemlaaW.PrintWords
set_option linter.unusedVariables false
set_option linter.unusedSimpArgs false

theorem Get_eq {A : Option Addr} {c : Nat} {l : List Int} {w : World} {x y z : Int} (hc : l.length ≤ c) (HR : RdB w A l) (hby : Bytes l) (hl : l.length ≤ 9223372036854775807) (h : getL 9 l = (x, y, z)) :
    Calls Try.prog 19 #[.slice A l.length c] w fun e w' => e = .returned (.tuple #[.int .i64 x, .int .i64 y, .int .i64 z]) ∧ w = w' := by
  have := Get_any A c l w hc HR hby hl
  rwa [h] at this
theorem GetSigned_eq {A : Option Addr} {c : Nat} {l : List Int} {w : World} {x y z : Int} (hc : l.length ≤ c) (HR : RdB w A l) (hby : Bytes l) (hl : l.length ≤ 9223372036854775807) (h : (unzz (getL 10 l).1, (getL 10 l).2) = (x, y, z)) :
    Calls Try.prog 18 #[.slice A l.length c] w fun e w' => e = .returned (.tuple #[.int .i64 x, .int .i64 y, .int .i64 z]) ∧ w = w' := by
  have := GetSigned_any A c l w hc HR hby hl
  simp only [Prod.mk.injEq] at h
  rw [h.1, h.2] at this
  exact this

theorem alive0 (W : World) (b : Nat) (hb : b = W.heap.size) : Calls Try.prog 19 #[.slice (some ⟨b, 0, none⟩) 3 3] (W.alloc (.cells #[.int .u8 172, .int .u8 2, .int .u8 9] 5)) fun e w' => e = .returned (.tuple #[.int .i64 300, .int .i64 2, .int .i64 0]) ∧ W.alloc (.cells #[.int .u8 172, .int .u8 2, .int .u8 9] 5) = w' := by
  subst hb
  exact Get_eq (l := [172, 2, 9]) (by decide) (Rd.lit .u8 5 W [172, 2, 9] (by decide)) ⟨by decide⟩ (by decide) (by decide +kernel)
theorem alive1 (W : World) (b : Nat) (hb : b = W.heap.size) : Calls Try.prog 18 #[.slice (some ⟨b, 0, none⟩) 1 1] (W.alloc (.cells #[.int .u8 1] 5)) fun e w' => e = .returned (.tuple #[.int .i64 (-1), .int .i64 1, .int .i64 0]) ∧ W.alloc (.cells #[.int .u8 1] 5) = w' := by
  subst hb
  exact GetSigned_eq (l := [1]) (by decide) (Rd.lit .u8 5 W [1] (by decide)) ⟨by decide⟩ (by decide) (by decide +kernel)
theorem alive2 (W : World) (b : Nat) (hb : b = W.heap.size) : Calls Try.prog 19 #[.slice (some ⟨b, 0, none⟩) 2 2] (W.alloc (.cells #[.int .u8 128, .int .u8 0] 5)) fun e w' => e = .returned (.tuple #[.int .i64 0, .int .i64 0, .int .i64 4]) ∧ W.alloc (.cells #[.int .u8 128, .int .u8 0] 5) = w' := by
  subst hb
  exact Get_eq (l := [128, 0]) (by decide) (Rd.lit .u8 5 W [128, 0] (by decide)) ⟨by decide⟩ (by decide) (by decide +kernel)
theorem alive3 (W : World) (b : Nat) (hb : b = W.heap.size) : Calls Try.prog 19 #[.slice (some ⟨b, 0, none⟩) 1 1] (W.alloc (.cells #[.int .u8 128] 5)) fun e w' => e = .returned (.tuple #[.int .i64 0, .int .i64 0, .int .i64 2]) ∧ W.alloc (.cells #[.int .u8 128] 5) = w' := by
  subst hb
  exact Get_eq (l := [128]) (by decide) (Rd.lit .u8 5 W [128] (by decide)) ⟨by decide⟩ (by decide) (by decide +kernel)
set_option maxHeartbeats 1000000 in
theorem alive_any (w : World) : Calls Try.prog 7 #[] w fun e w' => e = .returned (.bool true) ∧ Bel w w' := by
  go_enter Try.func7, Try.ntmps7
  go_wp2_with (first | (go_at_call 19; ((with_reducible refine (alive0 _ _ (by first | rfl | simp)).mono ?_); rintro e w' ⟨rfl, rfl⟩)) | (go_at_call 18; ((with_reducible refine (alive1 _ _ (by first | rfl | simp)).mono ?_); rintro e w' ⟨rfl, rfl⟩)) | (go_at_call 19; ((with_reducible refine (alive2 _ _ (by first | rfl | simp)).mono ?_); rintro e w' ⟨rfl, rfl⟩)) | (go_at_call 19; ((with_reducible refine (alive3 _ _ (by first | rfl | simp)).mono ?_); rintro e w' ⟨rfl, rfl⟩)))
  go_ret
  exact ⟨rfl, ((((Bel.refl w).alloc _).alloc _).alloc _).alloc _⟩
end Go.Proofs.Ytijdmnjkiiemlaa.H
