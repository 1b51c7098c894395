/- The law VarintPuts, walked. -/
import Derived.Test.YtijdmnjkiiemlaaVk
namespace Go.Proofs.Ytijdmnjkiiemlaa.H
open Go.RowKit Go.Proofs.YtijdmnjkiiemlaaW.PrintWords
set_option linter.unusedVariables false
set_option linter.unusedSimpArgs false

theorem Same_eq {A0 A1 : Option Addr} {c0 c1 : Nat} {l : List Int} {w : World} (H0 : RdB w A0 l) (H1 : RdB w A1 l) (hl : l.length ≤ 9223372036854775807) :
    Calls Try.prog 11 #[.slice A0 l.length c0, .slice A1 l.length c1] w fun e w' => e = .returned (.bool true) ∧ Bel w w' :=
  (Same_any A0 A1 c0 c1 l l w H0 H1 hl).mono fun e w' h => ⟨by rw [h.1, decide_eq_true rfl], Bel.drawn h.2⟩

set_option maxHeartbeats 1000000 in
theorem VarintPuts_walk (A : Option Addr) (c : Nat) (l : List Int) (n : Int) (w : World) (hc : l.length ≤ c) (HR : RdB w A l) (hby : Bytes l) (hm : l.length ≤ 9223372036854775807) (_hy : l.length * 1 ≤ 140737488351232) (h0 : -9223372036854775808 ≤ n) (h1 : n ≤ 9223372036854775807) :
    Calls Try.prog 4 #[.slice A l.length c, .int .i64 n] w fun e w' => e = .returned (.bool true) ∧ Bel w w' := by
  by_cases hl : 2000 < l.length
  · go_enter Try.func4, Try.ntmps4
    go_wp2_with (go_at_call 7; ((with_reducible refine (alive_any _).mono ?_); rintro e w' ⟨rfl, hB⟩))
    go_ret
    exact ⟨rfl, hB⟩
  · obtain ⟨x1, hx1⟩ : ∃ x1, Aside0 (x1 = l ++ putL n) := ⟨_, ⟨rfl⟩⟩
    obtain ⟨x2, hx2⟩ : ∃ x2, Aside0 (x2 = l ++ digs 9 (zz n)) := ⟨_, ⟨rfl⟩⟩
    have hb1 : x1.length ≤ 2010 := by have := putL_len n; rw [hx1.out]; simp; omega
    have hb2 : x2.length ≤ 2010 := by have := digs_len 9 (zz n); rw [hx2.out]; simp; omega
    go_enter Try.func4, Try.ntmps4
    go_wp2_with (first | (go_at_call 7; ((with_reducible refine (alive_any _).mono ?_); rintro e w' ⟨rfl, hB⟩)) | (go_at_call 12; ((with_reducible refine (Put_any A c l n _ hc (HR.step hB).nil_of (HR.step hB) (by omega) h1).mono ?_); rintro e w' ⟨v1, rfl, hR1, hB1⟩; rw [← hx1.out] at hR1; obtain ⟨A1, c1, rfl, hc1, hD1⟩ := hR1.reads; replace hB := hB.trans hB1; clear hB1 hR1)) | (go_at_call 13; ((with_reducible refine (refPut_any A c l n _ (HR.step hB) (by omega) h1).mono ?_); rintro e w' ⟨v2, rfl, hR2, hB2⟩; rw [← hx1.out] at hR2; obtain ⟨A2, c2, rfl, hc2, hD2⟩ := hR2.reads; replace hD1 := hD1.step hB2; replace hB := hB.trans hB2; clear hB2 hR2)) | (go_at_call 14; ((with_reducible refine (PutSigned_any A c l n _ hc (HR.step hB).nil_of (HR.step hB) (by omega) h0 h1).mono ?_); rintro e w' ⟨v1, rfl, hR1, hB1⟩; rw [← hx2.out] at hR1; obtain ⟨A1, c1, rfl, hc1, hD1⟩ := hR1.reads; replace hB := hB.trans hB1; clear hB1 hR1)) | (go_at_call 15; ((with_reducible refine (refPutSigned_any A c l n _ (HR.step hB) (by omega) h0 h1).mono ?_); rintro e w' ⟨v2, rfl, hR2, hB2⟩; rw [← hx2.out] at hR2; obtain ⟨A2, c2, rfl, hc2, hD2⟩ := hR2.reads; replace hD1 := hD1.step hB2; replace hB := hB.trans hB2; clear hB2 hR2)) | (go_at_call 11; ((with_reducible refine (Same_eq hD1 hD2 (by omega)).mono ?_); rintro e w' ⟨rfl, hB3⟩; clear hD1 hD2; replace hB := hB.trans hB3; clear hB3)) | (go_at_call 16; ((with_reducible refine (Size_any n _ h1).mono ?_); rintro e w' ⟨rfl, rfl⟩)) | (go_at_call 17; ((with_reducible refine (refSize_any n _ h1).mono ?_); rintro e w' ⟨rfl, hB2⟩; replace hB := hB.trans hB2; clear hB2)))
    go_ret
    exact ⟨rfl, hB⟩
end Go.Proofs.Ytijdmnjkiiemlaa.H
