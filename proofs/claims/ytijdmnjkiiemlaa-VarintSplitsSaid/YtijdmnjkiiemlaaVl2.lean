/- The law VarintSplits, walked. -/
import Derived.Test.YtijdmnjkiiemlaaVk
import Derived.Test.YtijdmnjkiiemlaaVq2
namespace Go.Proofs.Ytijdmnjkiiemlaa.H
open Go.RowKit Go.Proofs.YtijdmnjkiiemlaaW.PrintWords
set_option linter.unusedVariables false
set_option linter.unusedSimpArgs false

theorem Ints_eq {A0 A1 : Option Addr} {c0 c1 : Nat} {l : List Int} {w : World} (H0 : RdI w A0 l) (H1 : RdI w A1 l) (hl : l.length ≤ 9223372036854775807) :
    Calls Try.prog 10 #[.slice A0 l.length c0, .slice A1 l.length c1] w fun e w' => e = .returned (.bool true) ∧ Bel w w' :=
  (Ints_any A0 A1 c0 c1 l l w H0 H1 hl).mono fun e w' h => ⟨by rw [h.1, decide_eq_true rfl], Bel.drawn h.2⟩
/-- Split behind List. -/
theorem Split_list {A : Option Addr} {c : Nat} {l : List Int} {w : World} (hc : (listL l).length ≤ c) (HR : RdB w A (listL l)) (hok : IntsOk l) (hl : l.length ≤ 200) :
    Calls Try.prog 8 #[.slice A (listL l).length c] w fun e w' => ∃ v : Value, e = .returned (.tuple #[v, .int .i64 0]) ∧ OwnI w w' v (l.filter (fun x => decide (0 ≤ x))) ∧ Bel w w' := by
  have hlen := listL_len l
  refine (Split_any A c (listL l) w hc HR ⟨listL_bytes l hok.out⟩ (by omega)).mono ?_
  rw [split_list l _ [] hok.out (by omega)]
  exact fun e w' h => h
theorem filter_snoc (l : List Int) (x : Int) : (l ++ [x]).filter (fun x => decide (0 ≤ x)) = if 0 ≤ x then l.filter (fun x => decide (0 ≤ x)) ++ [x] else l.filter (fun x => decide (0 ≤ x)) := by
  rw [List.filter_append]
  by_cases h : 0 ≤ x <;> simp [h]

set_option maxHeartbeats 1000000 in
theorem VarintSplits_walk (A : Option Addr) (c : Nat) (l : List Int) (w : World) (hc : l.length ≤ c) (HR : RdI w A l) (hok : IntsOk l) (hm : l.length ≤ 9223372036854775807) (_hy : l.length * 8 ≤ 140737488351232) :
    Calls Try.prog 3 #[.slice A l.length c] w fun e w' => e = .returned (.bool true) ∧ Bel w w' := by
  by_cases hl : 200 < l.length
  · go_enter Try.func3, Try.ntmps3
    go_wp2_with (go_at_call 7; ((with_reducible refine (alive_any _).mono ?_); rintro e w' ⟨rfl, hB⟩))
    go_ret
    exact ⟨rfl, hB⟩
  · go_enter Try.func3, Try.ntmps3
    go_wp2_with (go_at_call 7; ((with_reducible refine (alive_any _).mono ?_); rintro e w' ⟨rfl, hB⟩))
    go_loopw [3, 4] (fun v i W => ∃ k : Nat, k ≤ l.length ∧ i = .int .i64 k ∧ OwnI w W v ((l.take k).filter (fun x => decide (0 ≤ x))) ∧ Bel w W) (fun _ i _ => l.length - (intOf i).toNat)
    case atStart => exact ⟨0, by omega, rfl, by simpa using Own.nil _ _ _ _, hB⟩
    case round =>
      clear hB
      obtain ⟨k, hk, rfl, hO, hB⟩ := hrel
      by_cases hlt : k < l.length
      · obtain ⟨ad, rfl, hcell⟩ := rd_atN (HR.step hB) k hlt
        have hts := Aside0.mk (take_snoc l k hlt)
        have hlen := Aside0.mk (List.length_filter_le (fun x => decide (0 ≤ x)) (l.take k))
        obtain ⟨x, hx⟩ : ∃ x, rd l (k : Int) = x := ⟨_, rfl⟩
        rw [hx] at hcell hts
        clear hx
        by_cases h0 : 0 ≤ x
        · go_wp2_with ((with_reducible refine gate_b (b := .append) rfl ?_); (refine app_int hO hB rfl _ _ x rfl ?hl1 rfl rfl ?_); (case hl1 => have := hlen.out; rw [List.length_take] at this; omega); clear hO hB; intro v1 w1 hO hB)
          go_roundw
          case rel => exact ⟨k + 1, by omega, by go_num, by rw [hts.out, filter_snoc, if_pos h0]; exact hO, hB⟩
          case measure => simp [intOf]; omega
        · have b0 : decide (0 ≤ x) = false := decide_eq_false h0
          go_wp2
          go_roundw
          case rel => exact ⟨k + 1, by omega, by go_num, by rw [hts.out, filter_snoc, if_neg (by omega)]; exact hO, hB⟩
          case measure => simp [intOf]; omega
      · rw [List.take_of_length_le (show l.length ≤ k by omega)] at hO
        obtain ⟨A1, c1, rfl, hc1, hD1⟩ := hO.reads
        have hlen := List.length_filter_le (fun x => decide (0 ≤ x)) l
        obtain ⟨f, hf⟩ : ∃ f, Aside0 (f = l.filter (fun x => decide (0 ≤ x))) := ⟨_, ⟨rfl⟩⟩
        obtain ⟨y, hy⟩ : ∃ y, Aside0 (y = listL l) := ⟨_, ⟨rfl⟩⟩
        rw [← hf.out] at hD1 hlen ⊢
        clear hO hc1
        go_wp2_with (first | (go_at_call 9; ((with_reducible refine (List_any A c l _ (HR.step hB) hok (by omega)).mono ?_); rintro e w' ⟨v2, rfl, hR2, hB2⟩; rw [← hy.out] at hR2; obtain ⟨A2, c2, rfl, hc2, hD2⟩ := hR2.reads; replace hD1 := hD1.step hB2; replace hB := hB.trans hB2; clear hB2 hR2)) | (go_at_call 8; ((refine Calls.mono (by have := Split_list (l := l) (A := A2) (c := c2) (w := w') (by rw [← hy.out]; exact hc2) (by rw [← hy.out]; exact hD2) hok (by omega); rw [← hy.out] at this; exact this) ?_); rintro e w'' ⟨v3, rfl, hR3, hB3⟩; rw [← hf.out] at hR3; obtain ⟨A3, c3, rfl, hc3, hD3⟩ := hR3.reads; replace hD1 := hD1.step hB3; replace hB := hB.trans hB3; clear hB3 hR3)) | (go_at_call 10; ((with_reducible refine (Ints_eq hD3 hD1 (by omega)).mono ?_); rintro e w''' ⟨rfl, hB3⟩; replace hB := hB.trans hB3; clear hB3)))
        go_ret
        exact ⟨rfl, hB⟩
end Go.Proofs.Ytijdmnjkiiemlaa.H
