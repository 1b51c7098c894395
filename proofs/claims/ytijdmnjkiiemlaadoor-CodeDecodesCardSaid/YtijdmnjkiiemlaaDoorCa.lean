/- Layer 3, walks: the fixed fact. -/
import Derived.Test.YtijdmnjkiiemlaaDoorCr5
import Derived.Test.YtijdmnjkiiemlaaDoorCw7
import Derived.Test.YtijdmnjkiiemlaaDoorCc4
namespace Go.Proofs.YtijdmnjkiiemlaaDoor.H
open Go.RowKit Go.Proofs.YtijdmnjkiiemlaaDoorW.PrintWords Go.Proofs.YtijdmnjkiiemlaaDoorW.PrintLast
set_option linter.unusedVariables false
set_option linter.unusedSimpArgs false

def live0 : List Int := [1, 1, 0, 0, 0, 1, 2, 1, 0, 10, 23, 0]
def liveF : SFunc := ⟨[0], [-1], 0, 0, [⟨[⟨1, 0, 0, 0, 5, 0, []⟩, ⟨23, 0, 0, 0, 0, 0, []⟩]⟩]⟩
theorem live_dec : decE live0 = 0 ∧ decL live0 = [liveF] := ⟨by kernel_rfl, by kernel_rfl⟩
theorem live_in : ∀ f ∈ [liveF], FuncIn f := by
  have := (enc_of (prog_just (b := live0) (by unfold ByL live0; decide) live_dec.1).1).1
  rw [live_dec.2] at this
  exact this
theorem live_zero : decE [0] = 9 := by kernel_rfl
theorem live_enc : encE [liveF] = 0 ∧ encL [liveF] = live0 := by
  have := enc_dec (b := live0) (by unfold ByL live0; decide) live_dec.1
  rw [live_dec.2] at this
  exact this
theorem live_parts : partsB 16 = strOf [68, 65, 110] := by kernel_rfl
/-- a program out of bytes that were laid just now -/
theorem Dec_lit (xs : List Int) (hx : ByL xs) (hn : xs.length ≤ 1000) (b : Nat) (W : World) (hb : b = W.heap.size) (hG : GlobA W.heap.size W) :
    Calls Tryd.prog 15 #[.slice (some ⟨b, 0, none⟩) xs.length xs.length] (W.alloc (.cells (nums .u8 xs).toArray 5)) fun ex w' => ∃ v, ex = .returned (.tuple #[.agg #[v], .int .i64 (decE xs)]) ∧ Own kFunc 43 (W.alloc (.cells (nums .u8 xs).toArray 5)) w' v (decL xs) ∧ Bel W w' := by
  subst hb
  have hB : Bel W (W.alloc (.cells (nums .u8 xs).toArray 5)) := (Bel.refl W).alloc _
  have hG' := hG.out.step hB (Nat.le_refl _)
  have hG2 : GlobA (W.alloc (.cells (nums .u8 xs).toArray 5)).heap.size (W.alloc (.cells (nums .u8 xs).toArray 5)) := ⟨⟨Nat.lt_of_lt_of_le hG'.pos hB.size, hG'.at_⟩⟩
  exact (Decode_any _ _ xs _ hG2 (Nat.le_refl _) (Rd.lit .u8 5 W xs (by omega)) ⟨hx⟩ (by omega)).mono fun e w' ⟨v, h1, h2, h3, _⟩ => ⟨v, h1, h2, hB.trans h3⟩

set_option maxRecDepth 100000
set_option maxHeartbeats 4000000 in
theorem alive_any (w : World) (hG : GlobA w.heap.size w) : Calls Tryd.prog 8 #[] w fun e w' => e = .returned (.bool true) ∧ Bel w w' := by
  have hglob := Aside0.mk (fun W (k : Bel w W) => (⟨⟨Nat.lt_of_lt_of_le hG.out.pos k.size, (hG.out.step k (Nat.le_refl _)).at_⟩⟩ : GlobA W.heap.size W))
  have hd0 := Aside0.mk (fun b W (hb : b = W.heap.size) (k : Bel w W) => Dec_lit live0 (by unfold ByL live0; decide) (by decide) b W hb (hglob.out W k))
  have hd1 := Aside0.mk (fun b W (hb : b = W.heap.size) (k : Bel w W) => Dec_lit [0] (by unfold ByL; decide) (by decide) b W hb (hglob.out W k))
  rw [live_dec.1, live_dec.2] at hd0
  rw [live_zero] at hd1
  simp only [live0, nums, List.map_cons, List.map_nil, List.length_cons, List.length_nil, Nat.zero_add, Nat.reduceAdd] at hd0 hd1
  go_enter Tryd.func8, Tryd.ntmps8
  go_upto_region 2 with (go_at_call 15; ((with_reducible refine (hd0.out _ _ ?_ ?_).mono ?_); (first | rfl | (simp; done)); (exact Bel.refl _); rintro e w1 ⟨v, rfl, hv, hB1⟩; obtain ⟨A1, c1, rfl, hc1, hR1⟩ := hv.reads))
  have hBa : Bel w1 (w1.alloc (.cells #[.slice A1 1 c1] 24)) := (Bel.refl w1).alloc _
  have hbk := heap_alloc_new w1 (.cells #[.slice A1 1 c1] 24)
  generalize w1.alloc (.cells #[.slice A1 1 c1] 24) = wa at hBa hbk ⊢
  obtain ⟨g, hg⟩ : ∃ g, w1.heap.size = g := ⟨_, rfl⟩
  rw [hg] at hbk ⊢
  have ya : wa.cell? ⟨g, 0, none⟩ = some (.slice A1 1 c1) := blk_cell hbk 0
  have hBwa := hB1.trans hBa
  have henc := Encode_any A1 c1 [liveF] wa (hglob.out wa hBwa) (hR1.step hBa) ⟨live_in⟩
  rw [live_enc.1, live_enc.2] at henc
  simp only [List.length_cons, List.length_nil, Nat.zero_add] at henc
  replace henc := Aside0.mk henc
  replace hg := Aside0.mk hg
  replace hbk := Aside0.mk hbk
  go_upto_region 3 with (go_at_call 10; ((with_reducible refine henc.out.mono ?_); rintro e w2 ⟨v2, rfl, hv2, hB2⟩; obtain ⟨A2, c2, rfl, hc2, hR2⟩ := hv2.reads))
  have hBw2 := hBwa.trans hB2
  clear ya
  go_upto_region 4 with (go_at_call 15; ((with_reducible refine (hd1.out _ _ ?_ ?_).mono ?_); (first | rfl | (simp; done)); (exact hBw2); rintro e w3 ⟨v3, rfl, hv3, hB3⟩; obtain ⟨A3, c3, rfl, hc3, hR3⟩ := hv3.reads))
  have hBd : Bel w3 (w3.alloc (.cells #[.slice A3 (decL [0]).length c3] 24)) := (Bel.refl w3).alloc _
  generalize w3.alloc (.cells #[.slice A3 (decL [0]).length c3] 24) = wd at hBd ⊢
  have hBad := (hB2.trans hB3).trans hBd
  have hBwd := hBwa.trans hBad
  have yd : wd.cell? ⟨g, 0, none⟩ = some (.slice A1 1 c1) := blk_cell ((hBad.out.block _ (blk_lt hbk.out)).trans hbk.out) 0
  have hRd := hR1.step (hBa.trans hBad)
  obtain ⟨ad, B0, B1, B4, d0, d1, d4, rfl, h0, h1, h2, h3, h4, R0, R1, R4, _, _, _⟩ := func_at hRd 0 (by decide)
  obtain ⟨ad4, B6, d6, rfl, i0, _, R6⟩ := block_at R4 0 (by decide)
  obtain ⟨ad6, B7, d7, rfl, j0, j1, j2, j3, j4, j5, j6, _, _⟩ := ins_at R6 0 (by decide)
  have hGd := hglob.out wd hBwd
  have hp := Aside0.mk (Parts_any 16 wd.heap.size wd hGd)
  rw [live_parts] at hp
  clear R0 R1 R4 R6 h0 h1 h2 h3 j0 j1 j2 j3 j5 j6 hd0 hd1
  have hA : ∀ a : Addr, a.add 0 = a := fun a => by unfold Addr.add; simp
  have k4 : wd.cell? ⟨ad.block, ad.off + 4, none⟩ = some (.slice (some ad4) 1 d4) := by rw [Nat.zero_mul, hA] at h4; exact h4
  have k0 : wd.cell? ad4 = some (.slice (some ad6) 2 d6) := by rw [hA] at i0; exact i0
  have kj : wd.cell? ⟨ad6.block, ad6.off + 4, none⟩ = some (.int .i64 5) := by rw [Nat.zero_mul, hA] at j4; exact j4
  have hl0 : live0.length = 12 := rfl
  rw [hl0]
  clear h4 i0 j4 hA hl0 hRd hR1 hv
  go_wp2_with (go_at_call 17; ((with_reducible refine hp.out.mono ?_); rintro e w' ⟨rfl, rfl⟩))
  go_ret
  refine ⟨?_, hBwd⟩
  rw [show ((strOf [68, 65, 110]).toList == [68, 65, 110]) = true from by kernel_rfl]
  rfl
end Go.Proofs.YtijdmnjkiiemlaaDoor.H
