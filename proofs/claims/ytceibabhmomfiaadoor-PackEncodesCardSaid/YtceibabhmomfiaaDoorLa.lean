/- Layer 3, walks: the fixed fact. -/
import Derived.Test.YtceibabhmomfiaaDoorPe2
import Derived.Test.YtceibabhmomfiaaDoorPr9
namespace Go.Proofs.YtceibabhmomfiaaDoor.H
open Go.RowKit Go.Proofs.YtceibabhmomfiaaDoorW.PrintWords Go.Proofs.YtceibabhmomfiaaDoorW.PrintLast
set_option linter.unusedVariables false
set_option linter.unusedSimpArgs false
set_option maxRecDepth 100000

def live0 : List Int := [1, 3, 1, 0, 0]
def liveC : SChart := ⟨3, [⟨1, 0⟩], []⟩
theorem live_dec : dcE live0 = 0 ∧ dcL live0 = [liveC] := ⟨by kernel_rfl, by kernel_rfl⟩
theorem live_bad : dcE [1, 0, 0, 0, 0] = 10 := by kernel_rfl
theorem live_enc : RightP [liveC] ∧ encC [liveC] = live0 := by
  have := dec_just (b := live0) (by unfold ByL live0; decide) live_dec.1
  rw [live_dec.2] at this
  exact ⟨this.1, this.2.1⟩
theorem Rd.one {α : Type} {d : Kd α} {W : World} (ad : Addr) (p : α) (c : List Value) (hl : c.length = d.sz) (hK : d.K W p c) (hc : ∀ (j : Nat) u, c[j]? = some u → W.cell? (ad.add j) = some u) : Rd d W (some ad) [p] :=
  ⟨rfl, by simp, fun _ => ⟨ad, rfl, fun j q hj => by
    obtain ⟨h1, h2⟩ := List.getElem?_eq_some_iff.1 hj
    have : j = 0 := by simp at h1; omega
    subst this
    simp at h2
    subst h2
    exact ⟨c, hl, hK, fun k u hu => by rw [Nat.zero_mul, Nat.zero_add]; exact hc k u hu⟩⟩⟩
theorem GlobA.later {w W : World} (hG : GlobA w.heap.size w) (k : Bel w W) : GlobA W.heap.size W := ⟨⟨Nat.lt_of_lt_of_le hG.out.pos k.size, (hG.out.step k (Nat.le_refl _)).at_⟩⟩
/-- charts out of bytes that were laid just now -/
theorem Dec_lit (xs : List Int) (hx : ByL xs) (hn : xs.length ≤ 1000) (W : World) (hG : GlobA W.heap.size W) :
    Calls Tryd.prog 13 #[.slice (some ⟨W.heap.size, 0, none⟩) xs.length xs.length] (W.alloc (.cells (nums .u8 xs).toArray 5)) fun ex w' => ∃ v, ex = .returned (.tuple #[v, .int .i64 (dcE xs)]) ∧ Own kChart 36 W w' v (dcL xs) ∧ Bel W w' := by
  have hB : Bel W (W.alloc (.cells (nums .u8 xs).toArray 5)) := (Bel.refl W).alloc _
  exact (Decode_any _ _ xs _ (hG.later hB) (Nat.le_refl _) (Rd.lit .u8 5 W xs (by omega)) ⟨hx⟩ (by omega)).mono fun e w' ⟨v, h1, h2, h3⟩ => ⟨v, h1, h2.lower hB, hB.trans h3⟩
theorem Same_lit (xs ys : List Int) (A : Option Addr) (c : Nat) (hn : xs.length ≤ 1000) (hm : ys.length ≤ 1000) (W : World) (HA : RdB W A xs) :
    Calls Tryd.prog 18 #[.slice A xs.length c, .slice (some ⟨W.heap.size, 0, none⟩) ys.length ys.length] (W.alloc (.cells (nums .u8 ys).toArray 5)) fun ex w' => ex = .returned (.bool (decide (xs = ys))) ∧ Bel W w' := by
  have hB : Bel W (W.alloc (.cells (nums .u8 ys).toArray 5)) := (Bel.refl W).alloc _
  exact (Same_any A _ c _ xs ys _ (HA.step hB) (Rd.lit .u8 5 W ys (by omega)) (by omega)).mono fun e w' ⟨h1, h2⟩ => ⟨h1, hB.trans (Bel.drawn h2)⟩
set_option maxHeartbeats 4000000 in
theorem alive_any (w : World) (hG : GlobA w.heap.size w) : Calls Tryd.prog 12 #[] w fun e w' => e = .returned (.bool true) ∧ Bel w w' := by
  have hd1 := Aside0.mk (fun W (k : Bel w W) => Dec_lit [1, 0, 0, 0, 0] (by unfold ByL; decide) (by decide) W (hG.later k))
  rw [live_bad] at hd1
  have hs := Aside0.mk (fun A c W (HA : RdB W A live0) => Same_lit live0 [1, 3, 1, 0, 0] A c (by decide) (by decide) W HA)
  simp only [nums, List.map_cons, List.map_nil, List.length_cons, List.length_nil, Nat.zero_add, Nat.reduceAdd] at hd1 hs
  go_enter Tryd.func12, Tryd.ntmps12
  go_upto_region 2 with (fail)
  have hBa : Bel w ((w.alloc (.cells #[.int .i64 1, .int .i64 0] 50)).alloc (.cells #[.int .i64 3, .slice (some ⟨w.heap.size, 0, none⟩) 1 1, .slice none 0 0] 36)) := ((Bel.refl w).alloc _).alloc _
  have hb0 : ((w.alloc (.cells #[.int .i64 1, .int .i64 0] 50)).alloc (.cells #[.int .i64 3, .slice (some ⟨w.heap.size, 0, none⟩) 1 1, .slice none 0 0] 36)).heap[w.heap.size]? = some (.cells #[.int .i64 1, .int .i64 0] 50 (0, 0)) := heap_old (heap_new' rfl)
  have hb1 : ((w.alloc (.cells #[.int .i64 1, .int .i64 0] 50)).alloc (.cells #[.int .i64 3, .slice (some ⟨w.heap.size, 0, none⟩) 1 1, .slice none 0 0] 36)).heap[w.heap.size + 1]? = some (.cells #[.int .i64 3, .slice (some ⟨w.heap.size, 0, none⟩) 1 1, .slice none 0 0] 36 (0, 0)) := heap_new' (by simp)
  generalize (w.alloc (.cells #[.int .i64 1, .int .i64 0] 50)).alloc (.cells #[.int .i64 3, .slice (some ⟨w.heap.size, 0, none⟩) 1 1, .slice none 0 0] 36) = wa at hBa hb0 hb1 ⊢
  have hcl : ∀ (i : Nat) (cs : List Value) (b : Nat) (t : Nat), wa.heap[b]? = some (.cells cs.toArray t (0, 0)) → ∀ (j : Nat) u, cs[j]? = some u → wa.cell? ((⟨b, 0, none⟩ : Addr).add j) = some u := fun i cs b t hb j u hu => by
    have : (⟨b, 0, none⟩ : Addr).add j = ⟨b, j, none⟩ := by unfold Addr.add; simp; intro h; exact h.symm
    rw [this, blk_cell hb j]
    simpa using hu
  have hR0 : Rd kLoc wa (some ⟨w.heap.size, 0, none⟩) [(⟨1, 0⟩ : SLoc)] := Rd.one _ _ [.int .i64 1, .int .i64 0] rfl (kLoc_mk wa ⟨1, 0⟩) (hcl 0 _ _ _ hb0)
  have hR1 : Rd kChart wa (some ⟨w.heap.size + 1, 0, none⟩) [liveC] := Rd.one _ _ [.int .i64 3, .slice (some ⟨w.heap.size, 0, none⟩) 1 1, .slice none 0 0] rfl (kChart_mk wa liveC (A1 := some ⟨w.heap.size, 0, none⟩) (c1 := 1) (by decide) hR0.out (A2 := none) (c2 := 0) (by decide) (show kPair.C wa none 0 [] from ⟨rfl, by simp, fun h => by simp at h⟩)) (hcl 0 _ _ _ hb1)
  have henc := Aside0.mk (Encode_yes (some ⟨w.heap.size + 1, 0, none⟩) 1 [liveC] wa hR1 ⟨live_enc.1⟩ ⟨by simp [liveC, mx]⟩)
  rw [live_enc.2] at henc
  obtain ⟨b1, hb1e⟩ : ∃ b, w.heap.size + 1 = b := ⟨_, rfl⟩
  rw [hb1e] at henc hR1 ⊢
  simp only [List.length_cons, List.length_nil, Nat.zero_add] at henc
  clear hb0 hb1 hcl hR0
  replace hb1e := Aside0.mk hb1e
  go_upto_region 3 with (go_at_call 17; ((with_reducible refine henc.out.mono ?_); rintro e w2 ⟨v2, rfl, hv2, hB2⟩; obtain ⟨A2, c2, rfl, hc2, hR2⟩ := hv2.reads))
  have hdec := Aside0.mk (Decode_any A2 c2 live0 w2 (hG.later (hBa.trans hB2)) hc2 hR2 ⟨by unfold live0; decide⟩ (by decide))
  rw [live_dec.1, live_dec.2] at hdec
  go_upto_region 4 with (go_at_call 13; ((with_reducible refine hdec.out.mono ?_); rintro e w3 ⟨v3, rfl, hv3, hB3⟩; obtain ⟨A3, c3, rfl, hc3, hR3⟩ := hv3.reads))
  have hB13 := hB2.trans hB3
  go_upto_region 5 with (go_at_call 13; ((with_reducible refine (hd1.out w3 (hBa.trans hB13)).mono ?_); rintro e w4 ⟨v4, rfl, hv4, hB4⟩; obtain ⟨A4, c4, rfl, hc4, hR4⟩ := hv4.reads))
  have hfew : FewC [liveC] := few_of live_enc.1
  have hsc := Aside0.mk (fun (W : World) (k : Bel w4 W) => (rSame_any (some ⟨b1, 0, none⟩) A3 1 c3 [liveC] [liveC] W (hR1.step ((hB13.trans hB4).trans k)) (hR3.step (hB4.trans k)) ⟨hfew⟩ ⟨hfew⟩).mono (fun e w' h => h.yes rfl))
  have hsb := Aside0.mk (hs.out A2 c2 w4 (hR2.step (hB3.trans hB4)))
  have hl0 : live0.length = 5 := rfl
  rw [show decide (live0 = [1, 3, 1, 0, 0]) = true from rfl, hl0] at hsb
  rw [hl0]
  simp only [List.length_cons, List.length_nil, Nat.zero_add] at hsc
  clear hs hd1 henc hdec
  go_wp2_with (first | (go_at_call 18; ((with_reducible refine hsb.out.mono ?_); rintro e w5 ⟨rfl, hB5⟩)) | (go_at_call 15; ((with_reducible refine (hsc.out _ hB5).mono ?_); rintro e w6 ⟨rfl, hB6⟩)))
  go_ret
  exact ⟨rfl, hBa.trans (hB13.trans (hB4.trans (hB5.trans hB6)))⟩
end Go.Proofs.YtceibabhmomfiaaDoor.H
