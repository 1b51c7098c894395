/- Texts of this work, joined: La, Fi, Fj. Conditions: each stands with its theorem. -/
import Derived.Test.YtceibabhmomfiaaDoorX17
import Derived.Test.YtceibabhmomfiaaDoorX10
import Derived.Test.YtceibabhmomfiaaDoorX16
/- Layer 3, walks: the fixed fact. -/
namespace Go.Proofs.YtceibabhmomfiaaDoor.H
open Go.RowKit Go.Proofs.YtceibabhmomfiaaDoorW.PrintWords Go.Proofs.YtceibabhmomfiaaDoorW.PrintLast
set_option linter.unusedVariables false
set_option linter.unusedSimpArgs false
set_option maxRecDepth 100000

def live0 : List Int := [1, 3, 1, 0, 0]
def liveC : SChart := ⟨3, [⟨1, 0⟩], []⟩
theorem live_dec : dcE live0 = 0 ∧ dcL live0 = [liveC] := ⟨by kernel_rfl, by kernel_rfl⟩
theorem live_bad : dcE [1, 0, 0, 0, 0] = 10 := by kernel_rfl
theorem live_enc : RightP [liveC] ∧ encC [liveC] = live0 := by
  have := dec_just (b := live0) (by unfold ByL live0; decide) live_dec.1
  rw [live_dec.2] at this
  exact ⟨this.1, this.2.1⟩
theorem Rd.one {α : Type} {d : Kd α} {W : World} (ad : Addr) (p : α) (c : List Value) (hl : c.length = d.sz) (hK : d.K W p c) (hc : ∀ (j : Nat) u, c[j]? = some u → W.cell? (ad.add j) = some u) : Rd d W (some ad) [p] :=
  ⟨rfl, by simp, fun _ => ⟨ad, rfl, fun j q hj => by
    obtain ⟨h1, h2⟩ := List.getElem?_eq_some_iff.1 hj
    have : j = 0 := by simp at h1; omega
    subst this
    simp at h2
    subst h2
    exact ⟨c, hl, hK, fun k u hu => by rw [Nat.zero_mul, Nat.zero_add]; exact hc k u hu⟩⟩⟩
theorem GlobA.later {w W : World} (hG : GlobA w.heap.size w) (k : Bel w W) : GlobA W.heap.size W := ⟨⟨Nat.lt_of_lt_of_le hG.out.pos k.size, (hG.out.step k (Nat.le_refl _)).at_⟩⟩
/-- charts out of bytes that were laid just now -/
theorem Dec_lit (xs : List Int) (hx : ByL xs) (hn : xs.length ≤ 1000) (W : World) (hG : GlobA W.heap.size W) :
    Calls Tryd.prog 13 #[.slice (some ⟨W.heap.size, 0, none⟩) xs.length xs.length] (W.alloc (.cells (nums .u8 xs).toArray 5)) fun ex w' => ∃ v, ex = .returned (.tuple #[v, .int .i64 (dcE xs)]) ∧ Own kChart 36 W w' v (dcL xs) ∧ Bel W w' := by
  have hB : Bel W (W.alloc (.cells (nums .u8 xs).toArray 5)) := (Bel.refl W).alloc _
  exact (Decode_any _ _ xs _ (hG.later hB) (Nat.le_refl _) (Rd.lit .u8 5 W xs (by omega)) ⟨hx⟩ (by omega)).mono fun e w' ⟨v, h1, h2, h3⟩ => ⟨v, h1, h2.lower hB, hB.trans h3⟩
theorem Same_lit (xs ys : List Int) (A : Option Addr) (c : Nat) (hn : xs.length ≤ 1000) (hm : ys.length ≤ 1000) (W : World) (HA : RdB W A xs) :
    Calls Tryd.prog 18 #[.slice A xs.length c, .slice (some ⟨W.heap.size, 0, none⟩) ys.length ys.length] (W.alloc (.cells (nums .u8 ys).toArray 5)) fun ex w' => ex = .returned (.bool (decide (xs = ys))) ∧ Bel W w' := by
  have hB : Bel W (W.alloc (.cells (nums .u8 ys).toArray 5)) := (Bel.refl W).alloc _
  exact (Same_any A _ c _ xs ys _ (HA.step hB) (Rd.lit .u8 5 W ys (by omega)) (by omega)).mono fun e w' ⟨h1, h2⟩ => ⟨h1, hB.trans (Bel.drawn h2)⟩
set_option maxHeartbeats 4000000 in
theorem alive_any (w : World) (hG : GlobA w.heap.size w) : Calls Tryd.prog 12 #[] w fun e w' => e = .returned (.bool true) ∧ Bel w w' := by
  have hd1 := Aside0.mk (fun W (k : Bel w W) => Dec_lit [1, 0, 0, 0, 0] (by unfold ByL; decide) (by decide) W (hG.later k))
  rw [live_bad] at hd1
  have hs := Aside0.mk (fun A c W (HA : RdB W A live0) => Same_lit live0 [1, 3, 1, 0, 0] A c (by decide) (by decide) W HA)
  simp only [nums, List.map_cons, List.map_nil, List.length_cons, List.length_nil, Nat.zero_add, Nat.reduceAdd] at hd1 hs
  go_enter Tryd.func12, Tryd.ntmps12
  go_upto_region 2 with (fail)
  have hBa : Bel w ((w.alloc (.cells #[.int .i64 1, .int .i64 0] 50)).alloc (.cells #[.int .i64 3, .slice (some ⟨w.heap.size, 0, none⟩) 1 1, .slice none 0 0] 36)) := ((Bel.refl w).alloc _).alloc _
  have hb0 : ((w.alloc (.cells #[.int .i64 1, .int .i64 0] 50)).alloc (.cells #[.int .i64 3, .slice (some ⟨w.heap.size, 0, none⟩) 1 1, .slice none 0 0] 36)).heap[w.heap.size]? = some (.cells #[.int .i64 1, .int .i64 0] 50 (0, 0)) := heap_old (heap_new' rfl)
  have hb1 : ((w.alloc (.cells #[.int .i64 1, .int .i64 0] 50)).alloc (.cells #[.int .i64 3, .slice (some ⟨w.heap.size, 0, none⟩) 1 1, .slice none 0 0] 36)).heap[w.heap.size + 1]? = some (.cells #[.int .i64 3, .slice (some ⟨w.heap.size, 0, none⟩) 1 1, .slice none 0 0] 36 (0, 0)) := heap_new' (by simp)
  generalize (w.alloc (.cells #[.int .i64 1, .int .i64 0] 50)).alloc (.cells #[.int .i64 3, .slice (some ⟨w.heap.size, 0, none⟩) 1 1, .slice none 0 0] 36) = wa at hBa hb0 hb1 ⊢
  have hcl : ∀ (i : Nat) (cs : List Value) (b : Nat) (t : Nat), wa.heap[b]? = some (.cells cs.toArray t (0, 0)) → ∀ (j : Nat) u, cs[j]? = some u → wa.cell? ((⟨b, 0, none⟩ : Addr).add j) = some u := fun i cs b t hb j u hu => by
    have : (⟨b, 0, none⟩ : Addr).add j = ⟨b, j, none⟩ := by unfold Addr.add; simp; intro h; exact h.symm
    rw [this, blk_cell hb j]
    simpa using hu
  have hR0 : Rd kLoc wa (some ⟨w.heap.size, 0, none⟩) [(⟨1, 0⟩ : SLoc)] := Rd.one _ _ [.int .i64 1, .int .i64 0] rfl (kLoc_mk wa ⟨1, 0⟩) (hcl 0 _ _ _ hb0)
  have hR1 : Rd kChart wa (some ⟨w.heap.size + 1, 0, none⟩) [liveC] := Rd.one _ _ [.int .i64 3, .slice (some ⟨w.heap.size, 0, none⟩) 1 1, .slice none 0 0] rfl (kChart_mk wa liveC (A1 := some ⟨w.heap.size, 0, none⟩) (c1 := 1) (by decide) hR0.out (A2 := none) (c2 := 0) (by decide) (show kPair.C wa none 0 [] from ⟨rfl, by simp, fun h => by simp at h⟩)) (hcl 0 _ _ _ hb1)
  have henc := Aside0.mk (Encode_yes (some ⟨w.heap.size + 1, 0, none⟩) 1 [liveC] wa hR1 ⟨live_enc.1⟩ ⟨by simp [liveC, mx]⟩)
  rw [live_enc.2] at henc
  obtain ⟨b1, hb1e⟩ : ∃ b, w.heap.size + 1 = b := ⟨_, rfl⟩
  rw [hb1e] at henc hR1 ⊢
  simp only [List.length_cons, List.length_nil, Nat.zero_add] at henc
  clear hb0 hb1 hcl hR0
  replace hb1e := Aside0.mk hb1e
  go_upto_region 3 with (go_at_call 17; ((with_reducible refine henc.out.mono ?_); rintro e w2 ⟨v2, rfl, hv2, hB2⟩; obtain ⟨A2, c2, rfl, hc2, hR2⟩ := hv2.reads))
  have hdec := Aside0.mk (Decode_any A2 c2 live0 w2 (hG.later (hBa.trans hB2)) hc2 hR2 ⟨by unfold live0; decide⟩ (by decide))
  rw [live_dec.1, live_dec.2] at hdec
  go_upto_region 4 with (go_at_call 13; ((with_reducible refine hdec.out.mono ?_); rintro e w3 ⟨v3, rfl, hv3, hB3⟩; obtain ⟨A3, c3, rfl, hc3, hR3⟩ := hv3.reads))
  have hB13 := hB2.trans hB3
  go_upto_region 5 with (go_at_call 13; ((with_reducible refine (hd1.out w3 (hBa.trans hB13)).mono ?_); rintro e w4 ⟨v4, rfl, hv4, hB4⟩; obtain ⟨A4, c4, rfl, hc4, hR4⟩ := hv4.reads))
  have hfew : FewC [liveC] := few_of live_enc.1
  have hsc := Aside0.mk (fun (W : World) (k : Bel w4 W) => (rSame_any (some ⟨b1, 0, none⟩) A3 1 c3 [liveC] [liveC] W (hR1.step ((hB13.trans hB4).trans k)) (hR3.step (hB4.trans k)) ⟨hfew⟩ ⟨hfew⟩).mono (fun e w' h => h.yes rfl))
  have hsb := Aside0.mk (hs.out A2 c2 w4 (hR2.step (hB3.trans hB4)))
  have hl0 : live0.length = 5 := rfl
  rw [show decide (live0 = [1, 3, 1, 0, 0]) = true from rfl, hl0] at hsb
  rw [hl0]
  simp only [List.length_cons, List.length_nil, Nat.zero_add] at hsc
  clear hs hd1 henc hdec
  go_wp2_with (first | (go_at_call 18; ((with_reducible refine hsb.out.mono ?_); rintro e w5 ⟨rfl, hB5⟩)) | (go_at_call 15; ((with_reducible refine (hsc.out _ hB5).mono ?_); rintro e w6 ⟨rfl, hB6⟩)))
  go_ret
  exact ⟨rfl, hBa.trans (hB13.trans (hB4.trans (hB5.trans hB6)))⟩
end Go.Proofs.YtceibabhmomfiaaDoor.H

/- Layer 3, law23: the fixed fact. -/
namespace Go.Proofs.YtceibabhmomfiaaDoor.H
open Go.RowKit Go.Proofs.YtceibabhmomfiaaDoorW.PrintWords Go.Proofs.YtceibabhmomfiaaDoorW.PrintLast
set_option linter.unusedVariables false
set_option linter.unusedSimpArgs false
set_option maxRecDepth 100000

/-- a table out of bytes that were laid just now -/
theorem New_lit (xs : List Int) (hx : ByL xs) (hn : xs.length ≤ 1000) (W : World) (hG : GlobA W.heap.size W) :
    Calls Tryd.prog 24 #[.slice (some ⟨W.heap.size, 0, none⟩) xs.length xs.length] (W.alloc (.cells (nums .u8 xs).toArray 5)) fun ex w' => NewIs (W.alloc (.cells (nums .u8 xs).toArray 5)) xs ex w' := by
  have hB : Bel W (W.alloc (.cells (nums .u8 xs).toArray 5)) := (Bel.refl W).alloc _
  exact New_any _ _ xs _ (hG.later hB) (Nat.le_refl _) (Rd.lit .u8 5 W xs (by omega)) ⟨hx⟩ (by omega)
/-- a table, nil or not, that tells of these charts, and how often it was asked -/
inductive IsN (W : World) (base : Nat) : Value → List SChart → Int → Prop where
  | none : IsN W base (.pointer none) [] 0
  | some (tb : Nat) (B : Option Addr) (c : Nat) (l : List SChart) (k : Int) (hb : base ≤ tb) (h : IsT W tb B l c k) (hC : ChartsAt W tb B l) (hl : Aside0 (∀ x ∈ l, x.f1.length ≤ 1000000 ∧ x.f2.length ≤ 1000000)) : IsN W base (.pointer (some ⟨tb, 0, none⟩)) l k
/-- what asking it keeps: every block but its own -/
def KV (v : Value) (w w' : World) : Prop := match v with
  | .pointer (some a) => KO a.block w w'
  | _ => Bel w w'
/-- how often it was asked, when it is asked once more -/
def more (v : Value) (k : Int) : Int := match v with
  | .pointer (some _) => k + 1
  | _ => k
theorem At_n {w : World} {base : Nat} {v : Value} {l : List SChart} {k : Int} (h : IsN w base v l k) (a : Int) (hk0 : 0 ≤ k) (hk1 : k ≤ 1099511627776) (ha : (Lit.int .i64 a).wf = true) :
    Calls Tryd.prog 25 #[v, .int .i64 a] w fun e w' => (∃ v1 v2, e = .returned (.tuple #[.agg #[.int .i64 (atL l a).f0, v1, v2], .int .i64 (atE l a)]) ∧ Own kLoc 50 w w' v1 (atL l a).f1 ∧ Own kPair 73 w w' v2 (atL l a).f2) ∧ IsN w' base v l (more v k) ∧ KV v w w' := by
  cases h with
  | none => exact (At_nil a w).mono fun e w' ⟨h1, h2⟩ => ⟨⟨_, _, h1, Own.nil _ _ _ _, Own.nil _ _ _ _⟩, .none, h2⟩
  | some tb B c l k hb h hC hl => exact (At_any tb B c l w k a h hC hl hk0 hk1 ha).mono fun e w' ⟨h1, ⟨m, D, h2⟩, h3⟩ => ⟨h1, .some tb B c l _ hb (.laid m D h2) (hC.keep h3.below) hl, h3⟩
theorem Asked_n {w : World} {base : Nat} {v : Value} {l : List SChart} {k : Int} (h : IsN w base v l k) : Calls Tryd.prog 28 #[v] w fun e w' => e = .returned (.int .i64 k) ∧ w' = w := by
  cases h with
  | none => exact Asked_nil w
  | some tb B c l k hb h hC hl =>
    obtain ⟨d, M, hq⟩ := h.cells
    exact Asked_any tb B l.length c d 0 M k w hq
theorem Len_n {w : World} {base : Nat} {v : Value} {l : List SChart} {k : Int} (h : IsN w base v l k) : Calls Tryd.prog 27 #[v] w fun e w' => e = .returned (.int .i64 l.length) ∧ w' = w := by
  cases h with
  | none => exact Len_nil w
  | some tb B c l k hb h hC hl =>
    obtain ⟨d, M, hq⟩ := h.cells
    exact Len_any tb B l.length c d 0 M k w hq
theorem Addrs_n {w : World} {base : Nat} {v : Value} {l : List SChart} {k : Int} (h : IsN w base v l k) : Calls Tryd.prog 31 #[v] w fun e w' => ∃ v1, e = .returned v1 ∧ OwnI w w' v1 (l.map fun x => x.f0) ∧ Bel w w' := by
  cases h with
  | none => exact (Addrs_nil w).mono fun e w' ⟨h1, h2⟩ => ⟨_, h1, Own.nil _ _ _ _, h2 ▸ Bel.refl _⟩
  | some tb B c l k hb h hC hl => exact Addrs_any tb B c l w k h hC
theorem IsN.keep {w W : World} {base : Nat} {v : Value} {l : List SChart} {k : Int} (h : IsN w base v l k) (q : Bel w W) : IsN W base v l k := by
  cases h with
  | none => exact .none
  | some tb B c l k hb h hC hl => exact .some tb B c l k hb (h.keep q) (hC.keep (q.out.mono (Nat.le_of_lt h.lt))) hl
/-- New's answer, as a table of the charts that the bytes are -/
theorem NewIs.n {w w' : World} {xs : List Int} {e : Ending} (hx : ByL xs) (h : NewIs w xs e w') : ∃ v, e = .returned (.tuple #[v, .int .i64 (dcE xs)]) ∧ IsN w' w.heap.size v (if dcE xs = 0 then dcL xs else []) 0 ∧ Bel w w' ∧ (v = .pointer none ↔ dcE xs ≠ 0) := by
  cases h with
  | no h hB => exact ⟨_, rfl, by rw [if_neg h]; exact .none, hB, ⟨fun _ => h, fun _ => rfl⟩⟩
  | yes h hB tb B c ht hT hC =>
    refine ⟨_, by rw [h], ?_, hB, ⟨fun q => (by injection q with q; cases q), fun q => absurd h q⟩⟩
    rw [if_pos h]
    have hf := few_of (dec_just hx h).1
    exact .some tb B c _ 0 ht hT hC ⟨fun x hx => ⟨by have := (((dec_just ‹ByL xs› h).1.all x hx).refs.few); omega, by have := (((dec_just ‹ByL xs› h).1.all x hx).ders.few); omega⟩⟩
theorem KO.bel {tb : Nat} {w W W1 : World} (h : KO tb W W1) (q : Bel w W) (hb : w.heap.size ≤ tb) : Bel w W1 := ⟨q.out.trans (h.below.mono hb)⟩
theorem KO.blk {tb : Nat} {W W1 : World} (h : KO tb W W1) {b : Nat} {o : Obj} (hb : W.heap[b]? = some o) (hn : b ≠ tb) : W1.heap[b]? = some o := (h.keep b (blk_lt hb) hn).trans hb
/-- a row of one's own, made behind the table -/
theorem OwnAt.ko {α : Type} {d : Kd α} {e base tb : Nat} {W W1 : World} {v : Value} {xs : List α} (h : OwnAt d e base W v xs) (k : KO tb W W1) (hb : tb < base) : OwnAt d e base W1 v xs :=
  ⟨Kd.R_mono (Kd.R_move (Kd.R_bound h.out) (fun i hi => k.keep i hi.2.2.1 (by have := hi.2.1; omega))) (fun _ hk => hk.1)⟩
abbrev IsTb (W : World) (tb : Nat) (l : List SChart) (k : Int) : Prop := IsN W tb (.pointer (some ⟨tb, 0, none⟩)) l k
theorem At_t {W : World} {tb : Nat} {l : List SChart} {k : Int} (h : IsTb W tb l k) (a : Int) (hk0 : 0 ≤ k) (hk1 : k ≤ 1099511627776) (ha : (Lit.int .i64 a).wf = true) :
    Calls Tryd.prog 25 #[.pointer (some ⟨tb, 0, none⟩), .int .i64 a] W fun e w' => (∃ v1 v2, e = .returned (.tuple #[.agg #[.int .i64 (atL l a).f0, v1, v2], .int .i64 (atE l a)]) ∧ Own kLoc 50 W w' v1 (atL l a).f1 ∧ Own kPair 73 W w' v2 (atL l a).f2) ∧ IsTb w' tb l (k + 1) ∧ KO tb W w' := At_n h a hk0 hk1 ha
theorem NewIs.t {w w' : World} {xs : List Int} {e : Ending} (hx : ByL xs) (h : NewIs w xs e w') (h0 : dcE xs = 0) : ∃ tb, e = .returned (.tuple #[.pointer (some ⟨tb, 0, none⟩), .int .i64 0]) ∧ w.heap.size ≤ tb ∧ tb < w'.heap.size ∧ IsTb w' tb (dcL xs) 0 ∧ Bel w w' := by
  cases h with
  | no h hB => exact absurd h0 h
  | yes h hB tb B c ht hT hC =>
    have hf := dec_just hx h
    exact ⟨tb, rfl, ht, hT.lt, .some tb B c _ 0 (Nat.le_refl _) hT hC ⟨fun x hx => ⟨by have := (hf.1.all x hx).refs.few; omega, by have := (hf.1.all x hx).ders.few; omega⟩⟩, hB⟩
theorem NewIs.z {w w' : World} {xs : List Int} {e : Ending} (h : NewIs w xs e w') (h0 : dcE xs ≠ 0) : e = .returned (.tuple #[.pointer none, .int .i64 (dcE xs)]) ∧ Bel w w' := by
  cases h with
  | no h hB => exact ⟨rfl, hB⟩
  | yes h hB tb B c ht hT hC => exact absurd h h0
theorem fewA {l : List SChart} (h : FewC l) (a : Int) : (atL l a).f1.length ≤ 1000000000 ∧ (atL l a).f2.length ≤ 1000000000 := by
  unfold atL
  cases hf : l.find? (fun x => decide (x.f0 = a)) with
  | none => simp [noC]
  | some x => exact h.2 x (List.mem_of_find?_eq_some hf)

end Go.Proofs.YtceibabhmomfiaaDoor.H

/- Layer 3, law23: the fixed fact. -/
namespace Go.Proofs.YtceibabhmomfiaaDoor.H
open Go.RowKit Go.Proofs.YtceibabhmomfiaaDoorW.PrintWords Go.Proofs.YtceibabhmomfiaaDoorW.PrintLast
set_option linter.unusedVariables false
set_option linter.unusedSimpArgs false
set_option maxRecDepth 100000

theorem live_at3 : atL [liveC] 3 = liveC ∧ atE [liveC] 3 = 0 := ⟨rfl, rfl⟩
theorem live_at4 : atL [liveC] 4 = noC ∧ atE [liveC] 4 = 12 := ⟨rfl, rfl⟩
set_option maxHeartbeats 4000000 in
theorem alive23_any (w : World) (hG : GlobA w.heap.size w) : Calls Tryd.prog 22 #[] w fun e w' => e = .returned (.bool true) ∧ Bel w w' := by
  have hn := Aside0.mk ((New_lit live0 (by unfold ByL live0; decide) (by decide) w hG).mono (fun e w' h => h.t (by unfold ByL live0; decide) live_dec.1))
  rw [live_dec.2] at hn
  have hBl := (Bel.refl w).alloc (.cells (nums .u8 live0).toArray 5)
  simp only [nums, live0, List.map_cons, List.map_nil, List.length_cons, List.length_nil, Nat.zero_add, Nat.reduceAdd] at hn hBl
  go_enter Tryd.func22, Tryd.ntmps22
  go_upto_region 2 with (go_at_call 24; ((with_reducible refine hn.out.mono ?_); rintro e w1 ⟨tb, rfl, ht1, ht2, hT1, hB1⟩))
  have hBw1 := hBl.trans hB1
  have hwt : w.heap.size ≤ tb := Nat.le_trans hBl.size ht1
  clear hBl hn
  have h3 := Aside0.mk (At_t hT1 3 (by decide) (by decide) (by decide))
  rw [live_at3.1, live_at3.2] at h3
  go_upto_region 3 with (go_at_call 25; ((with_reducible refine h3.out.mono ?_); rintro e w2 ⟨⟨v1, v2, rfl, hv1, hv2⟩, hT2, hK2⟩; obtain ⟨A1, c1, rfl, _, _⟩ := hv1.reads; obtain ⟨A2, c2, rfl, _, _⟩ := hv2.reads))
  have hBa := (Bel.refl w2).alloc (.cells #[.int .i64 3, .slice A1 liveC.f1.length c1, .slice A2 liveC.f2.length c2] 36)
  have hba := heap_alloc_new w2 (.cells #[.int .i64 3, .slice A1 liveC.f1.length c1, .slice A2 liveC.f2.length c2] 36)
  simp only [show liveC.f0 = 3 from rfl]
  generalize w2.alloc (.cells #[.int .i64 3, .slice A1 liveC.f1.length c1, .slice A2 liveC.f2.length c2] 36) = wb at hBa hba ⊢
  have h4 := Aside0.mk (At_t (hT2.keep hBa) 4 (by decide) (by decide) (by decide))
  rw [live_at4.1, live_at4.2] at h4
  obtain ⟨b, hb⟩ : ∃ b, w2.heap.size = b := ⟨_, rfl⟩
  rw [hb] at hba ⊢
  have hbt : b ≠ tb := by have := hK2.size; omega
  have hBwb : Bel w wb := (hK2.bel hBw1 hwt).trans hBa
  clear h3 hv1 hv2 hT1 hT2 hB1
  go_upto_region 4 with (go_at_call 25; ((with_reducible refine h4.out.mono ?_); rintro e w3 ⟨⟨v3, v4, rfl, hv3, hv4⟩, hT3, hK3⟩; obtain ⟨A3, c3, rfl, _, _⟩ := hv3.reads; obtain ⟨A4, c4, rfl, _, _⟩ := hv4.reads))
  have hbc := hK3.blk hba hbt
  have hBc := hK3.bel hBwb hwt
  have hBd := (Bel.refl w3).alloc (.cells #[.int .i64 noC.f0, .slice A3 noC.f1.length c3, .slice A4 noC.f2.length c4] 36)
  generalize w3.alloc (.cells #[.int .i64 noC.f0, .slice A3 noC.f1.length c3, .slice A4 noC.f2.length c4] 36) = wd at hBd ⊢
  have hbd := (hBd.out.block b (blk_lt hbc)).trans hbc
  have hTd := hT3.keep hBd
  have hBwd := hBc.trans hBd
  have h5 := Aside0.mk (At_nil 3 wd)
  clear h4 hv3 hv4 hT3 hK3 hbc hBc hba hK2 hBa hBwb
  go_upto_region 6 with (go_at_call 25; ((with_reducible refine h5.out.mono ?_); rintro e w4 ⟨rfl, hB4⟩))
  have hBe := hB4.alloc (.cells #[.int .i64 0, .slice none 0 0, .slice none 0 0] 36)
  generalize w4.alloc (.cells #[.int .i64 0, .slice none 0 0, .slice none 0 0] 36) = we at hBe ⊢
  have y0 : we.cell? ⟨b, 0, none⟩ = some (.int .i64 3) := blk_cell ((hBe.out.block b (blk_lt hbd)).trans hbd) 0
  have hA := Aside0.mk (Asked_n (hTd.keep hBe))
  have hLe := Aside0.mk (Len_n (hTd.keep hBe))
  have hL0 := Aside0.mk (Len_nil we)
  simp only [List.length_cons, List.length_nil, Nat.zero_add, Int.zero_add, Int.reduceAdd] at hA hLe
  clear hbd hTd h5 hb
  go_wp2_with (first | (go_at_call 28; ((with_reducible refine hA.out.mono ?_); rintro e w6 ⟨rfl, rfl⟩)) | (go_at_call 27; ((with_reducible refine hLe.out.mono ?_); rintro e w6 ⟨rfl, rfl⟩)) | (go_at_call 27; ((with_reducible refine hL0.out.mono ?_); rintro e w6 ⟨rfl, rfl⟩)))
  go_ret
  exact ⟨rfl, hBwd.trans hBe⟩
end Go.Proofs.YtceibabhmomfiaaDoor.H
