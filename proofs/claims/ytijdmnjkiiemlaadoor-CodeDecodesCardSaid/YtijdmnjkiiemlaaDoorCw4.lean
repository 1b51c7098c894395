/- Layer 3, walks: the writer lays numbers. -/
import Derived.Test.YtijdmnjkiiemlaaDoorCw3
import Derived.Test.YtijdmnjkiiemlaaDoorVi
namespace Go.Proofs.YtijdmnjkiiemlaaDoor.H
open Go.RowKit Go.Proofs.YtijdmnjkiiemlaaDoorW.PrintWords Go.Proofs.YtijdmnjkiiemlaaDoorW.PrintLast
set_option linter.unusedVariables false
set_option linter.unusedSimpArgs false

/-- The types that a writer's calls write. -/
abbrev WT : List Nat := [5, 53]
/-- A writer at block g: its bytes, and whether something couldn't be laid. -/
structure IsW (base : Nat) (W : World) (g : Nat) (bs : List Int) (bad : Bool) (v : Value) : Prop where
  ge : base ≤ g
  lt : base ≤ W.heap.size
  blk : W.heap[g]? = some (.cells #[v, .bool bad] 53 (0, 0))
  own : OwnAt (Kd.int .u8) 5 base W v bs
abbrev IsWA (base : Nat) (W : World) (g : Nat) (bs : List Int) (bad : Bool) : Prop := Aside0 (∃ v, IsW base W g bs bad v)
theorem IsW.step {base g : Nat} {W W1 : World} {bs : List Int} {bad : Bool} {v : Value} (h : IsW base W g bs bad v) (k : Bel W W1) : IsW base W1 g bs bad v :=
  ⟨h.ge, Nat.le_trans h.lt k.size, (k.out.block g (blk_lt h.blk)).trans h.blk, h.own.step k⟩
/-- the bytes are others -/
theorem IsW.setB {base g : Nat} {W W1 : World} {bs bs1 : List Int} {bad : Bool} {v v1 : Value} (h : IsW base W g bs bad v) (k : KT [5] base W W1) (ho : OwnAt (Kd.int .u8) 5 base W1 v1 bs1) :
    IsW base (W1.setCell ⟨g, 0, none⟩ v1) g bs1 bad v1 ∧ KT WT base W (W1.setCell ⟨g, 0, none⟩ v1) := by
  have hb := k.blk h.blk (by decide)
  have ks : KT [53] base W1 (W1.setCell ⟨g, 0, none⟩ v1) := KT.set hb (by decide) h.ge 0 v1
  exact ⟨⟨h.ge, Nat.le_trans h.lt (Nat.le_trans k.size ks.size), (blk_set hb 0 v1).trans rfl, ho.keep ks (by decide)⟩, (k.mono (Nat.le_refl _) (by decide)).trans (ks.mono (Nat.le_refl _) (by decide))⟩
/-- the mark is another -/
theorem IsW.setM {base g : Nat} {W : World} {bs : List Int} {bad : Bool} {v : Value} (h : IsW base W g bs bad v) (b : Bool) :
    IsW base (W.setCell ⟨g, 1, none⟩ (.bool b)) g bs b v ∧ KT WT base W (W.setCell ⟨g, 1, none⟩ (.bool b)) := by
  have ks : KT [53] base W (W.setCell ⟨g, 1, none⟩ (.bool b)) := KT.set h.blk (by decide) h.ge 1 _
  exact ⟨⟨h.ge, Nat.le_trans h.lt ks.size, (blk_set h.blk 1 _).trans rfl, h.own.keep ks (by decide)⟩, ks.mono (Nat.le_refl _) (by decide)⟩

/-- List of one number that was just laid down, in a region that drew its order. -/
theorem List_lit (W : World) (b : Nat) (n : Int) (hb : b = W.heap.size) (h0 : -9223372036854775808 ≤ n) (h1 : n ≤ 9223372036854775807) :
    Calls Tryd.prog 43 #[.slice (some ⟨b, 0, none⟩) 1 1] (W.alloc (.cells #[.int .i64 n] 3)).drew fun e w' => ∃ v : Value, e = .returned v ∧ OwnB W w' v (putL n) ∧ Bel W w' := by
  subst hb
  have hB : Bel W (W.alloc (.cells #[.int .i64 n] 3)).drew := ((Bel.refl W).alloc _).drewN 1
  have := List_any (some ⟨W.heap.size, 0, none⟩) 1 [n] (W.alloc (.cells #[.int .i64 n] 3)).drew ((Rd.lit .i64 3 W [n] (by simp)).drewN 1) ⟨by intro x hx; rw [List.mem_singleton.1 hx]; exact ⟨h0, h1⟩⟩ (by simp)
  rw [show listL [n] = putL n by simp [listL]] at this
  exact this.mono fun e w' ⟨v, hv, hR, hB1⟩ => ⟨v, hv, hR.lower hB, hB.trans hB1⟩

/-- is a number below 0? -/
def negB (n : Int) : Bool := decide (n < 0)

set_option maxHeartbeats 4000000 in
theorem wput_any (A : Option Addr) (c : Nat) (l : List Int) (base g : Nat) (bs : List Int) (bad : Bool) (w : World) (hW : IsWA base w g bs bad) (hl : RdK (Kd.int .i64) WT base w A l) (hok : IntsOk l) (hbs : bs.length + 10 * l.length ≤ 10000000000000) :
    Calls Tryd.prog 22 #[.pointer (some ⟨g, 0, none⟩), .slice A l.length c] w fun e w' => e = .returned (.tuple #[]) ∧ IsWA base w' g (bs ++ listL l) (bad || l.any negB) ∧ Aside0 (KT WT base w w') := by
  have hm := hl.now.len
  go_enter Tryd.func22, Tryd.ntmps22
  go_wp2
  go_loopw [8] (fun i W => ∃ k : Nat, k ≤ l.length ∧ i = .int .i64 k ∧ IsWA base W g (bs ++ listL (l.take k)) (bad || (l.take k).any negB) ∧ Aside0 (KT WT base w W)) (fun i _ => l.length - (intOf i).toNat)
  case atStart => exact ⟨0, by omega, rfl, by simpa [listL] using hW, ⟨KT.refl _ _ _⟩⟩
  case round =>
    obtain ⟨k, hk, rfl, hx, hK⟩ := hrel
    by_cases hlt : k < l.length
    · obtain ⟨ad, rfl, hcell⟩ := rd_atN (hl.out wr hK.out) k hlt
      have hn := hok.at_ k hlt
      have hts := Aside0.mk (take_snoc l k hlt)
      have hlen := Aside0.mk (listL_len (l.take k))
      obtain ⟨n, hnn⟩ : ∃ n, rd l (k : Int) = n := ⟨_, rfl⟩
      rw [hnn] at hcell hn hts
      clear hnn
      have hn0 := hn.1
      have hn1 := hn.2
      clear hn
      obtain ⟨bs1, hbs1⟩ : ∃ b, Aside0 (bs ++ listL (l.take k) = b) := ⟨_, ⟨rfl⟩⟩
      obtain ⟨b1, hb1⟩ : ∃ b, Aside0 ((bad || (l.take k).any negB) = b) := ⟨_, ⟨rfl⟩⟩
      rw [hbs1.out, hb1.out] at hx
      have hlb : bs1.length ≤ 10000000000000 := by rw [← hbs1.out, List.length_append]; have := hlen.out; rw [List.length_take] at this; omega
      obtain ⟨v, hv⟩ := hx.out
      have c1 : wr.cell? ⟨g, 1, none⟩ = some (.bool b1) := blk_cell hv.blk 1
      have f1 := blk_frozen hv.blk 1
      replace hv := Aside0.mk hv
      clear hx
      go_upto_region 3 with (fail)
      go_cut [12] (fun _ W => ∃ v, Aside0 (IsW base W g bs1 (b1 || negB n) v ∧ KT WT base w W))
      case first =>
        cases b1 with
        | true =>
          go_wp2
          go_meet
          case rel => exact ⟨v, ⟨(hv.out.setM true).1, hK.out.trans (hv.out.setM true).2⟩⟩
        | false =>
          by_cases hneg : n < 0
          · have hd : Aside0 (negB n = true) := ⟨decide_eq_true hneg⟩
            go_wp2
            go_meet
            case rel => exact ⟨v, ⟨by rw [hd.out]; exact (hv.out.setM true).1, hK.out.trans (hv.out.setM true).2⟩⟩
          · have hd : Aside0 (negB n = false) := ⟨decide_eq_false hneg⟩
            go_wp2
            go_meet
            case rel => exact ⟨v, ⟨by rw [hd.out]; exact (hv.out.setM false).1, hK.out.trans (hv.out.setM false).2⟩⟩
      case rest =>
        clear hv c1 f1 hK
        obtain ⟨v, hv⟩ := hcut
        have hlt2 : g < wc.heap.size := blk_lt hv.out.1.blk
        have c0 : wc.cell? ⟨g, 0, none⟩ = some v := blk_cell hv.out.1.blk 0
        have f0 : wc.frozen? ⟨g, 0, none⟩ = false := blk_frozen hv.out.1.blk 0
        go_upto_region 4 with (fail)
        have hlp := Aside0.mk (putL_len n)
        go_region_law (first | (refine goes_ (f := 43) Tryd.func43 (by kernel_rfl) rfl #[.slice (some ⟨wc.heap.size, 0, none⟩) 1 1] rfl rfl rfl (by simp only [List.map_toArray, List.map_cons, List.map_nil]; rfl) ?_; refine (List_lit wc _ n rfl hn0 hn1).mono ?_; rintro e w' ⟨v2, rfl, hR, hB⟩; obtain ⟨A2, c2, rfl, hc2, hD⟩ := hR.reads; clear hR hc2; refine ⟨_, rfl, ?_⟩; have c0' : w'.cell? ⟨g, 0, none⟩ = some v := (hB.out.cell (p := ⟨g, 0, none⟩) hlt2).trans c0) | (refine app_bytes_step (hv.out.1.own.step hB) (Nat.le_trans hv.out.1.lt hB.size) hD rfl _ _ rfl ?_ rfl rfl ?_; (have := hlp.out; omega); intro v1 w1 hO hK1; obtain ⟨A3, c3, rfl, _, _⟩ := hO.reads; have f0' : w1.frozen? ⟨g, 0, none⟩ = false := blk_frozen (hK1.blk ((hB.out.block g hlt2).trans hv.out.1.blk) (by decide)) 0; have c0' : w1.cell? ⟨g, 0, none⟩ = some v := blk_cell (hK1.blk ((hB.out.block g hlt2).trans hv.out.1.blk) (by decide)) 0))
        all_goals
          have hs := (hv.out.1.step hB).setB hK1 hO
          have hk2 := (hv.out.2.trans (KT.of_bel hB hv.out.1.lt WT)).trans hs.2
          rw [List.length_append] at hs hk2
          replace hs := Aside0.mk hs
          replace hk2 := Aside0.mk hk2
          go_wp2
          go_roundw
          case rel => exact ⟨k + 1, by omega, by go_num, ⟨_, by rw [hts.out, listL_snoc, ← List.append_assoc, hbs1.out, List.any_append, ← Bool.or_assoc, hb1.out, List.any_cons, List.any_nil, Bool.or_false]; exact hs.out.1⟩, hk2⟩
          case measure => simp [intOf]; omega
    · go_wp2
      go_end0
      rw [List.take_of_length_le (by omega)] at hx
      exact ⟨rfl, hx, hK⟩
end Go.Proofs.YtijdmnjkiiemlaaDoor.H
