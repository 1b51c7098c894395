/- Texts of this work, joined: Ff, Fg, Fh. Conditions: each stands with its theorem. -/
import Derived.Test.YtceibabhmomfiaaDoorX11
import Derived.Test.YtceibabhmomfiaaDoorX10
import Derived.Test.YtceibabhmomfiaaDoorX15
/- Layer 1, law23: a table out of bytes. -/
namespace Go.Proofs.YtceibabhmomfiaaDoor.H
open Go.RowKit Go.Proofs.YtceibabhmomfiaaDoorW.PrintWords Go.Proofs.YtceibabhmomfiaaDoorW.PrintLast
set_option linter.unusedVariables false
set_option linter.unusedSimpArgs false
set_option maxRecDepth 100000

theorem riseA_lt {l : List SChart} (h : Rise (fun x y => x.f0 < y.f0) l) : ∀ (d i : Nat) (hj : i + d + 1 < l.length), (l[i]'(by omega)).f0 < (l[i + d + 1]'hj).f0 := by
  intro d
  induction d with
  | zero => intro i hj; exact h i hj
  | succ d ih => intro i hj; exact Int.lt_trans (ih i (by omega)) (h (i + d + 1) hj)
theorem rise_ne {l : List SChart} (h : Rise (fun x y => x.f0 < y.f0) l) (i j : Nat) (hi : i < l.length) (hj : j < l.length) (hij : i < j) : l[i].f0 ≠ l[j].f0 := by
  obtain ⟨d, rfl⟩ : ∃ d, j = i + d + 1 := ⟨j - i - 1, by omega⟩
  have := riseA_lt h d i hj
  omega
/-- what New hands back -/
inductive NewIs (w : World) (l : List Int) : Ending → World → Prop where
  | no {w' : World} (h : dcE l ≠ 0) (hB : Bel w w') : NewIs w l (.returned (.tuple #[.pointer none, .int .i64 (dcE l)])) w'
  | yes {w' : World} (h : dcE l = 0) (hB : Bel w w') (tb : Nat) (B : Option Addr) (c : Nat) (ht : w.heap.size ≤ tb) (hT : IsT w' tb B (dcL l) c 0) (hC : ChartsAt w' tb B (dcL l)) : NewIs w l (.returned (.tuple #[.pointer (some ⟨tb, 0, none⟩), .int .i64 0])) w'

set_option maxHeartbeats 2000000 in
theorem New_any (A : Option Addr) (c : Nat) (l : List Int) (w : World) (hG : GlobA w.heap.size w) (hc : l.length ≤ c) (HR : RdB w A l) (hby : Bytes l) (hl : l.length ≤ 10000000000000) :
    Calls Tryd.prog 24 #[.slice A l.length c] w fun e w' => NewIs w l e w' := by
  have hd := Aside0.mk (Decode_any A c l w hG hc HR hby hl)
  have hj := Aside0.mk (fun q => dec_just hby.out (b := l) q)
  clear hG HR
  replace hby := Aside0.mk hby
  obtain ⟨E, hE⟩ : ∃ E, dcE l = E := ⟨_, rfl⟩
  rw [hE] at hd
  go_enter Tryd.func24, Tryd.ntmps24
  go_upto_region 2 with (go_at_call 13; ((with_reducible refine hd.out.mono ?_); rintro e w1 ⟨v, rfl, hO, hB⟩; obtain ⟨B, c1, rfl, hc1, hR1⟩ := hO.reads))
  by_cases h0 : E = 0
  · subst h0
    have hB1 := hB.alloc (.cells #[.slice B (dcL l).length c1, .int .u32 0, .int .i32 0, .int .u32 0, .map none, .int .i64 0] 99)
    have hg := heap_alloc_new w1 (.cells #[.slice B (dcL l).length c1, .int .u32 0, .int .i32 0, .int .u32 0, .map none, .int .i64 0] 99)
    have hJ := hj.out hE
    go_wp2
    go_ret2
    refine .yes hE hB1 _ B c1 hB.size (.new _ hg) ⟨⟨fun W k => KO.rd hR1 (((Below.refl _ _).alloc (Nat.le_refl _) _).trans k)⟩, ⟨rise_ne hJ.1.rise⟩, by have := hJ.1.few; omega, ⟨fun x hx => WalkArith.wf_i64 (by have h2 := hJ.2.2 x hx; have h1 := (hJ.1.all x hx).addr; unfold farA at h2; omega)⟩⟩
  · have h1 : (E != 0) = true := by simp [h0]
    go_wp2
    go_ret2
    rw [← hE]
    exact .no (by rw [hE]; exact h0) hB
end Go.Proofs.YtceibabhmomfiaaDoor.H

/- Layer 1, law23: a table's addresses. -/
namespace Go.Proofs.YtceibabhmomfiaaDoor.H
open Go.RowKit Go.Proofs.YtceibabhmomfiaaDoorW.PrintWords Go.Proofs.YtceibabhmomfiaaDoorW.PrintLast
set_option linter.unusedVariables false
set_option linter.unusedSimpArgs false
set_option maxRecDepth 100000

set_option maxHeartbeats 2000000 in
theorem Addrs_nil (w : World) : Calls Tryd.prog 31 #[.pointer none] w fun e w' => e = .returned (.slice none 0 0) ∧ w' = w := by
  go_enter Tryd.func31, Tryd.ntmps31
  go_wp2_with (go_at_call 27; ((with_reducible refine (Len_nil _).mono ?_); rintro e w' ⟨rfl, hw⟩; (have hw := hw.symm); subst hw))
  go_loopw [3, 7] (fun v i W => v = .slice none 0 0 ∧ i = .int .i64 0 ∧ W = w) (fun _ i _ => 0)
  case atStart => exact ⟨rfl, rfl, rfl⟩
  case round =>
    obtain ⟨rfl, rfl, hw⟩ := hrel
    have hw := hw.symm
    subst hw
    go_wp2
    go_ret
    exact ⟨rfl, rfl⟩
set_option maxHeartbeats 2000000 in
theorem Addrs_any (tb : Nat) (A : Option Addr) (c : Nat) (l : List SChart) (w : World) (k : Int) (h : IsT w tb A l c k) (hl : ChartsAt w tb A l) :
    Calls Tryd.prog 31 #[.pointer (some ⟨tb, 0, none⟩)] w fun e w' => ∃ v, e = .returned v ∧ OwnI w w' v (l.map fun x => x.f0) ∧ Bel w w' := by
  obtain ⟨d, M, hb⟩ := h.cells
  have hLn := Aside0.mk (Len_any tb A l.length c d 0 M k w hb)
  have hfew := hl.few
  obtain ⟨r, hr⟩ : ∃ r, w.heap.size = r := ⟨_, rfl⟩
  have htb : tb < w.heap.size := blk_lt hb
  have hrd : Rd kChart w A l := hl.rd.out w (Below.refl _ _)
  clear h hl
  replace hr := Aside0.mk hr
  replace hb := Aside0.mk hb
  go_enter Tryd.func31, Tryd.ntmps31
  go_wp2_with (go_at_call 27; ((with_reducible refine hLn.out.mono ?_); rintro e w' ⟨rfl, hw⟩; (have hw := hw.symm); subst hw))
  go_loopw [3, 7] (fun v i W => ∃ k : Nat, k ≤ l.length ∧ i = .int .i64 k ∧ OwnAt (Kd.int .i64) 3 r W v ((l.take k).map fun x => x.f0) ∧ Bel w W) (fun _ i _ => l.length - (intOf i).toNat)
  case atStart => exact ⟨0, by omega, rfl, OwnAt.nil _ _ _ _, Bel.refl _⟩
  case round =>
    obtain ⟨k, hk, rfl, hO, hB⟩ := hrel
    by_cases hlt : k < l.length
    · obtain ⟨ad, C1, n1, C2, n2, rfl, c0, c1, c2, c3, c4⟩ := chart_at (hrd.step hB) k hlt
      have htk : (l.take (k + 1)).map (fun x => x.f0) = (l.take k).map (fun x => x.f0) ++ [l[k].f0] := by rw [take_snocL l k hlt, List.map_append]; rfl
      obtain ⟨x0, hx0⟩ : ∃ x, l[k].f0 = x := ⟨_, rfl⟩
      rw [hx0] at htk c0
      obtain ⟨xs, hxs⟩ : ∃ xs, (l.take k).map (fun x => x.f0) = xs := ⟨_, rfl⟩
      have hxl : xs.length ≤ 1000000 := by rw [← hxs]; simp; omega
      rw [hxs] at hO htk
      have hrw : r ≤ wr.heap.size := by rw [← hr.out]; exact hB.size
      have y0 : wr.cell? ⟨tb, 0, none⟩ = some (.slice (some ad) l.length c) := Bel.cell hB (blk_cell hb.out 0)
      clear c1 c2 c3 c4 hx0
      replace hxs := Aside0.mk hxs
      obtain ⟨A1, m1, rfl, _, _⟩ := hO.reads
      replace htk := Aside0.mk htk
      go_wp2_with ((with_reducible refine gate_b (b := .append) rfl ?_); (refine app_int_at_ (xs := xs) x0 [.int .i64 x0] hO ⟨rfl⟩ hrw rfl _ _ rfl ?hl1 rfl rfl ?_); (case hl1 => omega); intro v3 w5 hO1 hK1)
      go_roundw
      case rel => exact ⟨k + 1, by omega, by go_num, by rw [htk.out]; exact hO1, ⟨hB.out.trans (hK1.below.mono (Nat.le_of_eq hr.out))⟩⟩
      case measure => simp [intOf]; omega
    · have hkl : k = l.length := by omega
      subst hkl
      go_wp2
      go_ret
      refine ⟨_, rfl, ?_, hB⟩
      have := hO.out
      rw [List.take_length] at this
      exact ⟨by rw [hr.out]; exact this⟩
end Go.Proofs.YtceibabhmomfiaaDoor.H

/- Layer 3, law23, the reference: charts are asked for an address. -/
namespace Go.Proofs.YtceibabhmomfiaaDoor.H
open Go.RowKit Go.Proofs.YtceibabhmomfiaaDoorW.PrintWords Go.Proofs.YtceibabhmomfiaaDoorW.PrintLast
set_option linter.unusedVariables false
set_option linter.unusedSimpArgs false
set_option maxRecDepth 100000

theorem at_first {l : List SChart} {a : Int} (i : Nat) (hi : i < l.length) (he : l[i].f0 = a) (hb : ∀ (j : Nat) (hj : j < l.length), j < i → l[j].f0 ≠ a) : atL l a = l[i] ∧ atE l a = 0 := by
  have h : l.find? (fun x => decide (x.f0 = a)) = some l[i] := by
    rw [List.find?_eq_some_iff_getElem]
    refine ⟨by simp [he], i, hi, rfl, fun j hj => ?_⟩
    simp
    exact hb j (by omega) hj
  unfold atL atE
  rw [h]
  exact ⟨rfl, rfl⟩
set_option maxHeartbeats 3000000 in
theorem AtRef_any (A : Option Addr) (c : Nat) (l : List SChart) (a : Int) (w : World) (HA : Rd kChart w A l) (hfew : l.length ≤ 1000000) :
    Calls Tryd.prog 29 #[.slice A l.length c, .int .i64 a] w fun e w' => ∃ A1 c1 A2 c2, e = .returned (.tuple #[.agg #[.int .i64 (atL l a).f0, .slice A1 (atL l a).f1.length c1, .slice A2 (atL l a).f2.length c2], .int .i64 (atE l a)]) ∧ Rd kLoc w' A1 (atL l a).f1 ∧ Rd kPair w' A2 (atL l a).f2 ∧ Bel w w' := by
  have hg0 := heap_alloc_new w (.cells #[.int .i64 0, .slice none 0 0, .slice none 0 0] 36)
  have hB0 := (Bel.refl w).alloc (.cells #[.int .i64 0, .slice none 0 0, .slice none 0 0] 36)
  go_enter Tryd.func29, Tryd.ntmps29
  go_upto_region 1 with (fail)
  generalize w.alloc (.cells #[.int .i64 0, .slice none 0 0, .slice none 0 0] 36) = wa at hg0 hB0 ⊢
  obtain ⟨b, hb⟩ : ∃ b, w.heap.size = b := ⟨_, rfl⟩
  rw [hb] at hg0 ⊢
  have q0 := blk_frozen hg0 0
  have q1 := blk_frozen hg0 1
  have q2 := blk_frozen hg0 2
  have q3 : wa.cell? ⟨b, 0, none⟩ = some (.int .i64 0) := blk_cell hg0 0
  have q4 : wa.cell? ⟨b, 1, none⟩ = some (.slice none 0 0) := blk_cell hg0 1
  have q5 : wa.cell? ⟨b, 2, none⟩ = some (.slice none 0 0) := blk_cell hg0 2
  replace hg0 := Aside0.mk hg0
  have hBp := Aside0.mk (fun u0 u1 u2 => (⟨hB0.out.trans ((put3 hg0.out u0 u1 u2).2.2 w.heap.size (Nat.le_of_eq hb))⟩ : Bel w (((wa.setCell ⟨b, 0, none⟩ u0).setCell ⟨b, 1, none⟩ u1).setCell ⟨b, 2, none⟩ u2)))
  have HAa := HA.step hB0
  replace hb := Aside0.mk hb
  go_upto_region 2 with (fail)
  go_loopw [6] (fun i W => ∃ k : Nat, k ≤ l.length ∧ i = .int .i64 k ∧ wa = W ∧ Aside0 (∀ (j : Nat) (hj : j < l.length), j < k → l[j].f0 ≠ a)) (fun i _ => l.length - (intOf i).toNat)
  case atStart => exact ⟨0, by omega, rfl, rfl, ⟨fun j _ h => absurd h (by omega)⟩⟩
  case round =>
    obtain ⟨k, hk, rfl, rfl, hno⟩ := hrel
    by_cases hlt : k < l.length
    · obtain ⟨ad, C1, n1, C2, n2, rfl, c0', c1', c2', c3, c4⟩ := chart_at HA k hlt
      have c0 := Bel.cell hB0 c0'
      have c1 := Bel.cell hB0 c1'
      have c2 := Bel.cell hB0 c2'
      clear c0' c1' c2'
      have hat := Aside0.mk (fun he => at_first k hlt he hno.out)
      obtain ⟨x, hx⟩ : ∃ x, l[k] = x := ⟨_, rfl⟩
      rw [hx] at hat c0 c1 c2 c3 c4
      have hx := Aside0.mk hx
      obtain ⟨x0, xr, xd⟩ := x
      simp only at hat c0 c1 c2 c3 c4
      by_cases he : x0 = a
      · subst he
        have he1 : (x0 == x0) = true := by simp
        have hA := Aside0.mk (hat.out rfl)
        have hp := Aside0.mk (put3 hg0.out (.int .i64 x0) (.slice C1 xr.length n1) (.slice C2 xd.length n2)).1
        have hKc := Aside0.mk (hBp.out (.int .i64 x0) (.slice C1 xr.length n1) (.slice C2 xd.length n2))
        go_wp2
        refine bodyPost_ret (results_cell_row2 rfl _ _ b 36 #[.int .i64 x0, .slice C1 xr.length n1, .slice C2 xd.length n2] (0, 0) _ rfl hp.out Tryd.underlying36 rfl (by kernel_rfl)) rfl ?_
        rw [hA.out.1, hA.out.2]
        exact ⟨C1, n1, C2, ⟨n2, rfl⟩, c3.step hKc.out, c4.step hKc.out, hKc.out⟩
      · have he1 : (x0 == a) = false := by simp [he]
        go_wp2
        go_roundw
        case rel => exact ⟨k + 1, by omega, by go_num, trivial, ⟨fun j hj hjk => by
          by_cases hje : j = k
          · subst hje
            rw [hx.out]
            exact he
          · exact hno.out j hj (by omega)⟩⟩
        case measure => simp [intOf]; omega
    · have hm := at_miss (l := l) (a := a) (fun i hi => hno.out i hi (by omega))
      have hp := Aside0.mk (put3 hg0.out (.int .i64 0) (.slice none 0 0) (.slice none 0 0)).1
      have hB1 := Aside0.mk (hBp.out (.int .i64 0) (.slice none 0 0) (.slice none 0 0))
      go_wp2
      refine bodyPost_ret (results_cell_row2 rfl _ _ b 36 #[.int .i64 0, .slice none 0 0, .slice none 0 0] (0, 0) _ rfl hp.out Tryd.underlying36 rfl (by kernel_rfl)) rfl ?_
      rw [hm.1, hm.2]
      exact ⟨none, 0, none, 0, rfl, ⟨(show kLoc.C _ none 0 [] from ⟨rfl, by simp, fun h => by simp at h⟩)⟩, ⟨(show kPair.C _ none 0 [] from ⟨rfl, by simp, fun h => by simp at h⟩)⟩, hB1.out⟩
end Go.Proofs.YtceibabhmomfiaaDoor.H
