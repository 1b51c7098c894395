/- Texts of this work, joined: Fn. Conditions: each stands with its theorem. -/
import Derived.Test.YtceibabhmomfiaaDoorX18
import Derived.Test.YtceibabhmomfiaaDoorX26
/- Layer 3, law23: each chart is found at its address, as it was encoded, and at no other one. -/
namespace Go.Proofs.YtceibabhmomfiaaDoor.H
open Go.RowKit Go.Proofs.YtceibabhmomfiaaDoorW.PrintWords Go.Proofs.YtceibabhmomfiaaDoorW.PrintLast
set_option linter.unusedVariables false
set_option linter.unusedSimpArgs false
set_option maxRecDepth 100000

theorem addr_add0 (g k : Nat) : (⟨g, 0, none⟩ : Addr).add k = ⟨g, k, none⟩ := by unfold Addr.add; simp; intro h; exact h.symm
/-- two cells of a block that is none of the table's were written -/
theorem isTb_put {W : World} {tb g : Nat} {l : List SChart} {k : Int} {cs : Array Value} {t : Nat} (h : IsTb W tb l k) (hb : W.heap[g]? = some (.cells cs t (0, 0))) (hg : tb < g) (i j : Nat) (u v : Value) : IsTb ((W.setCell ⟨g, i, none⟩ u).setCell ⟨g, j, none⟩ v) tb l k := by
  have q : ∀ n, n ≠ g → ((W.setCell ⟨g, i, none⟩ u).setCell ⟨g, j, none⟩ v).heap[n]? = W.heap[n]? := fun n hn =>
    (Below.heap_setCell _ ⟨g, j, none⟩ v n hn).trans (Below.heap_setCell W ⟨g, i, none⟩ u n hn)
  have qb : Below tb W ((W.setCell ⟨g, i, none⟩ u).setCell ⟨g, j, none⟩ v) := ((Below.refl _ _).setCell (p := ⟨g, i, none⟩) (Nat.le_of_lt hg) u).setCell (p := ⟨g, j, none⟩) (Nat.le_of_lt hg) v
  cases h with
  | some tb B c l k hb0 h hC hl =>
    refine .some tb B c l k hb0 ?_ (hC.keep qb) hl
    cases h with
    | new M h => exact .new M ((q tb (by omega)).trans h)
    | laid m D h => exact .laid m D (h.other hb (by omega) q)
theorem blk_put {W : World} {g t : Nat} {cs : Array Value} (hb : W.heap[g]? = some (.cells cs t (0, 0))) (i j : Nat) (u v : Value) : ∃ cs', ((W.setCell ⟨g, i, none⟩ u).setCell ⟨g, j, none⟩ v).heap[g]? = some (.cells cs' t (0, 0)) ∧ cs'.size = cs.size := by
  refine ⟨_, blk_set (blk_set hb i u) j v, ?_⟩
  simp
/-- the row of what was told -/
structure Told (W : World) (tb : Nat) (A : Option Addr) (n g : Nat) : Prop where
  hg : tb < g
  row : 0 < n → A = some ⟨g, 0, none⟩ ∧ ∃ cs, W.heap[g]? = some (.cells cs 50 (0, 0)) ∧ 2 * n ≤ cs.size
theorem told_of {W W1 : World} {A : Option Addr} {c tb : Nat} {xs : List SLoc} (h : Own kLoc 50 W W1 (.slice A xs.length c) xs) (hb : tb < W.heap.size) : ∃ g, Told W1 tb A xs.length g ∧ (0 < xs.length → g < W1.heap.size) := by
  rcases Nat.eq_zero_or_pos xs.length with h0 | h0
  · exact ⟨tb + 1, ⟨by omega, fun q => absurd q (by omega)⟩, fun q => absurd q (by omega)⟩
  · obtain ⟨g, cap, e, h1, h2, cs, h3⟩ := Kd.R_form h.out h0
    injection e with e _ _
    subst e
    refine ⟨g, ⟨by omega, fun _ => ⟨rfl, cs, h3, ?_⟩⟩, fun _ => h2⟩
    obtain ⟨ad, e2, _, q1⟩ := loc_at (OwnAt.rdOf h) (xs.length - 1) (by omega)
    injection e2 with e2
    subst e2
    have q2 : W1.cell? ⟨g, (xs.length - 1) * 2 + 1, none⟩ = some (.int .i64 (xs[xs.length - 1]'(by omega)).f1) := by rw [addr_add0] at q1; simpa using q1
    rw [blk_cell h3] at q2
    have := (Array.getElem?_eq_some_iff.1 q2).1
    omega
theorem told_cell {W : World} {tb n g : Nat} {A : Option Addr} (h : Told W tb A n g) (k : Nat) (hk : k < n) : A = some ⟨g, 0, none⟩ ∧ (∃ u, W.cell? ⟨g, k * 2, none⟩ = some u) ∧ (∃ u, W.cell? ⟨g, k * 2 + 1, none⟩ = some u) ∧ (∀ j, W.frozen? ⟨g, j, none⟩ = false) := by
  obtain ⟨h1, cs, h2, h3⟩ := h.row (by omega)
  refine ⟨h1, ⟨cs[k * 2]'(by omega), ?_⟩, ⟨cs[k * 2 + 1]'(by omega), ?_⟩, fun j => blk_frozen h2 j⟩
  · rw [blk_cell h2, Array.getElem?_eq_getElem (by omega)]
  · rw [blk_cell h2, Array.getElem?_eq_getElem (by omega)]
theorem told_put {W : World} {tb n g : Nat} {A : Option Addr} (h : Told W tb A n g) (i j : Nat) (u v : Value) : Told ((W.setCell ⟨g, i, none⟩ u).setCell ⟨g, j, none⟩ v) tb A n g :=
  ⟨h.hg, fun hn => by
    obtain ⟨h1, cs, h2, h3⟩ := h.row hn
    obtain ⟨cs', q1, q2⟩ := blk_put h2 i j u v
    exact ⟨h1, cs', q1, by omega⟩⟩
theorem told_step {W W1 : World} {tb n g : Nat} {A : Option Addr} (h : Told W tb A n g) (q : Bel W W1) : Told W1 tb A n g :=
  ⟨h.hg, fun hn => by
    obtain ⟨h1, cs, h2, h3⟩ := h.row hn
    exact ⟨h1, cs, (q.out.block g (blk_lt h2)).trans h2, h3⟩⟩
/-- is there a chart at an address? -/
def There (l : List SChart) (a : Int) (k : Nat) : Prop := ∃ (j : Nat) (h : j < l.length), j < k ∧ l[j].f0 = a
theorem there_ends {l : List SChart} (hd : ∀ (i j : Nat) (hi : i < l.length) (hj : j < l.length), i < j → l[i].f0 ≠ l[j].f0) (a : Int) (b : Bool) (h : b = true ↔ There l a l.length) : ((atE l a == 0) == b) = true := by
  by_cases hx : There l a l.length
  · rw [h.2 hx]
    obtain ⟨j, hj, _, rfl⟩ := hx
    rw [(at_hit hd j hj).2]
    rfl
  · have hb : b = false := by
      cases b with
      | false => rfl
      | true => exact absurd (h.1 rfl) hx
    rw [hb, (at_miss (l := l) (a := a) (fun i hi e => hx ⟨i, hi, hi, e⟩)).2]
    rfl
theorem there_snoc {l : List SChart} {a : Int} {k : Nat} (hk : k < l.length) : There l a (k + 1) ↔ There l a k ∨ l[k].f0 = a := by
  constructor
  · rintro ⟨j, hj, hjk, e⟩
    by_cases h : j = k
    · subst h; exact .inr e
    · exact .inl ⟨j, hj, by omega, e⟩
  · rintro (⟨j, hj, hjk, e⟩ | e)
    · exact ⟨j, hj, by omega, e⟩
    · exact ⟨k, hk, by omega, e⟩

set_option maxHeartbeats 8000000 in
theorem FindEach_walk (A : Option Addr) (c : Nat) (l : List SChart) (n : Int) (w : World) (hG : GlobA w.heap.size w) (HA : Rd kChart w A l) (hl : Aside0 (ACharts l)) (hn64 : (Lit.int .i64 n).wf = true) :
    Calls Tryd.prog 8 #[.slice A l.length c, .int .i64 n] w fun e w' => e = .returned (.bool true) ∧ Bel w w' := by
  have hal := Aside0.mk (alive23_any w hG)
  go_enter Tryd.func8, Tryd.ntmps8
  go_upto_region 3 with (go_at_call 22; ((with_reducible refine hal.out.mono ?_); rintro e w1 ⟨rfl, hB1⟩))
  have hg0 := Aside0.mk (Great_any A c l w1 (HA.step hB1) hl)
  clear hal
  go_cut [42] (fun t W => ∃ b, t = .bool b ∧ Aside0 (b = false → RightP l ∧ Near l ∧ FewC l) ∧ Bel w W)
  case first =>
    by_cases hr : RightP l
    · have hfl := few_of hr
      have hri := Aside0.mk (fun W (q : Bel w W) => (rRight_any A c l W (HA.step q) ⟨hfl⟩).mono (fun e w' h => h.yes hr))
      by_cases h0 : l.length = 0
      · have hn : Near l := by rw [List.eq_nil_of_length_eq_zero h0]; exact near_nil
        have b1 : decide (0 < l.length) = false := by simp [h0]
        have b2 : decide ((0 : Int) < (l.length : Int)) = false := by simp [h0]
        have hy : Aside0 (RightP l ∧ Near l ∧ FewC l) := ⟨hr, hn, hfl⟩
        clear hr hn
        replace h0 := Aside0.mk h0
        go_wp2_with (first | (go_at_call 16; ((with_reducible refine hg0.out.mono ?_); rintro e w2 ⟨g0, rfl, hf0, hB2⟩; cases g0)) | (go_at_call 23; ((with_reducible refine (hri.out _ (hB1.trans hB2)).mono ?_); rintro e w3 ⟨rfl, hB3⟩; have u0 := hcl.out w3 (hB1.trans (hB2.trans hB3)))) | (go_at_call 23; ((with_reducible refine (hri.out _ (hB1.trans hB2)).mono ?_); rintro e w3 ⟨rfl, hB3⟩)))
        all_goals
          go_meet
          case rel => first | exact ⟨_, rfl, ⟨fun q => by exact hy.out⟩, hB1.trans (hB2.trans hB3)⟩ | exact ⟨_, rfl, ⟨fun q => by cases q⟩, hB1.trans hB2⟩
      · obtain ⟨k, hk⟩ : ∃ k, l.length = k + 1 := ⟨l.length - 1, by omega⟩
        have hnl := near_last hr k hk
        have hfl2 := hr.few
        have hch := Aside0.mk (fun W (q : Bel w W) => chart_at (HA.step q) k (by omega))
        obtain ⟨a, ha⟩ : ∃ a, (l[k]'(by omega)).f0 = a := ⟨_, rfl⟩
        rw [ha] at hnl hch
        have hw1 : IntKind.i64.wrap ((l.length : Int) - 1) = (k : Int) := by rw [IntKind.wrap_i64]; omega
        have hk2 : k < l.length := by omega
        have b1 : decide (0 < l.length) = true := by simp; omega
        have b2 : decide ((0 : Int) < (l.length : Int)) = true := by simp; omega
        have hk3 : (k : Int) < (l.length : Int) := by omega
        have hk4 : 0 < l.length := by omega
        obtain ⟨ad, _, _, _, _, hA0, hrest⟩ := hch.out w (Bel.refl _)
        clear hrest
        subst hA0
        have hcl : Aside0 (∀ W, Bel w W → W.cell? (ad.add (k * 3)) = some (.int .i64 a)) := ⟨fun W q => by
          obtain ⟨ad2, _, _, _, _, e, u0, _⟩ := hch.out W q
          injection e with e
          subst e
          exact u0⟩
        clear h0 hch ha
        replace hk := Aside0.mk hk
        by_cases hf : a ≤ 1099511627776
        · have hy : Aside0 (RightP l ∧ Near l ∧ FewC l) := ⟨hr, hnl.2 hf, hfl⟩
          have b3 : decide ((1099511627776 : Int) < a) = false := by simpa using hf
          clear hr hnl
          go_wp2_with (first | (go_at_call 16; ((with_reducible refine hg0.out.mono ?_); rintro e w2 ⟨g0, rfl, hf0, hB2⟩; cases g0)) | (go_at_call 23; ((with_reducible refine (hri.out _ (hB1.trans hB2)).mono ?_); rintro e w3 ⟨rfl, hB3⟩; have u0 := hcl.out w3 (hB1.trans (hB2.trans hB3)))) | (go_at_call 23; ((with_reducible refine (hri.out _ (hB1.trans hB2)).mono ?_); rintro e w3 ⟨rfl, hB3⟩)))
          all_goals
            go_meet
            case rel => first | exact ⟨_, rfl, ⟨fun q => by exact hy.out⟩, hB1.trans (hB2.trans hB3)⟩ | exact ⟨_, rfl, ⟨fun q => by cases q⟩, hB1.trans hB2⟩
        · have b3 : decide ((1099511627776 : Int) < a) = true := by simp; omega
          clear hr hnl
          go_wp2_with (first | (go_at_call 16; ((with_reducible refine hg0.out.mono ?_); rintro e w2 ⟨g0, rfl, hf0, hB2⟩; cases g0)) | (go_at_call 23; ((with_reducible refine (hri.out _ (hB1.trans hB2)).mono ?_); rintro e w3 ⟨rfl, hB3⟩; have u0 := hcl.out w3 (hB1.trans (hB2.trans hB3)))) | (go_at_call 23; ((with_reducible refine (hri.out _ (hB1.trans hB2)).mono ?_); rintro e w3 ⟨rfl, hB3⟩)))
          all_goals
            go_meet
            case rel => first | exact ⟨_, rfl, ⟨fun q => by exact absurd q (by simp)⟩, hB1.trans (hB2.trans hB3)⟩ | exact ⟨_, rfl, ⟨fun q => by cases q⟩, hB1.trans hB2⟩
    · have hri := Aside0.mk (fun W (q : Bel w W) (hfl : FewC l) => (rRight_any A c l W (HA.step q) ⟨hfl⟩).mono (fun e w' h => h.no hr))
      go_wp2_with (first | (go_at_call 16; ((with_reducible refine hg0.out.mono ?_); rintro e w2 ⟨g0, rfl, hf0, hB2⟩; cases g0)) | (go_at_call 23; ((with_reducible refine (hri.out _ (hB1.trans hB2) (hf0.out (by first | rfl | trivial))).mono ?_); rintro e w3 ⟨rfl, hB3⟩)))
      all_goals
        go_meet
        case rel => first | exact ⟨_, rfl, ⟨fun q => by cases q⟩, hB1.trans (hB2.trans hB3)⟩ | exact ⟨_, rfl, ⟨fun q => by cases q⟩, hB1.trans hB2⟩
  case rest =>
    obtain ⟨b, rfl, hb, hBc⟩ := hcut
    cases b with
    | true =>
      go_wp2
      go_ret
      exact ⟨rfl, hBc⟩
    | false =>
      obtain ⟨hr, hnr, hfl⟩ := hb.out rfl
      clear hb hg0
      have hlen := encC_len hr
      have hby : Bytes (encC l) := ⟨encC_by hr (mx_of hl.out)⟩
      have he1 := Aside0.mk (rEncode_yes A c l wc (HA.step hBc) ⟨hr⟩ ⟨mx_of hl.out⟩)
      go_upto_region 6 with (go_at_call 20; ((with_reducible refine he1.out.mono ?_); rintro e w3 ⟨v3, rfl, hv3, hB3⟩; obtain ⟨A3, c3, rfl, hc3, hR3⟩ := hv3.reads))
      have hBw3 := hBc.trans hB3
      have hde := dec_enc hr hnr
      have hn := Aside0.mk ((New_any A3 c3 (encC l) w3 (hG.later hBw3) hc3 hR3 hby (by omega)).mono (fun e w' h => h.t hby.out hde.1))
      rw [hde.2] at hn
      obtain ⟨x, hx⟩ : ∃ b, encC l = b := ⟨_, rfl⟩
      rw [hx] at hn ⊢
      have hfl2 := hr.few
      have hri := Aside0.mk (rise_ne hr.rise)
      replace hfl := Aside0.mk hfl
      clear hde hx hby hlen hnr hv3 hR3 hc3 he1 hr
      go_upto_region 7 with (go_at_call 24; ((with_reducible refine hn.out.mono ?_); rintro e w4 ⟨tb, rfl, ht1, ht2, hT4, hB4⟩))
      have hBw4 := hBw3.trans hB4
      have hwt : Aside0 (w.heap.size ≤ tb) := ⟨Nat.le_trans hBw3.size ht1⟩
      replace hT4 := Aside0.mk hT4
      clear hn hB3 hB4 ht1
      go_upto_region 10 with (fail)
      go_wp2
      go_loopw [9, 10] (fun t i W => ∃ (b : Bool) (k : Nat), k ≤ l.length ∧ t = .bool b ∧ i = .int .i64 k ∧ Aside0 (b = true ↔ There l n k) ∧ Aside0 (IsTb W tb l k) ∧ tb < W.heap.size ∧ Bel w W) (fun _ i _ => l.length - (intOf i).toNat)
      case atStart => exact ⟨false, 0, by omega, rfl, rfl, ⟨⟨fun q => absurd q (by decide), fun q => absurd q.choose_spec.choose_spec.1 (by omega)⟩⟩, hT4, ht2, hBw4⟩
      case round =>
        obtain ⟨b, k, hk, rfl, rfl, hth, hT, hts, hB⟩ := hrel
        by_cases hlt : k < l.length
        · have hhit := at_hit hri.out k hlt
          have hwa : (Lit.int .i64 l[k].f0).wf = true := (hl.out.2 _ (List.getElem_mem hlt)).f0
          have hc := Aside0.mk (At_t hT.out l[k].f0 (by omega) (by omega) hwa)
          rw [hhit.1, hhit.2] at hc
          have hfx := hfl.out.2 _ (List.getElem_mem hlt)
          have hsn := there_snoc (a := n) hlt
          have hch := Aside0.mk (fun W (q : Bel w W) => chart_at (HA.step q) k hlt)
          obtain ⟨x, hx⟩ : ∃ x, l[k] = x := ⟨_, rfl⟩
          rw [hx] at hc hfx hsn hch
          clear hx hwa hhit
          obtain ⟨ad, B1, d1, B2, d2, rfl, y0, _⟩ := hch.out wr hB
          obtain ⟨x0, xr, xd⟩ := x
          simp only at hc hfx hsn hch y0
          replace hth := Aside0.mk (hth.out)
          go_upto_region 14 with (go_at_call 25; ((with_reducible refine hc.out.mono ?_); rintro e w4 ⟨⟨v3, v4, rfl, hv3, hv4⟩, hT4, hK4⟩; obtain ⟨A3, c3, rfl, _, r3⟩ := hv3.reads; obtain ⟨A4, c4, rfl, _, r4⟩ := hv4.reads))
          obtain ⟨g, hto, hgl⟩ := told_of hv3 hts
          have hBa := (Bel.refl w4).alloc (.cells #[.int .i64 x0, .slice A3 xr.length c3, .slice A4 xd.length c4] 36)
          have hba := heap_alloc_new w4 (.cells #[.int .i64 x0, .slice A3 xr.length c3, .slice A4 xd.length c4] 36)
          generalize w4.alloc (.cells #[.int .i64 x0, .slice A3 xr.length c3, .slice A4 xd.length c4] 36) = wa at hBa hba ⊢
          obtain ⟨f, hfe⟩ : ∃ f, w4.heap.size = f := ⟨_, rfl⟩
          rw [hfe] at hba hgl ⊢
          have hTa := hT4.keep hBa
          have hBwa := (hK4.bel hB hwt.out).trans hBa
          have htoa := told_step hto hBa
          have htsa : Aside0 (tb < wa.heap.size) := ⟨by have := hK4.size; have := hBa.size; omega⟩
          obtain ⟨ad2, C1, n1, C2, n2, e2, u0, u1, u2, r5, r6⟩ := hch.out wa hBwa
          injection e2 with e2
          subst e2
          have hs2 := Aside0.mk (fun W (q : Bel wa W) => (rSameOne_any ⟨x0, xr, xd⟩ ⟨x0, xr, xd⟩ A3 A4 C1 C2 c3 c4 n1 n2 W ((r3.step hBa).step q) ((r4.step hBa).step q) (r5.step q) (r6.step q) hfx.1 hfx.2 hfx.1 hfx.2).mono (fun e w' h => h.yes rfl))
          simp only [chartV] at hs2
          have hBd : Bel wa wa.drew := (Bel.refl wa).drewN 1
          have hz := Aside0.mk (fun (W : World) (q : Bel wa W) => And.intro q (And.intro (Bel.cell q (blk_cell hba 0)) (And.intro (Bel.cell q (blk_cell hba 1)) (And.intro (Bel.cell q (blk_cell hba 2)) (And.intro (Bel.cell q u0) (And.intro (Bel.cell q u1) (Bel.cell q u2)))))))
          refine wp_region_held_drew (S := fun w' => Bel wa w' ∧ w'.cell? ⟨f, 0, none⟩ = some (.int .i64 x0) ∧ w'.cell? ⟨f, 1, none⟩ = some (.slice A3 xr.length c3) ∧ w'.cell? ⟨f, 2, none⟩ = some (.slice A4 xd.length c4) ∧ w'.cell? (ad.add (k * 3)) = some (.int .i64 x0) ∧ w'.cell? ⟨(ad.add (k * 3)).block, (ad.add (k * 3)).off + 1, none⟩ = some (.slice C1 xr.length n1) ∧ w'.cell? ⟨(ad.add (k * 3)).block, (ad.add (k * 3)).off + 2, none⟩ = some (.slice C2 xd.length n2)) (by kernel_rfl) (hz.out _ hBd) (fun hHeld => ?_)
          refine wpAnyH_take (i := 0) (v := ?_) rfl (by kernel_rfl) (by kernel_rfl) (by kernel_rfl) (fun _ _ _ h => h) (Or.inl ⟨by kernel_rfl, ?_⟩) hHeld ?_
          rotate_left 1
          focus (intro w hSw; (try dsimp only at hSw); go_simp; (try with_reducible rfl); done)
          try simp only [Act.put, List.getElem_toArray, List.getElem_cons_zero, List.getElem_cons_succ, List.setIfInBounds_toArray, List.set_cons_zero, List.set_cons_succ]
          refine wpAnyH_take (i := 1) (v := ?_) rfl (by kernel_rfl) (by kernel_rfl) (by kernel_rfl) (fun _ _ _ h => h) (Or.inl ⟨by kernel_rfl, ?_⟩) hHeld ?_
          rotate_left 1
          focus (intro w hSw; (try dsimp only at hSw); go_simp; (try with_reducible rfl); done)
          try simp only [Act.put, List.getElem_toArray, List.getElem_cons_zero, List.getElem_cons_succ, List.setIfInBounds_toArray, List.set_cons_zero, List.set_cons_succ]
          refine wpAnyH_take (i := 2) (v := ?_) rfl (by kernel_rfl) (by kernel_rfl) (by kernel_rfl) (fun _ _ _ h => h) (Or.inl ⟨by kernel_rfl, ?_⟩) hHeld ?_
          rotate_left 1
          focus (intro w hSw; (try dsimp only at hSw); go_simp; (try with_reducible rfl); done)
          try simp only [Act.put, List.getElem_toArray, List.getElem_cons_zero, List.getElem_cons_succ, List.setIfInBounds_toArray, List.set_cons_zero, List.set_cons_succ]
          refine wpAnyH_take (i := 3) (v := ?_) rfl (by kernel_rfl) (by kernel_rfl) (by kernel_rfl) (fun _ _ _ h => h) (Or.inl ⟨by kernel_rfl, ?_⟩) hHeld ?_
          rotate_left 1
          focus (intro w hSw; (try dsimp only at hSw); go_simp; (try with_reducible rfl); done)
          try simp only [Act.put, List.getElem_toArray, List.getElem_cons_zero, List.getElem_cons_succ, List.setIfInBounds_toArray, List.set_cons_zero, List.set_cons_succ]
          refine wpAnyH_take (i := 4) (v := ?_) rfl (by kernel_rfl) (by kernel_rfl) (by kernel_rfl) (fun _ _ _ h => h) (Or.inl ⟨by kernel_rfl, ?_⟩) hHeld ?_
          rotate_left 1
          focus (intro w hSw; (try dsimp only at hSw); go_simp; (try with_reducible rfl); done)
          try simp only [Act.put, List.getElem_toArray, List.getElem_cons_zero, List.getElem_cons_succ, List.setIfInBounds_toArray, List.set_cons_zero, List.set_cons_succ]
          refine wpAnyH_take (i := 5) (v := ?_) rfl (by kernel_rfl) (by kernel_rfl) (by kernel_rfl) (fun _ _ _ h => h) (Or.inl ⟨by kernel_rfl, ?_⟩) hHeld ?_
          rotate_left 1
          focus (intro w hSw; (try dsimp only at hSw); go_simp; (try with_reducible rfl); done)
          try simp only [Act.put, List.getElem_toArray, List.getElem_cons_zero, List.getElem_cons_succ, List.setIfInBounds_toArray, List.set_cons_zero, List.set_cons_succ]
          refine wpAnyH_take (i := 6) (v := ?_) rfl (by kernel_rfl) (by kernel_rfl) (by kernel_rfl) (fun _ _ _ h => h) (Or.inl ⟨by kernel_rfl, ?_⟩) hHeld ?_
          rotate_left 1
          focus (intro w hSw; (try dsimp only at hSw); go_simp; (try with_reducible rfl); done)
          try simp only [Act.put, List.getElem_toArray, List.getElem_cons_zero, List.getElem_cons_succ, List.setIfInBounds_toArray, List.set_cons_zero, List.set_cons_succ]
          refine wpAnyH_take (i := 7) (v := ?_) rfl (by kernel_rfl) (by kernel_rfl) (by kernel_rfl) (fun _ _ _ h => h) (Or.inl ⟨by kernel_rfl, ?_⟩) hHeld ?_
          rotate_left 1
          focus (intro w hSw; (try dsimp only at hSw); go_simp; (try with_reducible rfl); done)
          try simp only [Act.put, List.getElem_toArray, List.getElem_cons_zero, List.getElem_cons_succ, List.setIfInBounds_toArray, List.set_cons_zero, List.set_cons_succ]
          refine wpAnyH_ready (rs := [8]) (by kernel_rfl) (by simp) ?_
          refine AllReadyH.cons rfl (fun K hK => ?_) AllReadyH.nil
          go_simp
          (go_at_call 26; refine (hs2.out _ hBd).mono ?_; rintro ex w5 ⟨rfl, hB5⟩)
          refine hK.out _ _ ?_ (fun hHeld => ?_)
          rotate_left 1
          clear hK K
          try simp only [Act.put, List.getElem_toArray, List.getElem_cons_zero, List.getElem_cons_succ, List.setIfInBounds_toArray, List.set_cons_zero, List.set_cons_succ]
          rotate_left 1
          · exact hz.out _ (hBd.trans hB5)
          refine wpAnyH_take (i := 9) (v := ?_) rfl (by kernel_rfl) (by kernel_rfl) (by kernel_rfl) (fun _ _ _ h => h) (Or.inl ⟨by kernel_rfl, ?_⟩) hHeld ?_
          rotate_left 1
          focus (intro w hSw; (try dsimp only at hSw); go_simp; (try with_reducible rfl); done)
          try simp only [Act.put, List.getElem_toArray, List.getElem_cons_zero, List.getElem_cons_succ, List.setIfInBounds_toArray, List.set_cons_zero, List.set_cons_succ]
          refine wpAnyH_take (i := 10) (v := ?_) rfl (by kernel_rfl) (by kernel_rfl) (by kernel_rfl) (fun _ _ _ h => h) (Or.inl ⟨by kernel_rfl, ?_⟩) hHeld ?_
          rotate_left 1
          focus (intro w hSw; (try dsimp only at hSw); go_simp; (try with_reducible rfl); done)
          try simp only [Act.put, List.getElem_toArray, List.getElem_cons_zero, List.getElem_cons_succ, List.setIfInBounds_toArray, List.set_cons_zero, List.set_cons_succ]
          refine wpAnyH_done (by kernel_rfl) ?_ _
          have hB5' := hBd.trans hB5
          have hT5 := Aside0.mk (hTa.keep hB5')
          have hto5 := Aside0.mk (told_step htoa hB5')
          have hb5 := (hB5'.out.block f (blk_lt hba)).trans hba
          have hBw5 := hBwa.trans hB5'
          have hts5 : tb < w5.heap.size := by have := hB5'.size; have := htsa.out; omega
          clear hs2 hz hBd hB5 hB5' r3 r4 r5 r6 u0 u1 u2 hba hBa hfe hv3 hv4 hTa hBwa htoa hto hT4 hc hK4 hT hB hts htsa y0
          go_upto_region 16 with (fail)
          go_wp2
          go_loopw [13] (fun i W => ∃ j : Nat, j ≤ xr.length ∧ i = .int .i64 j ∧ Aside0 (IsTb W tb l (k + 1)) ∧ Aside0 (Told W tb A3 xr.length g) ∧ W.heap[f]? = some (.cells #[.int .i64 x0, .slice A3 xr.length c3, .slice A4 xd.length c4] 36 (0, 0)) ∧ tb < W.heap.size ∧ Bel w W) (fun i _ => xr.length - (intOf i).toNat)
          case atStart => exact ⟨0, by omega, rfl, hT5, hto5, hb5, hts5, hBw5⟩
          case round =>
            obtain ⟨j, hj, rfl, hT, hto, hb, hts, hB⟩ := hrel
            have z1 : wr.cell? ⟨f, 1, none⟩ = some (.slice A3 xr.length c3) := blk_cell hb 1
            by_cases hjl : j < xr.length
            · obtain ⟨rfl, ⟨o0, q0⟩, ⟨o1, q1⟩, q2⟩ := told_cell hto.out j hjl
              have hgf : g ≠ f := by have := hgl (by omega); omega
              have hrow := (hto.out.row (by omega)).2
              obtain ⟨cs, hcs, _⟩ := hrow
              have hi1 := Aside0.mk (isTb_put hT.out hcs hto.out.hg (j * 2) (j * 2 + 1) (.int .i64 0) (.int .i64 0))
              have hi2 := Aside0.mk (told_put hto.out (j * 2) (j * 2 + 1) (.int .i64 0) (.int .i64 0))
              have hi3 := blk_far (blk_far hb (p := ⟨g, j * 2, none⟩) (fun e => hgf e.symm) (.int .i64 0)) (p := ⟨g, j * 2 + 1, none⟩) (fun e => hgf e.symm) (.int .i64 0)
              have hi4 : Bel w ((wr.setCell ⟨g, j * 2, none⟩ (.int .i64 0)).setCell ⟨g, j * 2 + 1, none⟩ (.int .i64 0)) := ⟨(hB.out.setCell (p := ⟨g, j * 2, none⟩) (Nat.le_trans hwt.out (Nat.le_of_lt hto.out.hg)) _).setCell (p := ⟨g, j * 2 + 1, none⟩) (Nat.le_trans hwt.out (Nat.le_of_lt hto.out.hg)) _⟩
              have hi5 : tb < ((wr.setCell ⟨g, j * 2, none⟩ (.int .i64 0)).setCell ⟨g, j * 2 + 1, none⟩ (.int .i64 0)).heap.size := by simpa using hts
              replace hi3 := Aside0.mk hi3
              replace hi4 := Aside0.mk hi4
              replace hi5 := Aside0.mk hi5
              clear hcs
              go_wp2
              exact ⟨⟨j + 1, by omega, by go_num, hi1, hi2, hi3.out, hi5.out, hi4.out⟩, by simp [intOf]; omega⟩
            · have hl5 := Aside0.mk (fun W (q : Bel w W) => (hch.out W q))
              obtain ⟨ad2, _, _, _, _, e2, y0, _⟩ := hch.out wr hB
              injection e2 with e2
              subst e2
              cases b with
              | true =>
                have hn1 : Aside0 (true = true ↔ There l n (k + 1)) := ⟨⟨fun _ => hsn.2 (.inl (hth.out.1 rfl)), fun _ => rfl⟩⟩
                clear hth hsn
                go_wp2
                go_roundw
                case rel => exact ⟨true, k + 1, by omega, rfl, by go_num, hn1, hT, hts, hB⟩
                case measure => simp [intOf]; omega
              | false =>
                by_cases hx : x0 = n
                · have hn1 : Aside0 (true = true ↔ There l n (k + 1)) := ⟨⟨fun _ => hsn.2 (.inr hx), fun _ => rfl⟩⟩
                  have b7 : (x0 == n) = true := by simp [hx]
                  replace hx := Aside0.mk hx
                  clear hth hsn
                  go_wp2
                  go_roundw
                  case rel => exact ⟨true, k + 1, by omega, rfl, by go_num, hn1, hT, hts, hB⟩
                  case measure => simp [intOf]; omega
                · have hn1 : Aside0 (false = true ↔ There l n (k + 1)) := ⟨⟨fun q => (by cases q), fun q => by
                    rcases hsn.1 q with q | q
                    · exact hth.out.2 q
                    · exact absurd q hx⟩⟩
                  have b7 : (x0 == n) = false := by simp [hx]
                  replace hx := Aside0.mk hx
                  clear hth hsn
                  go_wp2
                  go_roundw
                  case rel => exact ⟨false, k + 1, by omega, rfl, by go_num, hn1, hT, hts, hB⟩
                  case measure => simp [intOf]; omega
        · have hkl : k = l.length := by omega
          subst hkl
          have hend := there_ends hri.out n b hth.out
          have hc := Aside0.mk (At_t hT.out n (by omega) (by omega) hn64)
          obtain ⟨G, hG2⟩ : ∃ G, atE l n = G := ⟨_, rfl⟩
          obtain ⟨x, hx⟩ : ∃ x, atL l n = x := ⟨_, rfl⟩
          rw [hG2] at hend hc
          rw [hx] at hc
          obtain ⟨x0, xr, xd⟩ := x
          simp only at hc
          clear hx hG2 hth
          go_upto_region 22 with (go_at_call 25; ((with_reducible refine hc.out.mono ?_); rintro e w4 ⟨⟨v3, v4, rfl, hv3, hv4⟩, hT4, hK4⟩; obtain ⟨A3, c3, rfl, _, _⟩ := hv3.reads; obtain ⟨A4, c4, rfl, _, _⟩ := hv4.reads))
          have hBa := (Bel.refl w4).alloc (.cells #[.int .i64 x0, .slice A3 xr.length c3, .slice A4 xd.length c4] 36)
          generalize w4.alloc (.cells #[.int .i64 x0, .slice A3 xr.length c3, .slice A4 xd.length c4] 36) = wa at hBa ⊢
          have hTa := Aside0.mk (hT4.keep hBa)
          have hBwa := (hK4.bel hB hwt.out).trans hBa
          clear hc hv3 hv4 hT4 hK4 hT hB hBa
          go_wp2
          go_loopw [16] (fun i W => ∃ k : Nat, k ≤ l.length ∧ i = .int .i64 k ∧ Aside0 (IsTb W tb l ((l.length : Int) + 1 + k)) ∧ Bel w W) (fun i _ => l.length - (intOf i).toNat)
          case atStart => exact ⟨0, by omega, rfl, ⟨by simpa using hTa.out⟩, hBwa⟩
          case round =>
            obtain ⟨k, hk, rfl, hT, hB⟩ := hrel
            by_cases hlt : k < l.length
            · have hhit := at_hit hri.out k hlt
              have hwa : (Lit.int .i64 l[k].f0).wf = true := (hl.out.2 _ (List.getElem_mem hlt)).f0
              have hc := Aside0.mk (At_t hT.out l[k].f0 (by omega) (by omega) hwa)
              rw [hhit.1, hhit.2] at hc
              have hfx := hfl.out.2 _ (List.getElem_mem hlt)
              have hch := Aside0.mk (fun W (q : Bel w W) => chart_at (HA.step q) k hlt)
              obtain ⟨x, hx⟩ : ∃ x, l[k] = x := ⟨_, rfl⟩
              rw [hx] at hc hfx hch
              clear hx hwa hhit
              obtain ⟨ad, B1, d1, B2, d2, rfl, y0, _⟩ := hch.out wr hB
              obtain ⟨x0, xr, xd⟩ := x
              simp only at hc hfx hch y0
              go_upto_region 26 with (go_at_call 25; ((with_reducible refine hc.out.mono ?_); rintro e w4 ⟨⟨v3, v4, rfl, hv3, hv4⟩, hT4, hK4⟩; obtain ⟨A3, c3, rfl, _, r3⟩ := hv3.reads; obtain ⟨A4, c4, rfl, _, r4⟩ := hv4.reads))
              have hBa := (Bel.refl w4).alloc (.cells #[.int .i64 x0, .slice A3 xr.length c3, .slice A4 xd.length c4] 36)
              have hba := heap_alloc_new w4 (.cells #[.int .i64 x0, .slice A3 xr.length c3, .slice A4 xd.length c4] 36)
              generalize w4.alloc (.cells #[.int .i64 x0, .slice A3 xr.length c3, .slice A4 xd.length c4] 36) = wa at hBa hba ⊢
              obtain ⟨f, hfe⟩ : ∃ f, w4.heap.size = f := ⟨_, rfl⟩
              rw [hfe] at hba ⊢
              have hTa := hT4.keep hBa
              have hBwa := (hK4.bel hB hwt.out).trans hBa
              obtain ⟨ad2, C1, n1, C2, n2, e2, u0, u1, u2, r5, r6⟩ := hch.out wa hBwa
              injection e2 with e2
              subst e2
              have hs2 := Aside0.mk (fun W (q : Bel wa W) => (rSameOne_any ⟨x0, xr, xd⟩ ⟨x0, xr, xd⟩ A3 A4 C1 C2 c3 c4 n1 n2 W ((r3.step hBa).step q) ((r4.step hBa).step q) (r5.step q) (r6.step q) hfx.1 hfx.2 hfx.1 hfx.2).mono (fun e w' h => h.yes rfl))
              simp only [chartV] at hs2
              have hBd : Bel wa wa.drew := (Bel.refl wa).drewN 1
              have hz := Aside0.mk (fun (W : World) (q : Bel wa W) => And.intro q (And.intro (Bel.cell q (blk_cell hba 0)) (And.intro (Bel.cell q (blk_cell hba 1)) (And.intro (Bel.cell q (blk_cell hba 2)) (And.intro (Bel.cell q u0) (And.intro (Bel.cell q u1) (Bel.cell q u2)))))))
              refine wp_region_held_drew (S := fun w' => Bel wa w' ∧ w'.cell? ⟨f, 0, none⟩ = some (.int .i64 x0) ∧ w'.cell? ⟨f, 1, none⟩ = some (.slice A3 xr.length c3) ∧ w'.cell? ⟨f, 2, none⟩ = some (.slice A4 xd.length c4) ∧ w'.cell? (ad.add (k * 3)) = some (.int .i64 x0) ∧ w'.cell? ⟨(ad.add (k * 3)).block, (ad.add (k * 3)).off + 1, none⟩ = some (.slice C1 xr.length n1) ∧ w'.cell? ⟨(ad.add (k * 3)).block, (ad.add (k * 3)).off + 2, none⟩ = some (.slice C2 xd.length n2)) (by kernel_rfl) (hz.out _ hBd) (fun hHeld => ?_)
              refine wpAnyH_take (i := 0) (v := ?_) rfl (by kernel_rfl) (by kernel_rfl) (by kernel_rfl) (fun _ _ _ h => h) (Or.inl ⟨by kernel_rfl, ?_⟩) hHeld ?_
              rotate_left 1
              focus (intro w hSw; (try dsimp only at hSw); go_simp; (try with_reducible rfl); done)
              try simp only [Act.put, List.getElem_toArray, List.getElem_cons_zero, List.getElem_cons_succ, List.setIfInBounds_toArray, List.set_cons_zero, List.set_cons_succ]
              refine wpAnyH_take (i := 1) (v := ?_) rfl (by kernel_rfl) (by kernel_rfl) (by kernel_rfl) (fun _ _ _ h => h) (Or.inl ⟨by kernel_rfl, ?_⟩) hHeld ?_
              rotate_left 1
              focus (intro w hSw; (try dsimp only at hSw); go_simp; (try with_reducible rfl); done)
              try simp only [Act.put, List.getElem_toArray, List.getElem_cons_zero, List.getElem_cons_succ, List.setIfInBounds_toArray, List.set_cons_zero, List.set_cons_succ]
              refine wpAnyH_take (i := 2) (v := ?_) rfl (by kernel_rfl) (by kernel_rfl) (by kernel_rfl) (fun _ _ _ h => h) (Or.inl ⟨by kernel_rfl, ?_⟩) hHeld ?_
              rotate_left 1
              focus (intro w hSw; (try dsimp only at hSw); go_simp; (try with_reducible rfl); done)
              try simp only [Act.put, List.getElem_toArray, List.getElem_cons_zero, List.getElem_cons_succ, List.setIfInBounds_toArray, List.set_cons_zero, List.set_cons_succ]
              refine wpAnyH_take (i := 3) (v := ?_) rfl (by kernel_rfl) (by kernel_rfl) (by kernel_rfl) (fun _ _ _ h => h) (Or.inl ⟨by kernel_rfl, ?_⟩) hHeld ?_
              rotate_left 1
              focus (intro w hSw; (try dsimp only at hSw); go_simp; (try with_reducible rfl); done)
              try simp only [Act.put, List.getElem_toArray, List.getElem_cons_zero, List.getElem_cons_succ, List.setIfInBounds_toArray, List.set_cons_zero, List.set_cons_succ]
              refine wpAnyH_take (i := 4) (v := ?_) rfl (by kernel_rfl) (by kernel_rfl) (by kernel_rfl) (fun _ _ _ h => h) (Or.inl ⟨by kernel_rfl, ?_⟩) hHeld ?_
              rotate_left 1
              focus (intro w hSw; (try dsimp only at hSw); go_simp; (try with_reducible rfl); done)
              try simp only [Act.put, List.getElem_toArray, List.getElem_cons_zero, List.getElem_cons_succ, List.setIfInBounds_toArray, List.set_cons_zero, List.set_cons_succ]
              refine wpAnyH_take (i := 5) (v := ?_) rfl (by kernel_rfl) (by kernel_rfl) (by kernel_rfl) (fun _ _ _ h => h) (Or.inl ⟨by kernel_rfl, ?_⟩) hHeld ?_
              rotate_left 1
              focus (intro w hSw; (try dsimp only at hSw); go_simp; (try with_reducible rfl); done)
              try simp only [Act.put, List.getElem_toArray, List.getElem_cons_zero, List.getElem_cons_succ, List.setIfInBounds_toArray, List.set_cons_zero, List.set_cons_succ]
              refine wpAnyH_take (i := 6) (v := ?_) rfl (by kernel_rfl) (by kernel_rfl) (by kernel_rfl) (fun _ _ _ h => h) (Or.inl ⟨by kernel_rfl, ?_⟩) hHeld ?_
              rotate_left 1
              focus (intro w hSw; (try dsimp only at hSw); go_simp; (try with_reducible rfl); done)
              try simp only [Act.put, List.getElem_toArray, List.getElem_cons_zero, List.getElem_cons_succ, List.setIfInBounds_toArray, List.set_cons_zero, List.set_cons_succ]
              refine wpAnyH_take (i := 7) (v := ?_) rfl (by kernel_rfl) (by kernel_rfl) (by kernel_rfl) (fun _ _ _ h => h) (Or.inl ⟨by kernel_rfl, ?_⟩) hHeld ?_
              rotate_left 1
              focus (intro w hSw; (try dsimp only at hSw); go_simp; (try with_reducible rfl); done)
              try simp only [Act.put, List.getElem_toArray, List.getElem_cons_zero, List.getElem_cons_succ, List.setIfInBounds_toArray, List.set_cons_zero, List.set_cons_succ]
              refine wpAnyH_ready (rs := [8]) (by kernel_rfl) (by simp) ?_
              refine AllReadyH.cons rfl (fun K hK => ?_) AllReadyH.nil
              go_simp
              (go_at_call 26; refine (hs2.out _ hBd).mono ?_; rintro ex w5 ⟨rfl, hB5⟩)
              refine hK.out _ _ ?_ (fun hHeld => ?_)
              rotate_left 1
              clear hK K
              try simp only [Act.put, List.getElem_toArray, List.getElem_cons_zero, List.getElem_cons_succ, List.setIfInBounds_toArray, List.set_cons_zero, List.set_cons_succ]
              rotate_left 1
              · exact hz.out _ (hBd.trans hB5)
              refine wpAnyH_take (i := 9) (v := ?_) rfl (by kernel_rfl) (by kernel_rfl) (by kernel_rfl) (fun _ _ _ h => h) (Or.inl ⟨by kernel_rfl, ?_⟩) hHeld ?_
              rotate_left 1
              focus (intro w hSw; (try dsimp only at hSw); go_simp; (try with_reducible rfl); done)
              try simp only [Act.put, List.getElem_toArray, List.getElem_cons_zero, List.getElem_cons_succ, List.setIfInBounds_toArray, List.set_cons_zero, List.set_cons_succ]
              refine wpAnyH_take (i := 10) (v := ?_) rfl (by kernel_rfl) (by kernel_rfl) (by kernel_rfl) (fun _ _ _ h => h) (Or.inl ⟨by kernel_rfl, ?_⟩) hHeld ?_
              rotate_left 1
              focus (intro w hSw; (try dsimp only at hSw); go_simp; (try with_reducible rfl); done)
              try simp only [Act.put, List.getElem_toArray, List.getElem_cons_zero, List.getElem_cons_succ, List.setIfInBounds_toArray, List.set_cons_zero, List.set_cons_succ]
              refine wpAnyH_done (by kernel_rfl) ?_ _
              have hB5' := hBd.trans hB5
              have hT5 := Aside0.mk (hTa.keep hB5')
              have hBw5 := hBwa.trans hB5'
              clear hs2 hz hBd hB5 hB5' r3 r4 r5 r6 u0 u1 u2 hba hBa hfe hv3 hv4 hTa hBwa hT4 hc hK4 hT hB y0
              go_wp2
              go_roundw
              case rel => exact ⟨k + 1, by omega, by go_num, ⟨by have := hT5.out; rw [show (l.length : Int) + 1 + ((k + 1 : Nat) : Int) = (l.length : Int) + 1 + (k : Int) + 1 by omega]; exact this⟩, hBw5⟩
              case measure => simp [intOf]; omega
            · go_wp2
              go_ret
              exact ⟨rfl, hB⟩
theorem FindEach_row (A0 : Option Addr) (c0 : Nat) (l0 : List SChart) (n : Int) (w : World) (hG : GlobA w.heap.size w) (H0 : Rd kChart w A0 l0) (_ : l0.length ≤ c0) (o0 : ACharts l0) (n0 : -9223372036854775808 ≤ n) (n1 : n ≤ 9223372036854775807) :
    Calls Tryd.prog 8 #[.slice A0 l0.length c0, .int .i64 n] w fun e w' => e = .returned (.bool true) ∧ Bel w w' := FindEach_walk A0 c0 l0 n w hG H0 ⟨o0⟩ (WalkArith.wf_i64 ⟨n0, n1⟩)
end Go.Proofs.YtceibabhmomfiaaDoor.H
