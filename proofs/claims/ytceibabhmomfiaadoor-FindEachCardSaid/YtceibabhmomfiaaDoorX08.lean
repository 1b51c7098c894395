/- Texts of this work, joined: Px6. Conditions: each stands with its theorem. -/
import Derived.Test.YtceibabhmomfiaaDoorX07
import Derived.Test.YtceibabhmomfiaaDoorX04
/- Layer 3, the reference: the same places, charts. -/
namespace Go.Proofs.YtceibabhmomfiaaDoor.H
open Go.RowKit Go.Proofs.YtceibabhmomfiaaDoorW.PrintWords Go.Proofs.YtceibabhmomfiaaDoorW.PrintLast
set_option linter.unusedVariables false
set_option linter.unusedSimpArgs false
set_option maxRecDepth 100000

/-- it tells whether P holds -/
def SameP (P : Prop) (w : World) (e : Ending) (w' : World) : Prop := ∃ b : Bool, e = .returned (.bool b) ∧ Aside0 (b = true ↔ P) ∧ Bel w w'
theorem SameP.yes {P : Prop} {w w' : World} {e : Ending} (h : SameP P w e w') (hp : P) : e = .returned (.bool true) ∧ Bel w w' := by
  obtain ⟨b, rfl, hb, hB⟩ := h
  rw [hb.out.2 hp]
  exact ⟨rfl, hB⟩
theorem SameP.no {P : Prop} {w w' : World} {e : Ending} (h : SameP P w e w') (hp : ¬ P) : e = .returned (.bool false) ∧ Bel w w' := by
  obtain ⟨b, rfl, hb, hB⟩ := h
  have : b = false := by
    cases b with
    | false => rfl
    | true => exact absurd (hb.out.1 rfl) hp
  rw [this]
  exact ⟨rfl, hB⟩
theorem SameP.mk1 {P : Prop} {w w' : World} (hp : P) (hB : Bel w w') : SameP P w (.returned (.bool true)) w' := ⟨true, rfl, ⟨⟨fun _ => hp, fun _ => rfl⟩⟩, hB⟩
theorem SameP.mk0 {P : Prop} {w w' : World} (hp : ¬ P) (hB : Bel w w') : SameP P w (.returned (.bool false)) w' := ⟨false, rfl, ⟨⟨fun h => (by cases h), fun h => absurd h hp⟩⟩, hB⟩
theorem SameP.mkd {P : Prop} [Decidable P] {w w' : World} (hB : Bel w w') : SameP P w (.returned (.bool (decide P))) w' := ⟨_, rfl, ⟨decide_eq_true_iff⟩, hB⟩
theorem SameP.imp {P Q : Prop} {w w' : World} {e : Ending} (h : SameP P w e w') (k : P ↔ Q) : SameP Q w e w' := by
  obtain ⟨b, rfl, hb, hB⟩ := h
  exact ⟨b, rfl, ⟨hb.out.trans k⟩, hB⟩
theorem SameP.after {P : Prop} {w w1 w' : World} {e : Ending} (k : Bel w w1) (h : SameP P w1 e w') : SameP P w e w' := by
  obtain ⟨b, rfl, hb, hB⟩ := h
  exact ⟨b, rfl, hb, k.trans hB⟩
theorem lists_eq {α : Type} {l m : List α} (hl : l.length = m.length) (h : ∀ j (hj : j < l.length) (hj1 : j < m.length), j < l.length → l[j] = m[j]) : l = m := List.ext_getElem hl fun i h1 h2 => h i h1 h2 h1
theorem lists_snoc {α : Type} {l m : List α} {k : Nat} (hk : k < l.length) (hk1 : k < m.length) (h : ∀ j (hj : j < l.length) (hj1 : j < m.length), j < k → l[j] = m[j]) (he : l[k] = m[k]) : ∀ j (hj : j < l.length) (hj1 : j < m.length), j < k + 1 → l[j] = m[j] := fun j hj hj1 hjk => by
  rcases Nat.lt_or_ge j k with h2 | h2
  · exact h j hj hj1 h2
  · obtain rfl : j = k := by omega
    exact he
theorem eqPair (d : Nat) (w : World) (x0 y0 : Int) (x1 y1 : Int) (x2 y2 : Int) (x3 y3 : Int) :
    (Op.equalIn (d + 3) 73 (.agg #[.int .i64 x0, .int .i64 x1, .int .i64 x2, .int .i64 x3]) (.agg #[.int .i64 y0, .int .i64 y1, .int .i64 y2, .int .i64 y3])).run Tryd.prog w = .ok ((x0 == y0 && (x1 == y1)) && (x2 == y2 && (x3 == y3))) w := by
  refine eqA_of Tryd.underlying73 (by kernel_rfl) ?_
  refine eqf_cons (by rfl) (by go_simp) (by go_simp) (eqLoc (d + 0) w _ _ _ _) ?_
  exact eqf_last (by rfl) (by go_simp) (by go_simp) (eqLoc (d + 0) w _ _ _ _)
theorem eq_pair (x y : SPair) : ((x.f0.f0 == y.f0.f0 && (x.f0.f1 == y.f0.f1)) && (x.f1.f0 == y.f1.f0 && (x.f1.f1 == y.f1.f1))) = decide (x = y) := by
  rw [eq_loc, eq_loc]
  obtain ⟨a, b⟩ := x
  obtain ⟨c, d⟩ := y
  simp only [SPair.mk.injEq]
  by_cases h1 : a = c <;> by_cases h2 : b = d <;> simp [h1, h2]
theorem chart_at {W : World} {A : Option Addr} {l : List SChart} (h : Rd kChart W A l) (k : Nat) (hk : k < l.length) : ∃ ad A1 c1 A2 c2, A = some ad ∧ W.cell? (ad.add (k * 3)) = some (.int .i64 (l[k]).f0) ∧ W.cell? ⟨(ad.add (k * 3)).block, (ad.add (k * 3)).off + 1, none⟩ = some (.slice A1 (l[k]).f1.length c1) ∧ W.cell? ⟨(ad.add (k * 3)).block, (ad.add (k * 3)).off + 2, none⟩ = some (.slice A2 (l[k]).f2.length c2) ∧ Rd kLoc W A1 (l[k]).f1 ∧ Rd kPair W A2 (l[k]).f2 := by
  obtain ⟨ad, A1, c1, A2, c2, e, h0, h1, h2, _, h3, _, h4⟩ := at_TChart h.out (k : Int) (by omega) (by omega)
  have e1 : rd_TChart l (k : Int) = l[k] := by simp [rd_TChart, List.getD_eq_getElem?_getD, List.getElem?_eq_getElem hk]
  rw [e1] at h0 h1 h2 h3 h4
  simp only [Int.toNat_natCast] at h0 h1 h2
  exact ⟨ad, A1, c1, A2, c2, e, h0, h1, h2, ⟨h3⟩, ⟨h4⟩⟩
attribute [local go_sem high] eqLoc eqPair
set_option maxHeartbeats 1000000 in
theorem rSameLocs_any (A B : Option Addr) (c d : Nat) (l m : List SLoc) (w : World) (HA : Rd kLoc w A l) (HB : Rd kLoc w B m) (hl : l.length ≤ 1000000000) (hm : m.length ≤ 1000000000) :
    Calls Tryd.prog 57 #[.slice A l.length c, .slice B m.length d] w (SameP (l = m) w) := by
  have hu := Tryd.underlying50
  by_cases hlm : l.length = m.length
  · have b0 : ((l.length : Int) != (m.length : Int)) = false := by simp [hlm]
    have b1 : (l.length == m.length) = true := by simp [hlm]
    have hlm' := Aside0.mk hlm
    clear hlm
    go_enter Tryd.func57, Tryd.ntmps57
    go_wp2
    go_loopw [5] (fun i W => ∃ k : Nat, k ≤ l.length ∧ i = .int .i64 k ∧ Bel w W ∧ Aside0 (∀ j (hj : j < l.length) (hj1 : j < m.length), j < k → l[j] = m[j])) (fun i _ => l.length - (intOf i).toNat)
    case atStart => exact ⟨0, by omega, rfl, Bel.refl _, ⟨fun j _ _ h => absurd h (by omega)⟩⟩
    case round =>
      obtain ⟨k, hk, rfl, hBr, hno⟩ := hrel
      by_cases hlt : k < l.length
      · have hlt1 : k < m.length := by have := hlm'.out; omega
        obtain ⟨ad, rfl, c0, c1⟩ := loc_at (HA.step hBr) k hlt
        obtain ⟨ad1, rfl, d0, d1⟩ := loc_at (HB.step hBr) k hlt1
        obtain ⟨x, hx⟩ : ∃ x, l[k] = x := ⟨_, rfl⟩
        obtain ⟨y, hy⟩ : ∃ y, m[k] = y := ⟨_, rfl⟩
        rw [hx] at c0 c1
        rw [hy] at d0 d1
        by_cases hxy : x = y
        · have hq : (x.f0 == y.f0 && (x.f1 == y.f1)) = true := by rw [eq_loc]; exact decide_eq_true hxy
          have hst := Aside0.mk (lists_snoc hlt hlt1 hno.out (by rw [hx, hy]; exact hxy))
          replace hxy := Aside0.mk hxy
          replace hx := Aside0.mk hx
          replace hy := Aside0.mk hy
          go_upto_region 6 with (fail)
          go_region_law (fail)
          all_goals
            go_wp2
            go_roundw
            case rel => exact ⟨k + 1, by omega, by go_num, hBr.drewN 1, hst⟩
            case measure => simp [intOf]; omega
        · have hq : (x.f0 == y.f0 && (x.f1 == y.f1)) = false := by rw [eq_loc]; exact decide_eq_false hxy
          have hne : Aside0 (¬ l = m) := ⟨fun e => hxy (by rw [← hx, ← hy]; simp only [e])⟩
          replace hxy := Aside0.mk hxy
          replace hx := Aside0.mk hx
          replace hy := Aside0.mk hy
          go_upto_region 6 with (fail)
          go_region_law (fail)
          all_goals
            go_wp2
            go_ret
            exact SameP.mk0 hne.out (hBr.drewN 1)
      · have he : Aside0 (l = m) := ⟨lists_eq hlm'.out (fun j hj hj1 _ => hno.out j hj hj1 (by omega))⟩
        go_wp2
        go_ret
        exact SameP.mk1 he.out hBr
  · have b0 : ((l.length : Int) != (m.length : Int)) = true := by simp; omega
    have b1 : (l.length == m.length) = false := by simpa using hlm
    have hne : Aside0 (¬ l = m) := ⟨fun e => hlm (by rw [e])⟩
    replace hlm := Aside0.mk hlm
    go_enter Tryd.func57, Tryd.ntmps57
    go_wp2
    go_ret
    exact SameP.mk0 hne.out (Bel.refl _)
abbrev chartV (x : SChart) (A1 : Option Addr) (c1 : Nat) (A2 : Option Addr) (c2 : Nat) : Value := .agg #[.int .i64 x.f0, .slice A1 x.f1.length c1, .slice A2 x.f2.length c2]
set_option maxHeartbeats 2000000 in
theorem rSameOne_any (x y : SChart) (A1 A2 B1 B2 : Option Addr) (c1 c2 d1 d2 : Nat) (w : World) (HA1 : Rd kLoc w A1 x.f1) (HA2 : Rd kPair w A2 x.f2) (HB1 : Rd kLoc w B1 y.f1) (HB2 : Rd kPair w B2 y.f2) (h1 : x.f1.length ≤ 1000000000) (h2 : x.f2.length ≤ 1000000000) (h3 : y.f1.length ≤ 1000000000) (h4 : y.f2.length ≤ 1000000000) :
    Calls Tryd.prog 26 #[chartV x A1 c1 A2 c2, chartV y B1 d1 B2 d2] w (SameP (x = y) w) := by
  have hu := Tryd.underlying73
  obtain ⟨x0, xr, xd⟩ := x
  obtain ⟨y0, yr, yd⟩ := y
  simp only [chartV] at HA1 HA2 HB1 HB2 h1 h2 h3 h4 ⊢
  have hB0 := ((Bel.refl w).alloc (.cells #[.int .i64 x0, .slice A1 xr.length c1, .slice A2 xd.length c2] 36)).alloc (.cells #[.int .i64 y0, .slice B1 yr.length d1, .slice B2 yd.length d2] 36)
  have hb0 : ((w.alloc (.cells #[.int .i64 x0, .slice A1 xr.length c1, .slice A2 xd.length c2] 36)).alloc (.cells #[.int .i64 y0, .slice B1 yr.length d1, .slice B2 yd.length d2] 36)).heap[w.heap.size]? = some (.cells #[.int .i64 x0, .slice A1 xr.length c1, .slice A2 xd.length c2] 36 (0, 0)) := heap_old (heap_new' rfl)
  have hb1 : ((w.alloc (.cells #[.int .i64 x0, .slice A1 xr.length c1, .slice A2 xd.length c2] 36)).alloc (.cells #[.int .i64 y0, .slice B1 yr.length d1, .slice B2 yd.length d2] 36)).heap[w.heap.size + 1]? = some (.cells #[.int .i64 y0, .slice B1 yr.length d1, .slice B2 yd.length d2] 36 (0, 0)) := heap_new' (by simp)
  go_enter Tryd.func26, Tryd.ntmps26
  go_upto_region 1 with (fail)
  generalize (w.alloc (.cells #[.int .i64 x0, .slice A1 xr.length c1, .slice A2 xd.length c2] 36)).alloc (.cells #[.int .i64 y0, .slice B1 yr.length d1, .slice B2 yd.length d2] 36) = wa at hB0 hb0 hb1 ⊢
  obtain ⟨b0, hq0⟩ : ∃ b, w.heap.size = b := ⟨_, rfl⟩
  obtain ⟨b1, hq1⟩ : ∃ b, w.heap.size + 1 = b := ⟨_, rfl⟩
  rw [hq0] at hb0
  rw [hq1] at hb1
  rw [hq0] at hq1 ⊢
  rw [hq1]
  replace hq0 := Aside0.mk hq0
  replace hq1 := Aside0.mk hq1
  have p0 := blk_cell hb0 0
  have p1 := blk_cell hb0 1
  have p2 := blk_cell hb0 2
  have r0 := blk_cell hb1 0
  have r1 := blk_cell hb1 1
  have r2 := blk_cell hb1 2
  have hz := Aside0.mk (fun (W : World) (k : Bel wa W) => show W.cell? ⟨b0, 2, none⟩ = some (.slice A2 xd.length c2) ∧ W.cell? ⟨b1, 2, none⟩ = some (.slice B2 yd.length d2) from ⟨Bel.cell k p2, Bel.cell k r2⟩)
  replace hb0 := Aside0.mk hb0
  replace hb1 := Aside0.mk hb1
  have hs := Aside0.mk (rSameLocs_any A1 B1 c1 d1 xr yr wa (HA1.step hB0) (HB1.step hB0) h1 h3)
  by_cases e0 : x0 = y0
  · have q0 : (x0 != y0) = false := by simp [e0]
    by_cases e1 : xr = yr
    · by_cases e2 : xd.length = yd.length
      · have q2 : (xd.length != yd.length) = false := by simp [e2]
        have q3 : ((xd.length : Int) != (yd.length : Int)) = false := by simp [e2]
        have q4 : (xd.length == yd.length) = true := by simp [e2]
        have hsy := Aside0.mk (hs.out.mono (fun e w' h => h.yes e1))
        have hall : Aside0 ((SChart.mk x0 xr xd = SChart.mk y0 yr yd) ↔ xd = yd) := ⟨by simp [e0, e1]⟩
        clear hs
        replace e0 := Aside0.mk e0
        replace e1 := Aside0.mk e1
        replace e2 := Aside0.mk e2
        go_wp2_with (go_at_call 57; ((with_reducible refine hsy.out.mono ?_); rintro ex w2 ⟨rfl, hB2⟩; obtain ⟨z0, z1⟩ := hz.out w2 hB2))
        go_loopw [5] (fun i W => ∃ k : Nat, k ≤ xd.length ∧ i = .int .i64 k ∧ Bel wa W ∧ Aside0 (∀ j (hj : j < xd.length) (hj1 : j < yd.length), j < k → xd[j] = yd[j])) (fun i _ => xd.length - (intOf i).toNat)
        case atStart => exact ⟨0, by omega, rfl, hB2, ⟨fun j _ _ h => absurd h (by omega)⟩⟩
        case round =>
          clear p0 p1 p2 r0 r1 r2 z0 z1 hB2 hsy
          obtain ⟨k, hk, rfl, hBr, hno⟩ := hrel
          have hBr0 := hB0.trans hBr
          obtain ⟨z0, z1⟩ := hz.out wr hBr
          by_cases hlt : k < xd.length
          · have hlt1 : k < yd.length := by have := e2.out; omega
            obtain ⟨ad, rfl, u0, u1, u2, u3⟩ := pair_at (HA2.step hBr0) k hlt
            obtain ⟨ad1, rfl, v0, v1, v2, v3⟩ := pair_at (HB2.step hBr0) k hlt1
            obtain ⟨p, hp⟩ : ∃ x, xd[k] = x := ⟨_, rfl⟩
            obtain ⟨q, hq⟩ : ∃ y, yd[k] = y := ⟨_, rfl⟩
            rw [hp] at u0 u1 u2 u3
            rw [hq] at v0 v1 v2 v3
            by_cases hxy : p = q
            · have hqq : ((p.f0.f0 == q.f0.f0 && (p.f0.f1 == q.f0.f1)) && (p.f1.f0 == q.f1.f0 && (p.f1.f1 == q.f1.f1))) = true := by rw [eq_pair]; exact decide_eq_true hxy
              have hst := Aside0.mk (lists_snoc hlt hlt1 hno.out (by rw [hp, hq]; exact hxy))
              replace hxy := Aside0.mk hxy
              replace hp := Aside0.mk hp
              replace hq := Aside0.mk hq
              go_upto_region 6 with (fail)
              go_region_law (fail)
              all_goals
                go_wp2
                go_roundw
                case rel => exact ⟨k + 1, by omega, by go_num, hBr.drewN 1, hst⟩
                case measure => simp [intOf]; omega
            · have hqq : ((p.f0.f0 == q.f0.f0 && (p.f0.f1 == q.f0.f1)) && (p.f1.f0 == q.f1.f0 && (p.f1.f1 == q.f1.f1))) = false := by rw [eq_pair]; exact decide_eq_false hxy
              have hne : Aside0 (¬ xd = yd) := ⟨fun e => hxy (by rw [← hp, ← hq]; simp only [e])⟩
              replace hxy := Aside0.mk hxy
              replace hp := Aside0.mk hp
              replace hq := Aside0.mk hq
              go_upto_region 6 with (fail)
              go_region_law (fail)
              all_goals
                go_wp2
                go_ret
                exact SameP.mk0 (fun h => hne.out (hall.out.1 h)) (hBr0.drewN 1)
          · have he : Aside0 (xd = yd) := ⟨lists_eq e2.out (fun j hj hj1 _ => hno.out j hj hj1 (by omega))⟩
            go_wp2
            go_ret
            exact SameP.mk1 (hall.out.2 he.out) hBr0
      · have q2 : (xd.length != yd.length) = true := by simpa using e2
        have q3 : ((xd.length : Int) != (yd.length : Int)) = true := by simp; omega
        have q4 : (xd.length == yd.length) = false := by simpa using e2
        have hsy := Aside0.mk (hs.out.mono (fun e w' h => h.yes e1))
        have hne : Aside0 (¬ SChart.mk x0 xr xd = SChart.mk y0 yr yd) := ⟨fun h => by injection h with _ _ h; exact e2 (by rw [h])⟩
        clear hs
        replace e0 := Aside0.mk e0
        replace e1 := Aside0.mk e1
        replace e2 := Aside0.mk e2
        go_wp2_with (go_at_call 57; ((with_reducible refine hsy.out.mono ?_); rintro ex w2 ⟨rfl, hB2⟩; obtain ⟨z0, z1⟩ := hz.out w2 hB2))
        go_ret
        exact SameP.mk0 hne.out (hB0.trans hB2)
    · have hsy := Aside0.mk (hs.out.mono (fun e w' h => h.no e1))
      have hne : Aside0 (¬ SChart.mk x0 xr xd = SChart.mk y0 yr yd) := ⟨fun h => by injection h with _ h _; exact e1 h⟩
      clear hs
      replace e0 := Aside0.mk e0
      replace e1 := Aside0.mk e1
      go_wp2_with (go_at_call 57; ((with_reducible refine hsy.out.mono ?_); rintro ex w2 ⟨rfl, hB2⟩))
      go_ret
      exact SameP.mk0 hne.out (hB0.trans hB2)
  · have q0 : (x0 != y0) = true := by simpa using e0
    have hne : Aside0 (¬ SChart.mk x0 xr xd = SChart.mk y0 yr yd) := ⟨fun h => by injection h with h _ _; exact e0 h⟩
    clear hs
    replace e0 := Aside0.mk e0
    go_wp2
    go_ret
    exact SameP.mk0 hne.out hB0
def FewC (l : List SChart) : Prop := l.length ≤ 1000000000 ∧ ∀ c ∈ l, c.f1.length ≤ 1000000000 ∧ c.f2.length ≤ 1000000000
set_option maxHeartbeats 2000000 in
theorem rSame_any (A B : Option Addr) (c d : Nat) (l m : List SChart) (w : World) (HA : Rd kChart w A l) (HB : Rd kChart w B m) (hl : Aside0 (FewC l)) (hm : Aside0 (FewC m)) :
    Calls Tryd.prog 15 #[.slice A l.length c, .slice B m.length d] w (SameP (l = m) w) := by
  have hl0 := hl.out.1
  by_cases hlm : l.length = m.length
  · have b0 : ((l.length : Int) != (m.length : Int)) = false := by simp [hlm]
    have b1 : (l.length == m.length) = true := by simp [hlm]
    have hlm' := Aside0.mk hlm
    clear hlm
    go_enter Tryd.func15, Tryd.ntmps15
    go_wp2
    go_loopw [5] (fun i W => ∃ k : Nat, k ≤ l.length ∧ i = .int .i64 k ∧ Bel w W ∧ Aside0 (∀ j (hj : j < l.length) (hj1 : j < m.length), j < k → l[j] = m[j])) (fun i _ => l.length - (intOf i).toNat)
    case atStart => exact ⟨0, by omega, rfl, Bel.refl _, ⟨fun j _ _ h => absurd h (by omega)⟩⟩
    case round =>
      obtain ⟨k, hk, rfl, hBr, hno⟩ := hrel
      by_cases hlt : k < l.length
      · have hlt1 : k < m.length := by have := hlm'.out; omega
        obtain ⟨ad, A1, c1, A2, c2, rfl, u0, u1, u2, HA1, HA2⟩ := chart_at (HA.step hBr) k hlt
        obtain ⟨ad1, B1, d1, B2, d2, rfl, v0, v1, v2, HB1, HB2⟩ := chart_at (HB.step hBr) k hlt1
        obtain ⟨f1, f2⟩ := hl.out.2 _ (List.getElem_mem hlt)
        obtain ⟨f3, f4⟩ := hm.out.2 _ (List.getElem_mem hlt1)
        obtain ⟨x, hx⟩ : ∃ x, l[k] = x := ⟨_, rfl⟩
        obtain ⟨y, hy⟩ : ∃ y, m[k] = y := ⟨_, rfl⟩
        rw [hx] at u0 u1 u2 HA1 HA2 f1 f2
        rw [hy] at v0 v1 v2 HB1 HB2 f3 f4
        have hs := Aside0.mk (fun (W : World) (q : Bel wr W) => rSameOne_any x y A1 A2 B1 B2 c1 c2 d1 d2 W (HA1.step q) (HA2.step q) (HB1.step q) (HB2.step q) f1 f2 f3 f4)
        have hBd : Bel wr wr.drew := (Bel.refl wr).drewN 1
        have hz := Aside0.mk (fun (W : World) (q : Bel wr W) => And.intro q (And.intro (Bel.cell q u0) (And.intro (Bel.cell q u1) (And.intro (Bel.cell q u2) (And.intro (Bel.cell q v0) (And.intro (Bel.cell q v1) (Bel.cell q v2)))))))
        clear HA1 HA2 HB1 HB2
        by_cases hxy : x = y
        · have hs2 := Aside0.mk (fun (W : World) (q : Bel wr W) => (hs.out W q).mono (fun e w' h => h.yes hxy))
          have hst := Aside0.mk (lists_snoc hlt hlt1 hno.out (by rw [hx, hy]; exact hxy))
          clear hs
          replace hxy := Aside0.mk hxy
          replace hx := Aside0.mk hx
          replace hy := Aside0.mk hy
          go_upto_region 6 with (fail)
          refine wp_region_held_drew (S := fun w' => Bel wr w' ∧ w'.cell? (ad.add (k * 3)) = some (.int .i64 x.f0) ∧ w'.cell? ⟨(ad.add (k * 3)).block, (ad.add (k * 3)).off + 1, none⟩ = some (.slice A1 x.f1.length c1) ∧ w'.cell? ⟨(ad.add (k * 3)).block, (ad.add (k * 3)).off + 2, none⟩ = some (.slice A2 x.f2.length c2) ∧ w'.cell? (ad1.add (k * 3)) = some (.int .i64 y.f0) ∧ w'.cell? ⟨(ad1.add (k * 3)).block, (ad1.add (k * 3)).off + 1, none⟩ = some (.slice B1 y.f1.length d1) ∧ w'.cell? ⟨(ad1.add (k * 3)).block, (ad1.add (k * 3)).off + 2, none⟩ = some (.slice B2 y.f2.length d2)) (by kernel_rfl) (hz.out _ hBd) (fun hHeld => ?_)
          refine wpAnyH_take (i := 0) (v := ?_) rfl (by kernel_rfl) (by kernel_rfl) (by kernel_rfl) (fun _ _ _ h => h) (Or.inl ⟨by kernel_rfl, ?_⟩) hHeld ?_
          rotate_left 1
          focus (intro w hSw; (try dsimp only at hSw); go_simp; (try with_reducible rfl); done)
          try simp only [Act.put, List.getElem_toArray, List.getElem_cons_zero, List.getElem_cons_succ, List.setIfInBounds_toArray, List.set_cons_zero, List.set_cons_succ]
          refine wpAnyH_take (i := 1) (v := ?_) rfl (by kernel_rfl) (by kernel_rfl) (by kernel_rfl) (fun _ _ _ h => h) (Or.inl ⟨by kernel_rfl, ?_⟩) hHeld ?_
          rotate_left 1
          focus (intro w hSw; (try dsimp only at hSw); go_simp; (try with_reducible rfl); done)
          try simp only [Act.put, List.getElem_toArray, List.getElem_cons_zero, List.getElem_cons_succ, List.setIfInBounds_toArray, List.set_cons_zero, List.set_cons_succ]
          refine wpAnyH_take (i := 2) (v := ?_) rfl (by kernel_rfl) (by kernel_rfl) (by kernel_rfl) (fun _ _ _ h => h) (Or.inl ⟨by kernel_rfl, ?_⟩) hHeld ?_
          rotate_left 1
          focus (intro w hSw; (try dsimp only at hSw); go_simp; (try with_reducible rfl); done)
          try simp only [Act.put, List.getElem_toArray, List.getElem_cons_zero, List.getElem_cons_succ, List.setIfInBounds_toArray, List.set_cons_zero, List.set_cons_succ]
          refine wpAnyH_take (i := 3) (v := ?_) rfl (by kernel_rfl) (by kernel_rfl) (by kernel_rfl) (fun _ _ _ h => h) (Or.inl ⟨by kernel_rfl, ?_⟩) hHeld ?_
          rotate_left 1
          focus (intro w hSw; (try dsimp only at hSw); go_simp; (try with_reducible rfl); done)
          try simp only [Act.put, List.getElem_toArray, List.getElem_cons_zero, List.getElem_cons_succ, List.setIfInBounds_toArray, List.set_cons_zero, List.set_cons_succ]
          refine wpAnyH_take (i := 4) (v := ?_) rfl (by kernel_rfl) (by kernel_rfl) (by kernel_rfl) (fun _ _ _ h => h) (Or.inl ⟨by kernel_rfl, ?_⟩) hHeld ?_
          rotate_left 1
          focus (intro w hSw; (try dsimp only at hSw); go_simp; (try with_reducible rfl); done)
          try simp only [Act.put, List.getElem_toArray, List.getElem_cons_zero, List.getElem_cons_succ, List.setIfInBounds_toArray, List.set_cons_zero, List.set_cons_succ]
          refine wpAnyH_take (i := 5) (v := ?_) rfl (by kernel_rfl) (by kernel_rfl) (by kernel_rfl) (fun _ _ _ h => h) (Or.inl ⟨by kernel_rfl, ?_⟩) hHeld ?_
          rotate_left 1
          focus (intro w hSw; (try dsimp only at hSw); go_simp; (try with_reducible rfl); done)
          try simp only [Act.put, List.getElem_toArray, List.getElem_cons_zero, List.getElem_cons_succ, List.setIfInBounds_toArray, List.set_cons_zero, List.set_cons_succ]
          refine wpAnyH_take (i := 6) (v := ?_) rfl (by kernel_rfl) (by kernel_rfl) (by kernel_rfl) (fun _ _ _ h => h) (Or.inl ⟨by kernel_rfl, ?_⟩) hHeld ?_
          rotate_left 1
          focus (intro w hSw; (try dsimp only at hSw); go_simp; (try with_reducible rfl); done)
          try simp only [Act.put, List.getElem_toArray, List.getElem_cons_zero, List.getElem_cons_succ, List.setIfInBounds_toArray, List.set_cons_zero, List.set_cons_succ]
          refine wpAnyH_take (i := 7) (v := ?_) rfl (by kernel_rfl) (by kernel_rfl) (by kernel_rfl) (fun _ _ _ h => h) (Or.inl ⟨by kernel_rfl, ?_⟩) hHeld ?_
          rotate_left 1
          focus (intro w hSw; (try dsimp only at hSw); go_simp; (try with_reducible rfl); done)
          try simp only [Act.put, List.getElem_toArray, List.getElem_cons_zero, List.getElem_cons_succ, List.setIfInBounds_toArray, List.set_cons_zero, List.set_cons_succ]
          refine wpAnyH_ready (rs := [8]) (by kernel_rfl) (by simp) ?_
          refine AllReadyH.cons rfl (fun K hK => ?_) AllReadyH.nil
          go_simp
          (go_at_call 26; refine (hs2.out _ hBd).mono ?_; rintro ex w5 ⟨rfl, hB5⟩)
          refine hK.out _ _ ?_ (fun hHeld => ?_)
          rotate_left 1
          clear hK K
          try simp only [Act.put, List.getElem_toArray, List.getElem_cons_zero, List.getElem_cons_succ, List.setIfInBounds_toArray, List.set_cons_zero, List.set_cons_succ]
          rotate_left 1
          · exact hz.out _ (hBd.trans hB5)
          refine wpAnyH_take (i := 9) (v := ?_) rfl (by kernel_rfl) (by kernel_rfl) (by kernel_rfl) (fun _ _ _ h => h) (Or.inl ⟨by kernel_rfl, ?_⟩) hHeld ?_
          rotate_left 1
          focus (intro w hSw; (try dsimp only at hSw); go_simp; (try with_reducible rfl); done)
          try simp only [Act.put, List.getElem_toArray, List.getElem_cons_zero, List.getElem_cons_succ, List.setIfInBounds_toArray, List.set_cons_zero, List.set_cons_succ]
          refine wpAnyH_done (by kernel_rfl) ?_ _
          go_wp2
          go_roundw
          case rel => exact ⟨k + 1, by omega, by go_num, hBr.trans (hBd.trans hB5), hst⟩
          case measure => simp [intOf]; omega
        · have hs2 := Aside0.mk (fun (W : World) (q : Bel wr W) => (hs.out W q).mono (fun e w' h => h.no hxy))
          have hne : Aside0 (¬ l = m) := ⟨fun e => hxy (by rw [← hx, ← hy]; simp only [e])⟩
          clear hs
          replace hxy := Aside0.mk hxy
          replace hx := Aside0.mk hx
          replace hy := Aside0.mk hy
          go_upto_region 6 with (fail)
          refine wp_region_held_drew (S := fun w' => Bel wr w' ∧ w'.cell? (ad.add (k * 3)) = some (.int .i64 x.f0) ∧ w'.cell? ⟨(ad.add (k * 3)).block, (ad.add (k * 3)).off + 1, none⟩ = some (.slice A1 x.f1.length c1) ∧ w'.cell? ⟨(ad.add (k * 3)).block, (ad.add (k * 3)).off + 2, none⟩ = some (.slice A2 x.f2.length c2) ∧ w'.cell? (ad1.add (k * 3)) = some (.int .i64 y.f0) ∧ w'.cell? ⟨(ad1.add (k * 3)).block, (ad1.add (k * 3)).off + 1, none⟩ = some (.slice B1 y.f1.length d1) ∧ w'.cell? ⟨(ad1.add (k * 3)).block, (ad1.add (k * 3)).off + 2, none⟩ = some (.slice B2 y.f2.length d2)) (by kernel_rfl) (hz.out _ hBd) (fun hHeld => ?_)
          refine wpAnyH_take (i := 0) (v := ?_) rfl (by kernel_rfl) (by kernel_rfl) (by kernel_rfl) (fun _ _ _ h => h) (Or.inl ⟨by kernel_rfl, ?_⟩) hHeld ?_
          rotate_left 1
          focus (intro w hSw; (try dsimp only at hSw); go_simp; (try with_reducible rfl); done)
          try simp only [Act.put, List.getElem_toArray, List.getElem_cons_zero, List.getElem_cons_succ, List.setIfInBounds_toArray, List.set_cons_zero, List.set_cons_succ]
          refine wpAnyH_take (i := 1) (v := ?_) rfl (by kernel_rfl) (by kernel_rfl) (by kernel_rfl) (fun _ _ _ h => h) (Or.inl ⟨by kernel_rfl, ?_⟩) hHeld ?_
          rotate_left 1
          focus (intro w hSw; (try dsimp only at hSw); go_simp; (try with_reducible rfl); done)
          try simp only [Act.put, List.getElem_toArray, List.getElem_cons_zero, List.getElem_cons_succ, List.setIfInBounds_toArray, List.set_cons_zero, List.set_cons_succ]
          refine wpAnyH_take (i := 2) (v := ?_) rfl (by kernel_rfl) (by kernel_rfl) (by kernel_rfl) (fun _ _ _ h => h) (Or.inl ⟨by kernel_rfl, ?_⟩) hHeld ?_
          rotate_left 1
          focus (intro w hSw; (try dsimp only at hSw); go_simp; (try with_reducible rfl); done)
          try simp only [Act.put, List.getElem_toArray, List.getElem_cons_zero, List.getElem_cons_succ, List.setIfInBounds_toArray, List.set_cons_zero, List.set_cons_succ]
          refine wpAnyH_take (i := 3) (v := ?_) rfl (by kernel_rfl) (by kernel_rfl) (by kernel_rfl) (fun _ _ _ h => h) (Or.inl ⟨by kernel_rfl, ?_⟩) hHeld ?_
          rotate_left 1
          focus (intro w hSw; (try dsimp only at hSw); go_simp; (try with_reducible rfl); done)
          try simp only [Act.put, List.getElem_toArray, List.getElem_cons_zero, List.getElem_cons_succ, List.setIfInBounds_toArray, List.set_cons_zero, List.set_cons_succ]
          refine wpAnyH_take (i := 4) (v := ?_) rfl (by kernel_rfl) (by kernel_rfl) (by kernel_rfl) (fun _ _ _ h => h) (Or.inl ⟨by kernel_rfl, ?_⟩) hHeld ?_
          rotate_left 1
          focus (intro w hSw; (try dsimp only at hSw); go_simp; (try with_reducible rfl); done)
          try simp only [Act.put, List.getElem_toArray, List.getElem_cons_zero, List.getElem_cons_succ, List.setIfInBounds_toArray, List.set_cons_zero, List.set_cons_succ]
          refine wpAnyH_take (i := 5) (v := ?_) rfl (by kernel_rfl) (by kernel_rfl) (by kernel_rfl) (fun _ _ _ h => h) (Or.inl ⟨by kernel_rfl, ?_⟩) hHeld ?_
          rotate_left 1
          focus (intro w hSw; (try dsimp only at hSw); go_simp; (try with_reducible rfl); done)
          try simp only [Act.put, List.getElem_toArray, List.getElem_cons_zero, List.getElem_cons_succ, List.setIfInBounds_toArray, List.set_cons_zero, List.set_cons_succ]
          refine wpAnyH_take (i := 6) (v := ?_) rfl (by kernel_rfl) (by kernel_rfl) (by kernel_rfl) (fun _ _ _ h => h) (Or.inl ⟨by kernel_rfl, ?_⟩) hHeld ?_
          rotate_left 1
          focus (intro w hSw; (try dsimp only at hSw); go_simp; (try with_reducible rfl); done)
          try simp only [Act.put, List.getElem_toArray, List.getElem_cons_zero, List.getElem_cons_succ, List.setIfInBounds_toArray, List.set_cons_zero, List.set_cons_succ]
          refine wpAnyH_take (i := 7) (v := ?_) rfl (by kernel_rfl) (by kernel_rfl) (by kernel_rfl) (fun _ _ _ h => h) (Or.inl ⟨by kernel_rfl, ?_⟩) hHeld ?_
          rotate_left 1
          focus (intro w hSw; (try dsimp only at hSw); go_simp; (try with_reducible rfl); done)
          try simp only [Act.put, List.getElem_toArray, List.getElem_cons_zero, List.getElem_cons_succ, List.setIfInBounds_toArray, List.set_cons_zero, List.set_cons_succ]
          refine wpAnyH_ready (rs := [8]) (by kernel_rfl) (by simp) ?_
          refine AllReadyH.cons rfl (fun K hK => ?_) AllReadyH.nil
          go_simp
          (go_at_call 26; refine (hs2.out _ hBd).mono ?_; rintro ex w5 ⟨rfl, hB5⟩)
          refine hK.out _ _ ?_ (fun hHeld => ?_)
          rotate_left 1
          clear hK K
          try simp only [Act.put, List.getElem_toArray, List.getElem_cons_zero, List.getElem_cons_succ, List.setIfInBounds_toArray, List.set_cons_zero, List.set_cons_succ]
          rotate_left 1
          · exact hz.out _ (hBd.trans hB5)
          refine wpAnyH_take (i := 9) (v := ?_) rfl (by kernel_rfl) (by kernel_rfl) (by kernel_rfl) (fun _ _ _ h => h) (Or.inl ⟨by kernel_rfl, ?_⟩) hHeld ?_
          rotate_left 1
          focus (intro w hSw; (try dsimp only at hSw); go_simp; (try with_reducible rfl); done)
          try simp only [Act.put, List.getElem_toArray, List.getElem_cons_zero, List.getElem_cons_succ, List.setIfInBounds_toArray, List.set_cons_zero, List.set_cons_succ]
          refine wpAnyH_done (by kernel_rfl) ?_ _
          go_wp2
          go_ret
          exact SameP.mk0 hne.out (hBr.trans (hBd.trans hB5))
      · have he : Aside0 (l = m) := ⟨lists_eq hlm'.out (fun j hj hj1 _ => hno.out j hj hj1 (by omega))⟩
        go_wp2
        go_ret
        exact SameP.mk1 he.out hBr
  · have b0 : ((l.length : Int) != (m.length : Int)) = true := by simp; omega
    have b1 : (l.length == m.length) = false := by simpa using hlm
    have hne : Aside0 (¬ l = m) := ⟨fun e => hlm (by rw [e])⟩
    replace hlm := Aside0.mk hlm
    go_enter Tryd.func15, Tryd.ntmps15
    go_wp2
    go_ret
    exact SameP.mk0 hne.out (Bel.refl _)
end Go.Proofs.YtceibabhmomfiaaDoor.H
