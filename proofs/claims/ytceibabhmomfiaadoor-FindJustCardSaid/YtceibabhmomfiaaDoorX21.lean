/- Texts of this work, joined: Px5, Op, Lx, Ld. Conditions: each stands with its theorem. -/
import Derived.Test.YtceibabhmomfiaaDoorX20
import Derived.Test.YtceibabhmomfiaaDoorX00
import Derived.Deep.Slices
import Derived.SizedLaws
import Derived.ChangeArms
import Derived.Test.YtceibabhmomfiaaDoorX03
import Derived.Test.YtceibabhmomfiaaDoorX18
/- Layer 3, the reference: bytes' charts. -/
namespace Go.Proofs.YtceibabhmomfiaaDoor.H
open Go.RowKit Go.Proofs.YtceibabhmomfiaaDoorW.PrintWords Go.Proofs.YtceibabhmomfiaaDoorW.PrintLast
set_option linter.unusedVariables false
set_option linter.unusedSimpArgs false
set_option maxRecDepth 100000

set_option maxHeartbeats 4000000 in
theorem DecodeRef_any (A : Option Addr) (c : Nat) (l : List Int) (w : World) (hc : l.length ≤ c) (HR : RdB w A l) (hby : Bytes l) (hl : l.length ≤ 10000000000000) :
    Calls Tryd.prog 14 #[.slice A l.length c] w fun ex w' => ∃ v, ex = .returned (.tuple #[v, .int .i64 (dcE l)]) ∧ Own kChart 36 w w' v (dcL l) ∧ Bel w w' := by
  have hB0 : Bel w (w.alloc (.cells #[.slice A l.length c, .int .i64 0] 68)) := (Bel.refl w).alloc _
  have hg0 := heap_alloc_new w (.cells #[.slice A l.length c, .int .i64 0] 68)
  go_enter Tryd.func14, Tryd.ntmps14
  go_upto_region 4 with (fail)
  generalize w.alloc (.cells #[.slice A l.length c, .int .i64 0] 68) = wa at hB0 hg0 ⊢
  have hbr := hB0.size
  have hRa : IsRA 68 w.heap.size wa w.heap.size l 0 := ⟨⟨A, c, ⟨Nat.le_refl _, hbr, hg0, hc, RdK.came HR hB0.out RT, hby, hl⟩⟩⟩
  obtain ⟨r, hr⟩ : ∃ r, w.heap.size = r := ⟨_, rfl⟩
  have hK0 := Aside0.mk (KT.of_bel hB0 (Nat.le_refl _) ST)
  rw [hr] at hRa hK0 hbr ⊢
  replace hg0 := Aside0.mk hg0
  have hcall := Aside0.mk (rnum_any 2000 9 (by decide) (by decide) (by decide) r r l 0 wa hRa)
  have hrw : r ≤ w.heap.size := by omega
  replace hr := Aside0.mk hr
  go_wp2_with (go_at_call 37; ((with_reducible refine hcall.out.mono ?_); rintro ex w1 ⟨n, rfl, hT, hn1⟩))
  obtain ⟨l1, e1, hran1, hR1, _⟩ := hT.ran
  have hn0 := hT.ge
  have hK1 := Aside0.mk (hK0.out.trans hT.kt.out)
  clear hT hcall hK0 hg0 hRa
  go_loopw [5, 6, 7] (fun o la i W => ∃ (k : Nat) (n2 : Int) (cs : List SChart) (p : Int) (lk : List Int) (ek : Int), k ≤ n.toNat ∧ i = .int .i64 n2 ∧ n2 ≤ n - k ∧ n - k ≤ n2 ∧ la = .int .i64 p ∧ 0 ≤ p ∧ p ≤ 1099511627776 ∧ Aside0 (lastA cs = p) ∧ Aside0 (Ran (pGrow (fun xs => pChart (lastA xs)) k) l1 e1 cs lk ek) ∧ IsRA 68 r W r lk ek ∧ Aside0 (OwnAt kChart 36 r W o cs ∧ KT ST r w W) ∧ Aside0 (cs.length = k)) (fun _ _ i _ => (intOf i).toNat)
  case atStart => exact ⟨0, n, [], 0, l1, e1, by omega, rfl, by omega, by omega, rfl, by decide, by decide, ⟨rfl⟩, ⟨Ran.grow0 _ _ _⟩, hR1, ⟨OwnAt.nil _ _ _ _, hK1.out⟩, ⟨rfl⟩⟩
  case round =>
    clear hR1 hK1
    obtain ⟨k, n2, cs, p, lk, ek, hk, rfl, hn2, hn3, rfl, hp0, hp1, hlast, hran, hRk, hOk, hdk⟩ := hrel
    have hrr : r ≤ wr.heap.size := Nat.le_trans hrw hOk.out.2.size
    have hdl : cs.length ≤ 2000 := by rw [hdk.out]; omega
    obtain ⟨A0, c0, rfl, _, _⟩ := hOk.out.1.reads
    obtain ⟨A2, c2, hr2⟩ := hRk.out
    have y0 : wr.cell? ⟨r, 0, none⟩ = some (.slice A2 lk.length c2) := blk_cell hr2.blk 0
    have y1 : wr.cell? ⟨r, 1, none⟩ = some (.int .i64 ek) := blk_cell hr2.blk 1
    have g1 := blk_frozen hr2.blk 1
    have hlk := hr2.len
    replace hr2 := Aside0.mk hr2
    go_upto_region 5 with (fail)
    go_cut [18] (fun t W => ∃ b, t = .bool b ∧ Aside0 (b = decide ((0 < n2) ∧ (ek) = 0)) ∧ wr = W)
    case first =>
      by_cases h1 : 0 < n2
      · by_cases he : (ek) = 0
        · have b1 : ((ek) == 0) = true := by simpa using he
          have hb : Aside0 (decide ((0 < n2) ∧ (ek) = 0) = true) := ⟨decide_eq_true ⟨h1, he⟩⟩
          replace he := Aside0.mk he
          go_wp2
          go_meet
          case rel => exact ⟨_, rfl, ⟨hb.out.symm⟩, rfl⟩
        · have b1 : ((ek) == 0) = false := by simpa using he
          have hb : Aside0 (decide ((0 < n2) ∧ (ek) = 0) = false) := ⟨decide_eq_false (fun q => he q.2)⟩
          replace he := Aside0.mk he
          go_wp2
          go_meet
          case rel => exact ⟨_, rfl, ⟨hb.out.symm⟩, rfl⟩
      · have hb : Aside0 (decide ((0 < n2) ∧ (ek) = 0) = false) := ⟨decide_eq_false (fun q => h1 q.1)⟩
        go_wp2
        go_meet
        case rel => exact ⟨_, rfl, ⟨hb.out.symm⟩, rfl⟩
    obtain ⟨b, rfl, hb, rfl⟩ := hcut
    cases b with
    | true =>
      have hc1 := (of_decide_eq_true hb.out.symm).1
      clear hb y0 y1 g1
      have hch := Aside0.mk (rchart_any p hp0 hp1 r r lk ek wr hRk)
      go_upto_region 8 with (go_at_call 38; ((with_reducible refine hch.out.mono ?_); rintro ex w3 ⟨x, v1, v2, rfl, hL, hv1, hv2, hp2, hp3⟩; obtain ⟨A4, c4, rfl, _, _⟩ := hv1.reads; obtain ⟨A6, c6, rfl, _, _⟩ := hv2.reads))
      obtain ⟨x0, xr, xd⟩ := x
      simp only at hv1 hv2 hp2 hp3 hL ⊢
      obtain ⟨l3, e3, hran3, hR3⟩ := hL.ran
      obtain ⟨A3, c3, hr3⟩ := hR3.out
      have hBa : Bel w3 (w3.alloc (.cells #[.int .i64 x0, .slice A4 xr.length c4, .slice A6 xd.length c6] 36)) := (Bel.refl w3).alloc _
      have hba := heap_alloc_new w3 (.cells #[.int .i64 x0, .slice A4 xr.length c4, .slice A6 xd.length c6] 36)
      have hk3 := hOk.out.2.trans hL.kt.out
      have hrw3 : r ≤ w3.heap.size := Nat.le_trans hrw hk3.size
      have hO3 := Aside0.mk ((hOk.out.1.keep hL.kt.out (by decide)).step hBa)
      have hv3 : OwnAt kLoc 50 r w3 (.slice A4 xr.length c4) xr := ⟨Kd.R_lower hv1.out hrr⟩
      have hd3 : OwnAt kPair 73 r w3 (.slice A6 xd.length c6) xd := ⟨Kd.R_lower hv2.out hrr⟩
      have hva := Aside0.mk (hv3.step hBa)
      have hda := Aside0.mk (hd3.step hBa)
      have hka := Aside0.mk (hk3.trans (KT.of_bel hBa hrw3 ST))
      have hra := Aside0.mk (hr3.step hBa)
      generalize w3.alloc (.cells #[.int .i64 x0, .slice A4 xr.length c4, .slice A6 xd.length c6] 36) = wb at hBa hba hO3 hva hda hka hra ⊢
      obtain ⟨h, hh⟩ : ∃ h, w3.heap.size = h := ⟨_, rfl⟩
      rw [hh] at hba ⊢
      have z0 := blk_cell hba 0
      have z1 := blk_cell hba 1
      have z2 := blk_cell hba 2
      have hrwb : r ≤ wb.heap.size := Nat.le_trans hrw hka.out.size
      replace hh := Aside0.mk hh
      replace hba := Aside0.mk hba
      clear hL hR3 hr3 hBa hk3 hOk hRk hch hr2 hv1 hv2 hv3 hd3
      go_wp2_with ((with_reducible refine gate_b (b := .append) rfl ?_); (refine app_chart_at_ (xs := cs) (⟨x0, xr, xd⟩ : SChart) [.int .i64 x0, .slice A4 xr.length c4, .slice A6 xd.length c6] hO3.out ⟨kChart_mkM _ _ _ (⟨x0, xr, xd⟩ : SChart) hva.out.out hda.out.out⟩ hrwb rfl _ _ rfl ?hl1 rfl rfl ?_); (case hl1 => omega); intro v3 w8 hO1 hK1)
      go_roundw
      case rel =>
        refine ⟨k + 1, n2 - 1, cs ++ [⟨x0, xr, xd⟩], x0, l3, e3, by omega, by go_num, by omega, by omega, rfl, by omega, hp3, ⟨by simp [lastA]⟩, ⟨hran.out.grow1 (by rw [hlast.out]; exact hran3.out)⟩, ⟨⟨_, _, hra.out.keep hK1 (by decide) (by decide)⟩⟩, ⟨hO1, hka.out.after (by rw [hr.out]; exact hK1.below) hrw⟩, ⟨by rw [List.length_append, hdk.out]; rfl⟩⟩
      case measure => simp [intOf]; omega
    | false =>
      have hfin : Aside0 (Ran (pGrow (fun xs => pChart (lastA xs)) n.toNat) l1 e1 cs lk ek) := ⟨by
        have hc := of_decide_eq_false hb.out.symm
        by_cases hek : ek = 0
        · have : k = n.toNat := by have : ¬ 0 < n2 := fun q => hc ⟨q, hek⟩; omega
          rw [← this]; exact hran.out
        · exact hran.out.growEarly hek hk cs⟩
      clear hb
      have hran5 := Aside0.mk (Ran.fin lk ek)
      go_upto_region 10 with (fail)
      go_cut [37] (fun t W => ∃ b, t = .bool b ∧ Aside0 (b = decide (ek = 0 ∧ 0 < lk.length)) ∧ wr = W)
      case first =>
        by_cases he : ek = 0
        · have b1 : (ek == 0) = true := by simpa using he
          by_cases hp : 0 < lk.length
          · have hb : Aside0 (decide (ek = 0 ∧ 0 < lk.length) = true) := ⟨decide_eq_true ⟨he, hp⟩⟩
            replace he := Aside0.mk he
            go_wp2
            go_meet
            case rel => exact ⟨_, rfl, ⟨hb.out.symm⟩, rfl⟩
          · have hb : Aside0 (decide (ek = 0 ∧ 0 < lk.length) = false) := ⟨decide_eq_false (fun q => hp q.2)⟩
            replace he := Aside0.mk he
            go_wp2
            go_meet
            case rel => exact ⟨_, rfl, ⟨hb.out.symm⟩, rfl⟩
        · have b1 : (ek == 0) = false := by simpa using he
          have hb : Aside0 (decide (ek = 0 ∧ 0 < lk.length) = false) := ⟨decide_eq_false (fun q => he q.1)⟩
          replace he := Aside0.mk he
          go_wp2
          go_meet
          case rel => exact ⟨_, rfl, ⟨hb.out.symm⟩, rfl⟩
      case rest =>
        obtain ⟨b, rfl, hb, rfl⟩ := hcut
        go_upto_if 37 with (fail)
        go_cut [38] (fun _ W => Aside0 (IsR 68 r W r lk (if ek = 0 ∧ 0 < lk.length then 11 else ek) A2 c2 ∧ KT ST r wr W))
        case first =>
          cases b with
          | true =>
            have hc := Aside0.mk (of_decide_eq_true hb.out.symm)
            have hs := Aside0.mk (hr2.out.setE (by decide) 11)
            go_wp2
            go_meet
            case rel => exact ⟨by rw [if_pos hc.out]; exact hs.out.1, hs.out.2⟩
          | false =>
            have hc := Aside0.mk (of_decide_eq_false hb.out.symm)
            go_wp2
            go_meet
            case rel => exact ⟨by rw [if_neg hc.out]; exact hr2.out, KT.refl _ _ _⟩
        case rest =>
          have hx3 := hcut.out
          obtain ⟨e5, he5⟩ : ∃ e5, (if ek = 0 ∧ 0 < lk.length then (11 : Int) else ek) = e5 := ⟨_, rfl⟩
          rw [he5] at hx3 hran5
          have hall : Ran pCharts l 0 cs lk e5 := hran1.out.bind (hfin.out.bind (hran5.out.bind (Ran.ret cs lk e5)))
          have hw5 := Aside0.mk hall.wholeC
          have q1 : wc.cell? ⟨r, 1, none⟩ = some (.int .i64 e5) := blk_cell hx3.1.blk 1
          have hk5 := hOk.out.2.trans hx3.2
          have hB5 : Bel w wc := ⟨by have := hk5.below; rwa [← hr.out] at this⟩
          have hO5 := hOk.out.1.keep hx3.2 (by decide)
          clear hcut he5 hall hran5 hran hfin hOk hRk hr2 hk5 y0 y1 hx3 hb
          replace hO5 := Aside0.mk hO5
          by_cases h5 : e5 = 0
          · have b1 : (e5 != 0) = false := by simp [h5]
            replace h5 := Aside0.mk h5
            go_wp2
            go_ret2
            refine ⟨.slice A0 cs.length c0, ?_, ⟨?_⟩, hB5⟩
            · rw [← hw5.out.1, h5.out]; rfl
            · rw [← hw5.out.2.1 h5.out, hr.out]
              exact hO5.out.out
          · have b1 : (e5 != 0) = true := by simpa using h5
            replace h5 := Aside0.mk h5
            go_upto_region 13 with (fail)
            go_region_law (fail)
            all_goals
              go_wp2
              go_ret2
              refine ⟨.slice none 0 0, ?_, ⟨?_⟩, ?_⟩
              · rw [← hw5.out.1]; rfl
              · rw [hw5.out.2.2 h5.out]
                exact (Own.nil _ _ _ _).out
              · exact hB5.drewN 1
end Go.Proofs.YtceibabhmomfiaaDoor.H

/- Words of this work: an argument of any shape, opened as a list of plain values. -/
namespace Go.Proofs.YtceibabhmomfiaaDoor.H
open Go.RowKit Go.Proofs.YtceibabhmomfiaaDoorW.PrintWords Go.ChangeShapes Go.WideShapes Go.Deep
set_option linter.unusedVariables false
set_option linter.unusedSimpArgs false

section
variable {H : Type} {enc : TypeId × Value → H} {P : Program} {W : World}
/-- what reads as data of type t is a value of this kind -/
def Opens {H : Type} (enc : TypeId × Value → H) (P : Program) (W : World) {α : Type} (d : Kd α) (t : TypeId) (ok : α → Prop) : Prop :=
  ∀ (fuel : Nat) (cs : List Value) (x : DataW H × List MemPlace), DataW.trod enc P W 0 (fun _ => true) true fuel t cs = some x → (x.1.weights P t).all (· ≤ reachBytes) = true → ∃ a, d.K W a cs ∧ ok a
theorem Opens.mono {α : Type} {d : Kd α} {t : TypeId} {ok ok' : α → Prop} (h : Opens enc P W d t ok) (hk : ∀ a, ok a → ok' a) : Opens enc P W d t ok' := fun fuel cs x hx hw => by
  obtain ⟨a, h1, h2⟩ := h fuel cs x hx hw
  exact ⟨a, h1, hk a h2⟩
theorem Opens.int {t : TypeId} {k : IntKind} (ht : P.underlying t = some (.int k)) : Opens enc P W (Kd.int k) t (fun a => (Lit.int k a).wf = true) := fun fuel cs x hx _ => by
  obtain ⟨n, rfl, _, hw⟩ := DataW.trod_int ht hx
  exact ⟨n, rfl, hw⟩
theorem Opens.bool {t : TypeId} (ht : P.underlying t = some .bool) : Opens enc P W Kd.bool t (fun _ => True) := fun fuel cs x hx _ => by
  obtain ⟨b, rfl, _⟩ := DataW.trod_bool ht hx
  exact ⟨b, rfl, trivial⟩
theorem weightsAll_mem {e : TypeId} : ∀ {l : List (DataW H)} {d : DataW H}, d ∈ l → ∀ n ∈ d.weights P e, n ∈ DataW.weightsAll P e l
  | d0 :: l, d, hd, n, hn => by
    simp only [DataW.weightsAll, List.mem_append]
    rcases List.mem_cons.1 hd with rfl | hd
    · exact .inl hn
    · exact .inr (weightsAll_mem hd n hn)
theorem Opens.slice {α : Type} {d : Kd α} {t e B : Nat} {ok : α → Prop} (ht : P.underlying t = some (.slice e)) (hc : P.cellsOf e = d.sz) (hB : P.bytesOf e = B) (h : Opens enc P W d e ok) :
    Opens enc P W (Kd.slice e d) t (fun xs => xs.length * B ≤ 140737488351232 ∧ ∀ x ∈ xs, ok x) := fun fuel cs x hx hw => by
  classical
  rcases open_slice ht hx with ⟨rfl, rfl⟩ | ⟨a, len, cap, m, n, D, Pl, rfl, _, hl, hm, hmm, rfl, hi⟩
  · exact ⟨[], ⟨none, 0, rfl, Nat.le_refl _, rfl, by simp, fun h => by simp at h⟩, by simp, by simp⟩
  · have hmm : m = cap := by simpa using hmm
    subst hmm
    simp only [DataW.weights, ht, List.all_cons, List.all_append, Bool.and_eq_true, decide_eq_true_eq, List.length_map, List.length_range, hB] at hw
    obtain ⟨hw0, hw1, _⟩ := hw
    have hall : ∀ i, i < len → ∃ (c : List Value) (y : α), c.length = d.sz ∧ (∀ j u, c[j]? = some u → W.cell? (a.add (i * d.sz + j)) = some u) ∧ d.K W y c ∧ ok y := fun i hil => by
      obtain ⟨cs', h1, h2⟩ := hi i (by omega)
      rw [hc] at h1
      obtain ⟨_, h3, h4⟩ := World.cells?_some h1
      obtain ⟨y, hy, hk⟩ := h n cs' _ h2 (by
        rw [List.all_eq_true] at hw1 ⊢
        exact fun q hq => hw1 q (weightsAll_mem (List.mem_map.2 ⟨i, List.mem_range.2 hil, rfl⟩) q hq))
      refine ⟨cs', y, h3, fun j u hu => ?_, hy, hk⟩
      have hj : j < d.sz := by have := (List.getElem?_eq_some_iff.1 hu).1; omega
      rw [← Go.Deep.add_add, h4 j hj, hu]
    have key : ∀ k, k ≤ len → ∃ ys : List α, ys.length = k ∧ ∀ i y, ys[i]? = some y → ok y ∧ ∃ c : List Value, c.length = d.sz ∧ d.K W y c ∧ ∀ j u, c[j]? = some u → W.cell? (a.add (i * d.sz + j)) = some u := fun k => by
      induction k with
      | zero => exact fun _ => ⟨[], rfl, fun i y h => by simp at h⟩
      | succ k ih =>
        intro hk
        obtain ⟨ys, h1, h2⟩ := ih (by omega)
        obtain ⟨c, y, h3, h4, h5, h6⟩ := hall k (by omega)
        refine ⟨ys ++ [y], by simp [h1], fun i z hz => ?_⟩
        rcases Nat.lt_trichotomy i k with hik | hik | hik
        · rw [List.getElem?_append_left (by omega)] at hz
          exact h2 i z hz
        · subst hik
          rw [List.getElem?_append_right (by omega), h1, Nat.sub_self, List.getElem?_cons_zero, Option.some.injEq] at hz
          subst hz
          exact ⟨h6, c, h3, h5, h4⟩
        · rw [List.getElem?_append_right (by omega), List.getElem?_cons, if_neg (by omega)] at hz
          simp at hz
    obtain ⟨ys, h1, h2⟩ := key len (Nat.le_refl _)
    subst h1
    refine ⟨ys, ⟨some a, m, rfl, hl, rfl, by unfold maxLen at hm; omega, fun _ => ⟨a, rfl, fun j p hj => ?_⟩⟩, ?_, fun y hy => ?_⟩
    · obtain ⟨_, c, h3, h4, h5⟩ := h2 j p hj
      exact ⟨c, h3, h4, h5⟩
    · have : ys.length * B ≤ (ys.length + (m - ys.length)) * B := Nat.mul_le_mul_right _ (by omega)
      have h0 : reachBytes = 140737488351232 := by decide
      omega
    · obtain ⟨i, hi', rfl⟩ := List.mem_iff_getElem.1 hy
      exact (h2 i _ (List.getElem?_eq_getElem hi')).1
/-- a struct's fields, from offset o on -/
def OpensF {H : Type} (enc : TypeId × Value → H) (P : Program) (W : World) {α : Type} (d : Kd α) (fs : List Field) (o : Nat) (ok : α → Prop) : Prop :=
  ∀ (n : Nat) (cs : List Value) (xs : List (DataW H × List MemPlace)), cs.length = d.sz → xs.length = fs.length → (∀ (i : Nat) (f : Field), fs[i]? = some f → DataW.trod enc P W 0 (fun _ => true) true n f.type ((cs.drop (f.offset - o)).take (P.cellsOf f.type)) = xs[i]?) →
    (DataW.weightsEach P (fs.map (·.type)) (xs.map (·.1))).all (· ≤ reachBytes) = true → ∃ a, d.K W a cs ∧ ok a
theorem OpensF.last {α : Type} {d : Kd α} {f : Field} {o : Nat} {ok : α → Prop} (ho : f.offset = o) (hc : P.cellsOf f.type = d.sz) (h : Opens enc P W d f.type ok) : OpensF enc P W d [f] o ok := fun n cs xs hl hx ht hw => by
  obtain ⟨x, rfl⟩ : ∃ x, xs = [x] := List.length_eq_one_iff.1 hx
  have h1 := ht 0 f rfl
  rw [ho, Nat.sub_self, List.drop_zero, hc, ← hl, List.take_length] at h1
  exact h n cs x h1 (by simpa [DataW.weightsEach] using hw)
theorem OpensF.cons {α β : Type} {d : Kd α} {b : Kd β} {f : Field} {fs : List Field} {o : Nat} {ok : α → Prop} {ok2 : β → Prop} (ho : f.offset = o) (hc : P.cellsOf f.type = d.sz) (hle : ∀ g ∈ fs, o + d.sz ≤ g.offset) (h : Opens enc P W d f.type ok) (h2 : OpensF enc P W b fs (o + d.sz) ok2) :
    OpensF enc P W (Kd.pair d b) (f :: fs) o (fun x => ok x.1 ∧ ok2 x.2) := fun n cs xs hl hx ht hw => by
  rcases xs with _ | ⟨x, xs⟩
  · simp at hx
  have hl : cs.length = d.sz + b.sz := hl
  simp only [List.map_cons, DataW.weightsEach, List.all_append, Bool.and_eq_true] at hw
  have h1 := ht 0 f rfl
  rw [ho, Nat.sub_self, List.drop_zero, hc] at h1
  obtain ⟨a, ha, hk⟩ := h n _ x h1 hw.1
  obtain ⟨b', hb, hk2⟩ := h2 n (cs.drop d.sz) xs (by rw [List.length_drop]; omega) (by simpa using hx) (fun i g hg => by
    have h3 := ht (i + 1) g hg
    have h4 := hle g (List.mem_of_getElem? hg)
    rw [List.drop_drop, show d.sz + (g.offset - (o + d.sz)) = g.offset - o by omega]
    exact h3) hw.2
  exact ⟨(a, b'), ⟨cs.take d.sz, cs.drop d.sz, (List.take_append_drop _ _).symm, ha, hb⟩, hk, hk2⟩
theorem Opens.struct {α β : Type} {d : Kd α} {t : TypeId} {fs : Array Field} {ok : α → Prop} (ht : P.underlying t = some (.struct fs)) (hc : P.cellsOf t = d.sz) (h : OpensF enc P W d fs.toList 0 ok) (f : β → α) (g : α → β) (hfg : ∀ a, f (g a) = a) :
    Opens enc P W (Kd.iso d f) t (fun y => ok (f y)) := fun fuel cs x hx hw => by
  obtain ⟨xs, n, rfl, rfl, hl, hn, hf⟩ := DataW.trod_struct ht hx
  simp only [DataW.weights, ht] at hw
  obtain ⟨a, ha, hk⟩ := h n cs xs (by rw [hl, hc]) (by simpa using hn) (fun i f' hi => by
    rw [Nat.sub_zero]
    exact hf i f' (by simpa using hi)) hw
  exact ⟨g a, by show d.K W (f (g a)) cs; rw [hfg]; exact ha, by show ok (f (g a)); rw [hfg]; exact hk⟩
end
end Go.Proofs.YtceibabhmomfiaaDoor.H

/- Arguments that are bytes or charts, opened. -/
namespace Go.Proofs.YtceibabhmomfiaaDoor.H
open Go.RowKit Go.Proofs.YtceibabhmomfiaaDoorW.PrintWords
set_option linter.unusedVariables false

section
variable {H : Type} {enc : TypeId × Value → H} {W : World}
def I64 (n : Int) : Prop := (Lit.int .i64 n).wf = true
theorem I64.ok {n : Int} (h : I64 n) : -9223372036854775808 ≤ n ∧ n ≤ 9223372036854775807 := by
  have h1 : IntKind.i64.min = -9223372036854775808 := by decide
  have h2 : IntKind.i64.max = 9223372036854775807 := by decide
  unfold I64 at h
  simp [Lit.wf] at h
  omega
theorem opens_int : Opens enc Tryd.prog W (Kd.int .i64) 3 I64 := Opens.int Tryd.underlying3
def AInts (l : List Int) : Prop := l.length * 8 ≤ 140737488351232 ∧ ∀ x ∈ l, I64 x
theorem opens_ints : Opens enc Tryd.prog W (Kd.slice 3 (Kd.int .i64)) 52 AInts := Opens.slice Tryd.underlying52 (by kernel_rfl) (by kernel_rfl) opens_int
def U8 (n : Int) : Prop := (Lit.int .u8 n).wf = true
theorem U8.ok {n : Int} (h : U8 n) : 0 ≤ n ∧ n ≤ 255 := by
  have h1 : IntKind.u8.min = 0 := by decide
  have h2 : IntKind.u8.max = 255 := by decide
  unfold U8 at h
  simp [Lit.wf] at h
  omega
def ABytes (l : List Int) : Prop := l.length * 1 ≤ 140737488351232 ∧ ∀ x ∈ l, U8 x
theorem opens_bytes : Opens enc Tryd.prog W (Kd.slice 5 (Kd.int .u8)) 22 ABytes := Opens.slice Tryd.underlying22 (by kernel_rfl) (by kernel_rfl) (Opens.int Tryd.underlying5)
structure ALoc (x : SLoc) : Prop where
  f0 : I64 x.f0
  f1 : I64 x.f1
theorem opens_loc : Opens enc Tryd.prog W kLoc 50 ALoc :=
  (Opens.struct Tryd.underlying50 (by kernel_rfl) (OpensF.cons rfl (by kernel_rfl) (by decide) opens_int <| OpensF.last rfl (by kernel_rfl) opens_int) (fun x : SLoc => (x.f0, x.f1)) (fun y => ⟨y.1, y.2⟩) (fun _ => rfl)).mono fun x h => ⟨h.1, h.2⟩
structure APair (x : SPair) : Prop where
  f0 : ALoc x.f0
  f1 : ALoc x.f1
theorem opens_pair : Opens enc Tryd.prog W kPair 73 APair :=
  (Opens.struct Tryd.underlying73 (by kernel_rfl) (OpensF.cons rfl (by kernel_rfl) (by decide) opens_loc <| OpensF.last rfl (by kernel_rfl) opens_loc) (fun x : SPair => (x.f0, x.f1)) (fun y => ⟨y.1, y.2⟩) (fun _ => rfl)).mono fun x h => ⟨h.1, h.2⟩
structure AChart (x : SChart) : Prop where
  f0 : I64 x.f0
  l1 : x.f1.length * 16 ≤ 140737488351232
  f1 : ∀ y ∈ x.f1, ALoc y
  l2 : x.f2.length * 32 ≤ 140737488351232
  f2 : ∀ y ∈ x.f2, APair y
theorem opens_chart : Opens enc Tryd.prog W kChart 36 AChart :=
  (Opens.struct Tryd.underlying36 (by kernel_rfl) (OpensF.cons rfl (by kernel_rfl) (by decide) opens_int <| OpensF.cons rfl (by kernel_rfl) (by decide) (Opens.slice Tryd.underlying33 (by kernel_rfl) (by kernel_rfl) opens_loc) <| OpensF.last rfl (by kernel_rfl) (Opens.slice Tryd.underlying34 (by kernel_rfl) (by kernel_rfl) opens_pair)) (fun x : SChart => (x.f0, x.f1, x.f2)) (fun y => ⟨y.1, y.2.1, y.2.2⟩) (fun _ => rfl)).mono fun x h => ⟨h.1, h.2.1.1, h.2.1.2, h.2.2.1, h.2.2.2⟩
def ACharts (l : List SChart) : Prop := l.length * 56 ≤ 140737488351232 ∧ ∀ x ∈ l, AChart x
theorem opens_charts : Opens enc Tryd.prog W (Kd.slice 36 kChart) 24 ACharts := Opens.slice Tryd.underlying24 (by kernel_rfl) (by kernel_rfl) opens_chart
end
end Go.Proofs.YtceibabhmomfiaaDoor.H

/- Layer 3: the code decodes charts as the reference does. -/
namespace Go.Proofs.YtceibabhmomfiaaDoor.H
open Go.RowKit Go.Proofs.YtceibabhmomfiaaDoorW.PrintWords Go.Proofs.YtceibabhmomfiaaDoorW.PrintLast
set_option linter.unusedVariables false
set_option linter.unusedSimpArgs false
set_option maxRecDepth 100000

theorem few_dec {m : List Int} (hb : ByL m) : FewC (dcL m) := by
  by_cases h : dcE m = 0
  · exact few_of (dec_just hb h).1
  · rw [dec_none h]; exact ⟨by simp, fun c hc => by cases hc⟩
set_option maxHeartbeats 4000000 in
theorem PackDecodes_walk (B : Option Addr) (d : Nat) (m : List Int) (w : World) (hG : GlobA w.heap.size w) (HB : RdB w B m) (hd : m.length ≤ d) (hm : Bytes m) :
    Calls Tryd.prog 3 #[.slice B m.length d] w fun e w' => e = .returned (.bool true) ∧ Bel w w' := by
  have hal := Aside0.mk (alive_any w hG)
  go_enter Tryd.func3, Tryd.ntmps3
  go_upto_region 3 with (go_at_call 12; ((with_reducible refine hal.out.mono ?_); rintro e w1 ⟨rfl, hB1⟩))
  by_cases hmore : 4000 < m.length
  · go_wp2
    go_ret
    exact ⟨rfl, hB1⟩
  have hdm := Decode_any B d m w1 (hG.later hB1) hd (HB.step hB1) hm (by omega)
  have hrm := Aside0.mk (fun W (k : Bel w1 W) => DecodeRef_any B d m W hd (HB.step (hB1.trans k)) hm (by omega))
  have hfew := few_dec hm.out
  obtain ⟨x, hx⟩ : ∃ x, dcE m = x := ⟨_, rfl⟩
  obtain ⟨fs, hfs⟩ : ∃ f, dcL m = f := ⟨_, rfl⟩
  rw [hx, hfs] at hdm hrm
  rw [hfs] at hfew
  replace hdm := Aside0.mk hdm
  clear hx hfs
  have b0 : (x == x) = true := by simp
  go_upto_region 7 with (first | (go_at_call 13; (with_reducible refine hdm.out.mono ?_); rintro e w5 ⟨v5, rfl, hv5, hB5⟩; obtain ⟨A5, c5, rfl, _, hR5⟩ := hv5.reads) | (go_at_call 14; (with_reducible refine (hrm.out _ hB5).mono ?_); rintro e w7 ⟨v7, rfl, hv7, hB7⟩; obtain ⟨A7, c7, rfl, _, hR7⟩ := hv7.reads))
  have hsm := Aside0.mk ((rSame_any A5 A7 c5 c7 fs fs w7 (hR5.step hB7) hR7 ⟨hfew⟩ ⟨hfew⟩).mono (fun e w' h => h.yes rfl))
  go_wp2_with (go_at_call 15; (with_reducible refine hsm.out.mono ?_); rintro e w9 ⟨rfl, hB9⟩)
  go_ret
  exact ⟨rfl, hB1.trans (hB5.trans (hB7.trans hB9))⟩
theorem PackDecodes_row (A0 : Option Addr) (c0 : Nat) (l0 : List Int) (w : World) (hG : GlobA w.heap.size w) (H0 : RdB w A0 l0) (k0 : l0.length ≤ c0) (o0 : ABytes l0) :
    Calls Tryd.prog 3 #[.slice A0 l0.length c0] w fun e w' => e = .returned (.bool true) ∧ Bel w w' := PackDecodes_walk A0 c0 l0 w hG H0 k0 ⟨fun x hx => (o0.2 x hx).ok⟩
end Go.Proofs.YtceibabhmomfiaaDoor.H
