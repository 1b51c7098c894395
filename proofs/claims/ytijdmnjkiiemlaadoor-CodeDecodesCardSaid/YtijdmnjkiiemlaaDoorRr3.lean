/- Layer 3, the reference: bytes' program. -/
import Derived.Test.YtijdmnjkiiemlaaDoorRr2
import Derived.Test.YtijdmnjkiiemlaaDoorCr5
namespace Go.Proofs.YtijdmnjkiiemlaaDoor.H
open Go.RowKit Go.Proofs.YtijdmnjkiiemlaaDoorW.PrintWords Go.Proofs.YtijdmnjkiiemlaaDoorW.PrintLast
set_option linter.unusedVariables false
set_option linter.unusedSimpArgs false

section
variable {ops : Array Oper} {rest : List Oper} {o : Oper} {a : Act} {Q : Exit → Act → World → Prop}
/-- append(v, p) beside another row, in a region whose order is fixed -/
theorem app_two_ {base : Nat} {W : World} {v u : Value} {xs ys : List Int} {j : Nat} (p : Int) (H : Two base W v u xs ys) (hbase : base ≤ W.heap.size) (HR : W.heap[j]? = some (.cells #[.int .i64 p] 3 (0, 0))) (hgd : o.guard = none) (s x : Operand)
    (ho : o.op = .call { callee := .builtin .append, args := #[s, x], argTypes := #[40, 40] })
    (hl : xs.length ≤ 1000000) (hs : a.eval s = v) (hx : a.eval x = .slice (some ⟨j, 0, none⟩) 1 1)
    (h : ∀ v1 w1, Two base w1 v1 u (xs ++ [p]) ys → KT [3] base W w1 → wpList Tryd.prog ops Q rest (a.put o.dst v1) w1) :
    wpList Tryd.prog ops Q (o :: rest) a W := by
  refine Kd.R_append_rows (Kd.int .i64) (Rr := (Kd.int .i64).K W) (w0 := W) base hgd s x 40 3 (.int .i64 0) 8 ho Tryd.underlying40 info_int rfl (by decide) (by omega) v xs [p] (some ⟨j, 0, none⟩) 1 1 (fun _ => True) (fun _ => False) hs hx H.rv.out (lit_at HR).out (fun _ _ hk => hk) (fun _ hk => hk.elim) (fun _ _ => trivial) (Below.refl _ _) hbase (by omega) ?_
  intro v1 w1 ho hb hg hat
  obtain ⟨inner, hrow⟩ := Kd.R_own H.rv.out
  have hu : (Kd.int .i64).R 3 W base (fun k => u.ownBlock = some k) u ys := Kd.R_of_own (Kd.own_of_R H.ru.out) (fun _ hk => hk)
  refine h v1 w1 ⟨⟨ho⟩, ⟨Kd.R_mono (Kd.R_grown hu hg (fun k hk e => H.ap k e.symm hk)) (fun _ _ => trivial)⟩, fun k hk hk2 => ?_⟩ (KT.grown hrow hg (by simp) (Nat.le_refl _) hbase)
  rcases hat with hat | ⟨b, hat, hb⟩
  · exact H.ap k (hat ▸ hk) hk2
  · rw [hat] at hk
    injection hk with hk
    have := own_lt H.ru hk2
    omega
end
/-- one of the function's rows is another -/
theorem isF_set0 {b0 b r : Nat} {W : World} {a0 u v1 : Value} {xs ys : List Int} {p q : Int} (h : W.heap[r]? = some (.cells #[a0, v1, .int .i64 p, .int .i64 q, .slice none 0 0] 43 (0, 0))) (t : Two b0 W u v1 xs ys) (hb : b ≤ r) :
    IsF b0 (W.setCell ⟨r, 0, none⟩ u) r ⟨xs, ys, p, q, []⟩ u v1 (.slice none 0 0) ∧ KT [43] b W (W.setCell ⟨r, 0, none⟩ u) := by
  have h0 := blk_put (cs' := #[u, v1, .int .i64 p, .int .i64 q, .slice none 0 0]) h 0 u rfl
  have k : KT [43] b W (W.setCell ⟨r, 0, none⟩ u) := KT.set h (by decide) hb 0 _
  exact ⟨⟨h0, t.keep k (by decide), OwnAt.nil _ _ _ _⟩, k⟩
theorem isF_set1 {b0 b r : Nat} {W : World} {a1 u v0 : Value} {xs ys : List Int} {p q : Int} (h : W.heap[r]? = some (.cells #[v0, a1, .int .i64 p, .int .i64 q, .slice none 0 0] 43 (0, 0))) (t : Two b0 W v0 u xs ys) (hb : b ≤ r) :
    IsF b0 (W.setCell ⟨r, 1, none⟩ u) r ⟨xs, ys, p, q, []⟩ v0 u (.slice none 0 0) ∧ KT [43] b W (W.setCell ⟨r, 1, none⟩ u) := by
  have h0 := blk_put (cs' := #[v0, u, .int .i64 p, .int .i64 q, .slice none 0 0]) h 1 u rfl
  have k : KT [43] b W (W.setCell ⟨r, 1, none⟩ u) := KT.set h (by decide) hb 1 _
  exact ⟨⟨h0, t.keep k (by decide), OwnAt.nil _ _ _ _⟩, k⟩
theorem isF_set2 {b0 b r : Nat} {W : World} {v0 v1 : Value} {xs ys : List Int} {p q m : Int} (h : IsF b0 W r ⟨xs, ys, p, q, []⟩ v0 v1 (.slice none 0 0)) (hb : b ≤ r) :
    IsF b0 (W.setCell ⟨r, 2, none⟩ (.int .i64 m)) r ⟨xs, ys, m, q, []⟩ v0 v1 (.slice none 0 0) ∧ KT [43] b W (W.setCell ⟨r, 2, none⟩ (.int .i64 m)) := by
  have h0 := blk_put (cs' := #[v0, v1, .int .i64 m, .int .i64 q, .slice none 0 0]) h.blk 2 (.int .i64 m) rfl
  have k : KT [43] b W (W.setCell ⟨r, 2, none⟩ (.int .i64 m)) := KT.set h.blk (by decide) hb 2 _
  exact ⟨⟨h0, h.two.keep k (by decide), OwnAt.nil _ _ _ _⟩, k⟩
theorem isF_set3 {b0 b r : Nat} {W : World} {v0 v1 : Value} {xs ys : List Int} {p q m : Int} (h : IsF b0 W r ⟨xs, ys, p, q, []⟩ v0 v1 (.slice none 0 0)) (hb : b ≤ r) :
    IsF b0 (W.setCell ⟨r, 3, none⟩ (.int .i64 m)) r ⟨xs, ys, p, m, []⟩ v0 v1 (.slice none 0 0) ∧ KT [43] b W (W.setCell ⟨r, 3, none⟩ (.int .i64 m)) := by
  have h0 := blk_put (cs' := #[v0, v1, .int .i64 p, .int .i64 m, .slice none 0 0]) h.blk 3 (.int .i64 m) rfl
  have k : KT [43] b W (W.setCell ⟨r, 3, none⟩ (.int .i64 m)) := KT.set h.blk (by decide) hb 3 _
  exact ⟨⟨h0, h.two.keep k (by decide), OwnAt.nil _ _ _ _⟩, k⟩
theorem rd_last {W : World} {A : Option Addr} {xs : List Int} {m : Int} (h : RdI W A (xs ++ [m])) : ∃ ad, A = some ad ∧ W.cell? (ad.add xs.length) = some (.int .i64 m) := by
  obtain ⟨ad, h1, h2⟩ := rd_atN h xs.length (by simp)
  refine ⟨ad, h1, h2.trans ?_⟩
  simp [rd]

theorem rins_agg (base g : Nat) (l : List Int) (e : Int) (w : World) (hR : IsRA 73 base w g l e) :
    Calls Tryd.prog 39 #[.pointer (some ⟨g, 0, none⟩)] w fun ex w' => ∃ x v, ex = .returned (.agg #[.int .i64 x.f0, .int .i64 x.f1, .int .i64 x.f2, .int .i64 x.f3, .int .i64 x.f4, .int .i64 x.f5, v]) ∧ GotI 73 base w g l e x v w' := rins_any base g l e w hR
set_option maxHeartbeats 4000000 in
set_option maxRecDepth 100000 in
theorem DecodeRef_any (A : Option Addr) (c : Nat) (l : List Int) (w : World) (hc : l.length ≤ c) (HR : RdB w A l) (hby : Bytes l) (hl : l.length ≤ 10000000000000) :
    Calls Tryd.prog 16 #[.slice A l.length c] w fun ex w' => ∃ v, ex = .returned (.tuple #[.agg #[v], .int .i64 (decE l)]) ∧ Own kFunc 43 w w' v (decL l) ∧ Bel w w' := by
  have hB0 : Bel w ((((w.alloc (.cells #[.slice none 0 0] 24)).alloc (.cells #[.slice A l.length c, .int .i64 0] 73)).alloc (.cells #[.slice none 0 0] 24))) := (((Bel.refl w).alloc _).alloc _).alloc _
  go_enter Tryd.func16, Tryd.ntmps16
  go_upto_region 3 with (fail)
  have hr0 : (((w.alloc (.cells #[.slice none 0 0] 24)).alloc (.cells #[.slice A l.length c, .int .i64 0] 73)).alloc (.cells #[.slice none 0 0] 24)).heap[w.heap.size]? = some (.cells #[.slice none 0 0] 24 (0, 0)) := bel_blk (heap_alloc_new w _) (((Bel.refl _).alloc _).alloc _)
  have hg0 : (((w.alloc (.cells #[.slice none 0 0] 24)).alloc (.cells #[.slice A l.length c, .int .i64 0] 73)).alloc (.cells #[.slice none 0 0] 24)).heap[w.heap.size + 1]? = some (.cells #[.slice A l.length c, .int .i64 0] 73 (0, 0)) := bel_blk (heap_new' (by simp)) ((Bel.refl _).alloc _)
  have hh0 : (((w.alloc (.cells #[.slice none 0 0] 24)).alloc (.cells #[.slice A l.length c, .int .i64 0] 73)).alloc (.cells #[.slice none 0 0] 24)).heap[w.heap.size + 1 + 1]? = some (.cells #[.slice none 0 0] 24 (0, 0)) := heap_new' (by simp)
  generalize ((w.alloc (.cells #[.slice none 0 0] 24)).alloc (.cells #[.slice A l.length c, .int .i64 0] 73)).alloc (.cells #[.slice none 0 0] 24) = wa at hB0 hr0 hg0 hh0 ⊢
  have hbr := hB0.size
  have hRa : IsRA 73 w.heap.size wa (w.heap.size + 1) l 0 := ⟨⟨A, c, ⟨Nat.le_succ _, hbr, hg0, hc, RdK.came HR hB0.out RT, hby, hl⟩⟩⟩
  obtain ⟨r, hr⟩ : ∃ r, w.heap.size = r := ⟨_, rfl⟩
  obtain ⟨g, hg⟩ : ∃ g, w.heap.size + 1 = g := ⟨_, rfl⟩
  obtain ⟨h, hh⟩ : ∃ h, w.heap.size + 1 + 1 = h := ⟨_, rfl⟩
  rw [hg] at hRa
  rw [hh, hg, hr]
  rw [hr] at hr0
  rw [hh] at hh0
  have hlt1 : r < h := by omega
  replace hr := Aside0.mk hr
  replace hg := Aside0.mk hg
  replace hh := Aside0.mk hh
  replace hr0 := Aside0.mk hr0
  replace hh0 := Aside0.mk hh0
  have hcall := Aside0.mk (rupto_any 8 9 (by decide) (by decide) (by decide) (by decide) (by decide) w.heap.size g l 0 wa hRa)
  go_upto_region 4 with (go_at_call 37; ((with_reducible refine hcall.out.mono ?_); rintro ex w' ⟨n, rfl, hT, hn8⟩))
  obtain ⟨l1, e1, hran1, hR1, hz1⟩ := hT.ran
  have hK1 := Aside0.mk hT.kt
  obtain ⟨A1, c1, hr1⟩ := hR1.out
  have y1 : w'.cell? ⟨g, 1, none⟩ = some (.int .i64 e1) := blk_cell hr1.blk 1
  have g1 := blk_frozen hr1.blk 1
  replace hr1 := Aside0.mk hr1
  clear hT hcall hR1
  go_cut [23] (fun t W => ∃ b, t = .bool b ∧ Aside0 (b = decide (n = 0 ∧ e1 = 0)) ∧ w' = W)
  case first =>
    by_cases he : e1 = 0
    · have b1 : (e1 == 0) = true := by simpa using he
      by_cases hn0 : n = 0
      · have b0 : (n == 0) = true := by simpa using hn0
        have hb : Aside0 (decide (n = 0 ∧ e1 = 0) = true) := ⟨decide_eq_true ⟨hn0, he⟩⟩
        replace he := Aside0.mk he
        replace hn0 := Aside0.mk hn0
        go_wp2
        go_meet
        case rel => exact ⟨_, rfl, ⟨hb.out.symm⟩, rfl⟩
      · have b0 : (n == 0) = false := by simpa using hn0
        have hb : Aside0 (decide (n = 0 ∧ e1 = 0) = false) := ⟨decide_eq_false (fun q => hn0 q.1)⟩
        replace he := Aside0.mk he
        replace hn0 := Aside0.mk hn0
        go_wp2
        go_meet
        case rel => exact ⟨_, rfl, ⟨hb.out.symm⟩, rfl⟩
    · have b1 : (e1 == 0) = false := by simpa using he
      have hb : Aside0 (decide (n = 0 ∧ e1 = 0) = false) := ⟨decide_eq_false (fun q => he q.2)⟩
      replace he := Aside0.mk he
      go_wp2
      go_meet
      case rel => exact ⟨_, rfl, ⟨hb.out.symm⟩, rfl⟩
  case rest =>
    obtain ⟨b, rfl, hb, rfl⟩ := hcut
    go_upto_if 23 with (fail)
    go_cut [24] (fun _ W => Aside0 (IsR 73 r W g l1 (if (n == 0) = true ∧ e1 = 0 then 9 else e1) A1 c1 ∧ KT ST r w W ∧ W.heap[r]? = some (.cells #[.slice none 0 0] 24 (0, 0)) ∧ W.heap[h]? = some (.cells #[.slice none 0 0] 24 (0, 0))))
    case first =>
      have hbase := hr.out
      have hKw := (KT.of_bel hB0 (Nat.le_refl _) ST).trans hK1.out.out
      rw [hbase] at hr1 hKw
      have hrw := hK1.out.out.blk hr0.out (by decide)
      have hhw := hK1.out.out.blk hh0.out (by decide)
      cases b with
      | true =>
        have hc := Aside0.mk (of_decide_eq_true hb.out.symm)
        have hs := Aside0.mk (hr1.out.setE (by decide) 9)
        replace hKw := Aside0.mk hKw
        replace hrw := Aside0.mk hrw
        replace hhw := Aside0.mk hhw
        go_wp2
        go_meet
        case rel => exact ⟨by rw [if_pos ⟨by simpa using hc.out.1, hc.out.2⟩]; exact hs.out.1, hKw.out.trans hs.out.2, hs.out.2.blk hrw.out (by decide), hs.out.2.blk hhw.out (by decide)⟩
      | false =>
        have hc := Aside0.mk (of_decide_eq_false hb.out.symm)
        replace hKw := Aside0.mk hKw
        replace hrw := Aside0.mk hrw
        replace hhw := Aside0.mk hhw
        go_wp2
        go_meet
        case rel => exact ⟨by rw [if_neg (fun q => hc.out ⟨by simpa using q.1, q.2⟩)]; exact hr1.out, hKw.out, hrw.out, hhw.out⟩
    case rest =>
      obtain ⟨hrc, hKc, hrs, hhs⟩ := hcut.out
      have hch := Aside0.mk (Ran.chk (n == 0) (er := 9) (by decide) l1 e1)
      obtain ⟨e2, he2⟩ : ∃ e2, (if (n == 0) = true ∧ e1 = 0 then 9 else e1) = e2 := ⟨_, rfl⟩
      rw [he2] at hrc hch
      clear hcut he2 hb y1 g1 hr1 hz1 b
      have hbw : r ≤ w.heap.size := Nat.le_of_eq hr.out.symm
      replace hrs := Aside0.mk hrs
      replace hhs := Aside0.mk hhs
      replace hKc := Aside0.mk hKc
      replace hrc := Aside0.mk hrc
      go_wp2
      go_loopw [7] (fun i W => ∃ (k : Nat) (fs : List SFunc) (v : Value) (lk : List Int) (ek : Int), k ≤ n.toNat ∧ i = .int .i64 k ∧ Aside0 (Ran (pRep pFn k) l1 e2 fs lk ek) ∧ IsRA 73 r W g lk ek ∧ Aside0 (W.heap[h]? = some (.cells #[v] 24 (0, 0)) ∧ OwnAt kFunc 43 h W v fs ∧ KT ST r w W ∧ W.heap[r]? = some (.cells #[.slice none 0 0] 24 (0, 0))) ∧ Aside0 (fs.length = k)) (fun i _ => n.toNat - (intOf i).toNat)
      case atStart => exact ⟨0, [], .slice none 0 0, l1, e2, by omega, rfl, ⟨Ran.rep0 _ _ _⟩, ⟨_, _, hrc.out⟩, ⟨hhs.out, OwnAt.nil _ _ _ _, hKc.out, hrs.out⟩, ⟨rfl⟩⟩
      case round =>
        clear hrc hKc hrs hhs
        obtain ⟨k, fs, v, lk, ek, hk, rfl, hran, hRk, hC, hfs⟩ := hrel
        obtain ⟨A4, c4, hr4⟩ := hRk.out
        have y0 : wr.cell? ⟨g, 0, none⟩ = some (.slice A4 lk.length c4) := blk_cell hr4.blk 0
        have y1 : wr.cell? ⟨g, 1, none⟩ = some (.int .i64 ek) := blk_cell hr4.blk 1
        have g1 := blk_frozen hr4.blk 1
        replace hr4 := Aside0.mk hr4
        go_upto_region 7 with (fail)
        go_cut [32] (fun t W => ∃ b, t = .bool b ∧ Aside0 (b = decide (((k : Int) < n) ∧ (ek) = 0)) ∧ wr = W)
        case first =>
          by_cases h1 : (k : Int) < n
          · by_cases he : (ek) = 0
            · have b1 : ((ek) == 0) = true := by simpa using he
              have hb : Aside0 (decide (((k : Int) < n) ∧ (ek) = 0) = true) := ⟨decide_eq_true ⟨h1, he⟩⟩
              replace he := Aside0.mk he
              go_wp2
              go_meet
              case rel => exact ⟨_, rfl, ⟨hb.out.symm⟩, rfl⟩
            · have b1 : ((ek) == 0) = false := by simpa using he
              have hb : Aside0 (decide (((k : Int) < n) ∧ (ek) = 0) = false) := ⟨decide_eq_false (fun q => he q.2)⟩
              replace he := Aside0.mk he
              go_wp2
              go_meet
              case rel => exact ⟨_, rfl, ⟨hb.out.symm⟩, rfl⟩
          · have hb : Aside0 (decide (((k : Int) < n) ∧ (ek) = 0) = false) := ⟨decide_eq_false (fun q => h1 q.1)⟩
            go_wp2
            go_meet
            case rel => exact ⟨_, rfl, ⟨hb.out.symm⟩, rfl⟩
        obtain ⟨b, rfl, hb, rfl⟩ := hcut
        cases b with
        | true =>
          have hkl : (k : Int) < n := (of_decide_eq_true hb.out.symm).1
          clear hb
          rename World => wo
          have hbo : h < wo.heap.size := blk_lt hC.out.1
          have hro : r ≤ wo.heap.size := by omega
          have hBo : Bel wo (wo.alloc (.cells #[.slice none 0 0, .slice none 0 0, .int .i64 0, .int .i64 0, .slice none 0 0] 43)) := (Bel.refl wo).alloc _
          have hcall := Aside0.mk (rupto_any 48 9 (by decide) (by decide) (by decide) (by decide) (by decide) r g lk ek _ ⟨⟨A4, c4, hr4.out.step hBo⟩⟩)
          have box := Aside0.mk (heap_alloc_new wo (.cells #[.slice none 0 0, .slice none 0 0, .int .i64 0, .int .i64 0, .slice none 0 0] 43))
          clear y0 y1 g1
          go_wp2_with (go_at_call 37; ((with_reducible refine hcall.out.mono ?_); rintro ex w' ⟨na, rfl, hT, hna⟩))
          obtain ⟨l3, e3, hran3, hR3, _⟩ := hT.ran
          have hK3 := Aside0.mk ((KT.of_bel hBo hro ST).trans hT.kt.out)
          have hb3 := Aside0.mk (hT.kt.out.blk box.out (by decide))
          obtain ⟨fb, hfb⟩ : ∃ q, wo.heap.size = q := ⟨_, rfl⟩
          rw [hfb] at hb3 hbo ⊢
          have hrf : r ≤ fb := by rw [← hfb]; exact hro
          replace hfb := Aside0.mk hfb
          clear hT hcall box hBo
          go_loopw [9] (fun i W => ∃ (j : Nat) (n2 : Int) (ks : List (Int × Int)) (v0 v1 : Value) (lj : List Int) (ej : Int), j ≤ na.toNat ∧ i = .int .i64 n2 ∧ n2 ≤ na - j ∧ na - j ≤ n2 ∧ Aside0 (Ran (pRep pKind j) l3 e3 ks lj ej) ∧ IsRA 73 r W g lj ej ∧ Aside0 (IsF fb W fb ⟨ks.map Prod.fst, ks.map Prod.snd, 0, 0, []⟩ v0 v1 (.slice none 0 0) ∧ KT ST r wo W) ∧ Aside0 (ks.length = j)) (fun i _ => (intOf i).toNat)
          case atStart => exact ⟨0, na, [], .slice none 0 0, .slice none 0 0, l3, e3, by omega, rfl, by omega, by omega, ⟨Ran.rep0 _ _ _⟩, hR3, ⟨⟨hb3.out, ⟨OwnAt.nil _ _ _ _, OwnAt.nil _ _ _ _, by simp [Value.ownBlock]⟩, OwnAt.nil _ _ _ _⟩, hK3.out⟩, ⟨rfl⟩⟩
          case round =>
            clear hR3 hK3 hb3
            obtain ⟨j, n2, ks, v0, v1, lj, ej, hj, rfl, hn2, hn3, hranj, hRj, hF, hkj⟩ := hrel
            obtain ⟨A5, c5, hr5⟩ := hRj.out
            have y1 : wr.cell? ⟨g, 1, none⟩ = some (.int .i64 ej) := blk_cell hr5.blk 1
            replace hr5 := Aside0.mk hr5
            go_upto_region 11 with (fail)
            go_cut [42] (fun t W => ∃ b, t = .bool b ∧ Aside0 (b = decide ((0 < n2) ∧ (ej) = 0)) ∧ wr = W)
            case first =>
              by_cases h1 : 0 < n2
              · by_cases he : (ej) = 0
                · have b1 : ((ej) == 0) = true := by simpa using he
                  have hb : Aside0 (decide ((0 < n2) ∧ (ej) = 0) = true) := ⟨decide_eq_true ⟨h1, he⟩⟩
                  replace he := Aside0.mk he
                  go_wp2
                  go_meet
                  case rel => exact ⟨_, rfl, ⟨hb.out.symm⟩, rfl⟩
                · have b1 : ((ej) == 0) = false := by simpa using he
                  have hb : Aside0 (decide ((0 < n2) ∧ (ej) = 0) = false) := ⟨decide_eq_false (fun q => he q.2)⟩
                  replace he := Aside0.mk he
                  go_wp2
                  go_meet
                  case rel => exact ⟨_, rfl, ⟨hb.out.symm⟩, rfl⟩
              · have hb : Aside0 (decide ((0 < n2) ∧ (ej) = 0) = false) := ⟨decide_eq_false (fun q => h1 q.1)⟩
                go_wp2
                go_meet
                case rel => exact ⟨_, rfl, ⟨hb.out.symm⟩, rfl⟩
            obtain ⟨b, rfl, hb, rfl⟩ := hcut
            clear y1
            cases b with
            | true =>
              have hc := of_decide_eq_true hb.out.symm
              have hn20 := hc.1
              clear hc hb
              have hcall := Aside0.mk (fun (W : World) (q : Bel wr W) => rupto_any 2 5 (by decide) (by decide) (by decide) (by decide) (by decide) r g lj ej W ⟨⟨A5, c5, hr5.out.step q⟩⟩)
              obtain ⟨y0, hy0⟩ : ∃ y, ks.map Prod.fst = y := ⟨_, rfl⟩
              obtain ⟨y1, hy1⟩ : ∃ y, ks.map Prod.snd = y := ⟨_, rfl⟩
              have hy0l : y0.length ≤ 48 := by rw [← hy0, List.length_map, hkj.out]; omega
              have hy1l : y1.length ≤ 48 := by rw [← hy1, List.length_map, hkj.out]; omega
              rw [hy0, hy1] at hF
              replace hy0 := Aside0.mk hy0
              replace hy1 := Aside0.mk hy1
              have hTw : Aside0 (Two fb wr v0 v1 y0 y1) := ⟨hF.out.1.two⟩
              have hblk : wr.heap[fb]? = some (.cells #[v0, v1, .int .i64 0, .int .i64 0, .slice none 0 0] 43 (0, 0)) := hF.out.1.blk
              have hKj := Aside0.mk hF.out.2
              clear hF
              obtain ⟨A0, c0, rfl, _, _⟩ := hTw.out.rv.reads
              obtain ⟨A1, c1, rfl, _, _⟩ := hTw.out.ru.reads
              have cz : wr.cell? ⟨fb, 0, none⟩ = some (.slice A0 y0.length c0) := blk_cell hblk 0
              have hfw : fb ≤ wr.heap.size := Nat.le_of_lt (blk_lt hblk)
              replace hblk := Aside0.mk hblk
              go_upto_region 13 with (fail)
              go_cut [50] (fun _ W => ∃ (kd : Int) (l4 : List Int) (e4 : Int) (ad : Addr) (c2 : Nat), Aside0 (Ran (pUp 2 5) lj ej kd l4 e4) ∧ IsRA 73 r W g l4 e4 ∧ Aside0 (KT ST r wo W) ∧ Aside0 (IsF fb W fb ⟨y0 ++ [kd], y1, 0, 0, []⟩ (.slice (some ad) (y0.length + 1) c2) (.slice A1 y1.length c1) (.slice none 0 0)) ∧ W.cell? (ad.add y0.length) = some (.int .i64 kd))
              case first =>
                go_region_law (first | (refine goes_ (f := 37) Tryd.func37 (by kernel_rfl) rfl #[.pointer (some ⟨g, 0, none⟩), .int .i64 2, .int .i64 5] rfl rfl rfl (by simp only [List.map_toArray, List.map_cons, List.map_nil]; rfl) ?_; refine (hcall.out _ ((Bel.refl wr).drewN 1)).mono ?_; rintro ex w' ⟨kd, rfl, hT, hkd2⟩; refine ⟨_, rfl, ?_⟩; have hbk := hT.kt.out.blk (bel_blk hblk.out ((Bel.refl wr).drewN 1)) (by decide); have cz' := blk_cell hbk 0; have cl' := blk_lt hbk; have cz3 := blk_cell (bel_blk hbk ((Bel.refl w').alloc (.cells #[.int .i64 kd] 3))) 0) | (refine app_two_step kd (((hTw.out.step ((Bel.refl wr).drewN 1)).keep hT.kt.out (by decide)).step ?_) (le_bel (Nat.le_of_lt cl') ?_) ?_ rfl _ _ rfl ?_ rfl rfl ?_; (repeat (first | exact Bel.refl _ | refine Bel.alloc ?_ _ | refine Bel.drewN ?_ 1)); (repeat (first | exact Bel.refl _ | refine Bel.alloc ?_ _ | refine Bel.drewN ?_ 1)); (first | exact heap_new' (by first | rfl | (simp; done)) | exact heap_old (heap_new' (by first | rfl | (simp; done)))); (omega); intro v2 w1 hT1 hK1 hk1; obtain ⟨A2, c2, rfl, _, hrd⟩ := hT1.rv.reads; have hbk1 := hK1.blk (bel_blk hbk (by (repeat (first | exact Bel.refl _ | refine Bel.alloc ?_ _ | refine Bel.drewN ?_ 1)))) (by decide); have cz'' := blk_cell hbk1 0; have fz'' := blk_frozen hbk1 0; have hKw := (KT.of_bel (show Bel w' _ by (repeat (first | exact Bel.refl _ | refine Bel.alloc ?_ _ | refine Bel.drewN ?_ 1))) (Nat.le_of_lt cl') [3]).trans hK1))
                all_goals
                  have hs := isF_set0 (b := fb) hbk1 hT1 (Nat.le_refl _)
                  have hKT : KT [3, 43] fb w' _ := (hKw.mono (Nat.le_refl _) (by decide)).trans (hs.2.mono (Nat.le_refl _) (by decide))
                  replace hs := And.intro hs.1 hKT
                  clear hKT
                  simp only [List.length_append, List.length_cons, List.length_nil, Nat.zero_add] at hs
                  generalize w1.setCell ⟨fb, 0, none⟩ (.slice A2 (y0.length + 1) c2) = ws at hs ⊢
                  obtain ⟨l4, e4, hran4, hR4, _⟩ := hT.ran
                  have hRs : IsRA 73 r ws g l4 e4 := by
                    obtain ⟨A9, c9, hr9⟩ := hR4.out
                    exact ⟨⟨_, _, hr9.keep (hs.2.mono hrf (fun _ z => z)) (by decide) (by decide)⟩⟩
                  have hKs : Aside0 (KT ST r wo ws) := ⟨((hKj.out.trans (KT.of_bel ((Bel.refl wr).drewN 1) (Nat.le_trans hrf hfw) ST)).trans hT.kt.out).after (by rw [hfb.out]; exact hs.2.below) hro⟩
                  obtain ⟨A6, c6, he, _, hrl⟩ := hs.1.two.rv.reads
                  injection he with he1 _ _
                  rw [← he1] at hrl
                  obtain ⟨ad, rfl, hlast⟩ := rd_last hrl
                  have z0 : ws.cell? ⟨fb, 0, none⟩ = some (.slice (some ad) (y0.length + 1) c2) := blk_cell hs.1.blk 0
                  have hs1 := Aside0.mk hs.1
                  clear hs
                  go_wp2
                  go_meet
                  case rel => exact ⟨kd, l4, e4, ad, c2, ⟨hran4.out⟩, hRs, hKs, hs1, hlast⟩
              case rest =>
                clear cz hTw hblk hcall hr5 hKj hfw
                obtain ⟨kd, l4, e4, ad, c2, hran4, hRs, hKs, hs, hlast⟩ := hcut
                have z0 : wc.cell? ⟨fb, 0, none⟩ = some (.slice (some ad) (y0.length + 1) c2) := blk_cell hs.out.blk 0
                rename World => ws
                go_upto_if 59 with (fail)
                go_cut [10] (fun b W => ∃ (bd : Int) (l5 : List Int) (e5 : Int), b = .int .i64 bd ∧ Aside0 (Ran pKind lj ej (kd, bd) l5 e5) ∧ IsRA 73 r W g l5 e5 ∧ Aside0 (KT ST r ws W))
                case first =>
                  by_cases hk22 : kd = 2
                  · have b1 : (kd == 2) = true := by simpa using hk22
                    replace hk22 := Aside0.mk hk22
                    have hcall := Aside0.mk (rnum_any r g l4 e4 ws hRs)
                    go_wp2_with (go_at_call 38; ((with_reducible refine hcall.out.mono ?_); rintro ex w'' ⟨bd, rfl, hT⟩))
                    go_meet
                    case rel =>
                      obtain ⟨l5, e5, hran5, hR5, _⟩ := hT.ran
                      refine ⟨bd, l5, e5, rfl, ⟨hran4.out.bind ?_⟩, hR5, hT.kt⟩
                      rw [if_pos hk22.out]
                      exact hran5.out.bind (Ran.ret _ _ _)
                  · have b1 : (kd == 2) = false := by simpa using hk22
                    replace hk22 := Aside0.mk hk22
                    go_wp2
                    go_meet
                    case rel =>
                      refine ⟨-1, l4, e4, rfl, ⟨hran4.out.bind ?_⟩, hRs, ⟨KT.refl _ _ _⟩⟩
                      rw [if_neg hk22.out]
                      exact Ran.ret _ _ _
                case rest =>
                  obtain ⟨bd, l5, e5, rfl, hran5, hR5, hkt5⟩ := hcut
                  clear hRs hran4 z0 hlast
                  have hF5 := Aside0.mk (hs.out.keep hkt5.out)
                  have hb5 : wc.heap[fb]? = some (.cells #[.slice (some ad) (y0.length + 1) c2, .slice A1 y1.length c1, .int .i64 0, .int .i64 0, .slice none 0 0] 43 (0, 0)) := hF5.out.blk
                  have x1 : wc.cell? ⟨fb, 1, none⟩ = some (.slice A1 y1.length c1) := blk_cell hb5 1
                  have xl := blk_lt hb5
                  replace hb5 := Aside0.mk hb5
                  have hTc : Aside0 (Two fb wc (.slice A1 y1.length c1) (.slice (some ad) (y0.length + 1) c2) y1 (y0 ++ [kd])) := ⟨hF5.out.two.swap⟩
                  clear hF5
                  go_wp2_with ((with_reducible refine gate_b (b := .append) rfl ?_); (refine app_two_ bd (hTc.out.step ?_) (le_bel (Nat.le_of_lt xl) ?_) ?_ rfl _ _ rfl ?_ rfl rfl ?_); (repeat (first | exact Bel.refl _ | refine Bel.alloc ?_ _ | refine Bel.drewN ?_ 1)); (repeat (first | exact Bel.refl _ | refine Bel.alloc ?_ _ | refine Bel.drewN ?_ 1)); (first | exact heap_new' (by first | rfl | (simp; done)) | exact heap_old (heap_new' (by first | rfl | (simp; done)))); (omega); intro v2 w2 hT2 hK2; obtain ⟨A3, c3, rfl, _, _⟩ := hT2.rv.reads; have hb2 := hK2.blk (bel_blk hb5.out (by (repeat (first | exact Bel.refl _ | refine Bel.alloc ?_ _ | refine Bel.drewN ?_ 1)))) (by decide); have cz2 := blk_cell hb2 1; have fz2 := blk_frozen hb2 1; have hKw := (KT.of_bel (show Bel wc _ by (repeat (first | exact Bel.refl _ | refine Bel.alloc ?_ _ | refine Bel.drewN ?_ 1))) (Nat.le_of_lt xl) [3]).trans hK2)
                  have hs1 := isF_set1 (b := fb) hb2 hT2.swap (Nat.le_refl _)
                  have hKT : KT [3, 43] fb wc _ := (hKw.mono (Nat.le_refl _) (by decide)).trans (hs1.2.mono (Nat.le_refl _) (by decide))
                  replace hs := And.intro hs1.1 hKT
                  clear hKT hs1
                  simp only [List.length_append, List.length_cons, List.length_nil, Nat.zero_add] at hs
                  replace hs := Aside0.mk hs
                  go_roundw
                  case rel =>
                    obtain ⟨A9, c9, hr9⟩ := hR5.out
                    refine ⟨j + 1, n2 - 1, ks ++ [(kd, bd)], .slice (some ad) (y0.length + 1) c2, .slice A3 (y1.length + 1) c3, l5, e5, by omega, by go_num, by omega, by omega, ⟨hranj.out.rep1 hran5.out⟩, ⟨_, _, hr9.keep (hs.out.2.mono hrf (fun _ z => z)) (by decide) (by decide)⟩, ⟨?_, (hKs.out.trans hkt5.out).after (by rw [hfb.out]; exact hs.out.2.below) hro⟩, ⟨by rw [List.length_append, hkj.out]; rfl⟩⟩
                    rw [List.map_append, List.map_append, hy0.out, hy1.out]
                    exact hs.out.1
                  case measure => simp [intOf]; omega
            | false =>
              have hfk : Aside0 (Ran (pRep pKind na.toNat) l3 e3 ks lj ej) := ⟨by
                have hn := of_decide_eq_false hb.out.symm
                by_cases h1 : 0 < n2
                · exact Ran.early hranj.out (fun q => hn ⟨h1, q⟩) hj ks
                · have hkk : j = na.toNat := by omega
                  rw [← hkk]; exact hranj.out⟩
              have hkj48 : ks.length ≤ 48 := by rw [hkj.out]; omega
              clear hb hranj hn2 hn3 hj hr5 hkj
              obtain ⟨y0, hy0⟩ : ∃ y, ks.map Prod.fst = y := ⟨_, rfl⟩
              obtain ⟨y1, hy1⟩ : ∃ y, ks.map Prod.snd = y := ⟨_, rfl⟩
              rw [hy0, hy1] at hF
              replace hy0 := Aside0.mk hy0
              replace hy1 := Aside0.mk hy1
              obtain ⟨A0, c0, hA0, _, _⟩ := hF.out.1.two.rv.reads
              obtain ⟨A1, c1, hA1, _, _⟩ := hF.out.1.two.ru.reads
              replace hA0 : v0 = .slice A0 y0.length c0 := hA0
              replace hA1 : v1 = .slice A1 y1.length c1 := hA1
              subst hA0 hA1
              have hnum := Aside0.mk (rnum_any r g lj ej wr hRj)
              go_upto_region 19 with (go_at_call 38; ((with_reducible refine hnum.out.mono ?_); rintro ex w' ⟨p, rfl, hTp⟩; have b1 := hTp.kt.out.blk hF.out.1.blk (by decide); have x2 := blk_cell b1 2; have f2 := blk_frozen b1 2))
              have hs2 := isF_set2 (b := fb) (m := p) (hF.out.1.keep hTp.kt.out) (Nat.le_refl _)
              obtain ⟨l4, e4, hran4, hR4, _⟩ := hTp.ran
              have hKp := Aside0.mk ((hF.out.2.trans hTp.kt.out).after (by rw [hfb.out]; exact hs2.2.below) hro)
              have hRp : IsRA 73 r (w'.setCell ⟨fb, 2, none⟩ (.int .i64 p)) g l4 e4 := by
                obtain ⟨A9, c9, hr9⟩ := hR4.out
                exact ⟨⟨_, _, hr9.keep (hs2.2.mono hrf (fun _ z => z)) (by decide) (by decide)⟩⟩
              have hFp := Aside0.mk hs2.1
              clear hs2 hTp b1 x2 f2 hR4 hF hnum hRj
              generalize w'.setCell ⟨fb, 2, none⟩ (.int .i64 p) = wp at hKp hRp hFp ⊢
              have hnum := Aside0.mk (rnum_any r g l4 e4 wp hRp)
              go_upto_region 20 with (go_at_call 38; ((with_reducible refine hnum.out.mono ?_); rintro ex w' ⟨q, rfl, hTq⟩; have b1 := hTq.kt.out.blk hFp.out.blk (by decide); have x2 := blk_cell b1 3; have f2 := blk_frozen b1 3))
              have hs2 := isF_set3 (b := fb) (m := q) (hFp.out.keep hTq.kt.out) (Nat.le_refl _)
              obtain ⟨l5, e5, hran5, hR5, _⟩ := hTq.ran
              have hKq := Aside0.mk ((hKp.out.trans hTq.kt.out).after (by rw [hfb.out]; exact hs2.2.below) hro)
              have hRq : IsRA 73 r (w'.setCell ⟨fb, 3, none⟩ (.int .i64 q)) g l5 e5 := by
                obtain ⟨A9, c9, hr9⟩ := hR5.out
                exact ⟨⟨_, _, hr9.keep (hs2.2.mono hrf (fun _ z => z)) (by decide) (by decide)⟩⟩
              have hFq := Aside0.mk hs2.1
              clear hs2 hTq b1 x2 f2 hR5 hFp hnum hRp hKp
              generalize w'.setCell ⟨fb, 3, none⟩ (.int .i64 q) = wq at hKq hRq hFq ⊢
              have hcall := Aside0.mk (rupto_any 40 9 (by decide) (by decide) (by decide) (by decide) (by decide) r g l5 e5 wq hRq)
              go_wp2_with (go_at_call 37; ((with_reducible refine hcall.out.mono ?_); rintro ex w' ⟨m, rfl, hT, hm40⟩))
              obtain ⟨l6, e6, hran6, hR6, _⟩ := hT.ran
              have hK6 := Aside0.mk (hKq.out.trans hT.kt.out)
              have hF6 := Aside0.mk (hFq.out.keep hT.kt.out)
              clear hT hcall hKq hRq hFq
              go_loopw [11] (fun i W => ∃ (j : Nat) (m2 : Int) (bl : List SBlock) (v4 : Value) (lb : List Int) (eb : Int), j ≤ m.toNat ∧ i = .int .i64 m2 ∧ m2 ≤ m - j ∧ m - j ≤ m2 ∧ Aside0 (Ran (pRep pBlock j) l6 e6 bl lb eb) ∧ IsRA 73 r W g lb eb ∧ Aside0 (IsF fb W fb ⟨y0, y1, p, q, bl⟩ (.slice A0 y0.length c0) (.slice A1 y1.length c1) v4 ∧ KT ST r wo W) ∧ Aside0 (bl.length = j)) (fun i _ => (intOf i).toNat)
              case atStart => exact ⟨0, m, [], .slice none 0 0, l6, e6, by omega, rfl, by omega, by omega, ⟨Ran.rep0 _ _ _⟩, hR6, ⟨hF6.out, hK6.out⟩, ⟨rfl⟩⟩
              case round =>
                clear hR6 hK6 hF6
                obtain ⟨j, m2, bl, v4, lb, eb, hj, rfl, hm2, hm3, hranj, hRb, hFj, hblj⟩ := hrel
                obtain ⟨A6, c6, hr6⟩ := hRb.out
                have y1' : wr.cell? ⟨g, 1, none⟩ = some (.int .i64 eb) := blk_cell hr6.blk 1
                replace hr6 := Aside0.mk hr6
                go_upto_region 21 with (fail)
                go_cut [78] (fun t W => ∃ b, t = .bool b ∧ Aside0 (b = decide ((0 < m2) ∧ (eb) = 0)) ∧ wr = W)
                case first =>
                  by_cases h1 : 0 < m2
                  · by_cases he : (eb) = 0
                    · have b1 : ((eb) == 0) = true := by simpa using he
                      have hb : Aside0 (decide ((0 < m2) ∧ (eb) = 0) = true) := ⟨decide_eq_true ⟨h1, he⟩⟩
                      replace he := Aside0.mk he
                      go_wp2
                      go_meet
                      case rel => exact ⟨_, rfl, ⟨hb.out.symm⟩, rfl⟩
                    · have b1 : ((eb) == 0) = false := by simpa using he
                      have hb : Aside0 (decide ((0 < m2) ∧ (eb) = 0) = false) := ⟨decide_eq_false (fun q => he q.2)⟩
                      replace he := Aside0.mk he
                      go_wp2
                      go_meet
                      case rel => exact ⟨_, rfl, ⟨hb.out.symm⟩, rfl⟩
                  · have hb : Aside0 (decide ((0 < m2) ∧ (eb) = 0) = false) := ⟨decide_eq_false (fun q => h1 q.1)⟩
                    go_wp2
                    go_meet
                    case rel => exact ⟨_, rfl, ⟨hb.out.symm⟩, rfl⟩
                obtain ⟨b, rfl, hb, rfl⟩ := hcut
                clear y1'
                cases b with
                | true =>
                  have hc := of_decide_eq_true hb.out.symm
                  have hm20 := hc.1
                  clear hc hb
                  have hrw : r ≤ wr.heap.size := Nat.le_trans hro hFj.out.2.size
                  have hfw : fb ≤ wr.heap.size := Nat.le_of_lt (blk_lt hFj.out.1.blk)
                  have hB3 : Bel wr (wr.alloc (.cells #[.slice none 0 0] 48)) := (Bel.refl wr).alloc _
                  have box3 := Aside0.mk (heap_alloc_new wr (.cells #[.slice none 0 0] 48))
                  have hcall := Aside0.mk (rupto_any 40 9 (by decide) (by decide) (by decide) (by decide) (by decide) r g lb eb (wr.alloc (.cells #[.slice none 0 0] 48)) ⟨⟨A6, c6, hr6.out.step hB3⟩⟩)
                  go_wp2_with (go_at_call 37; ((with_reducible refine hcall.out.mono ?_); rintro ex w' ⟨mc, rfl, hT, hmc40⟩))
                  obtain ⟨l7, e7, hran7, hR7, _⟩ := hT.ran
                  have hK7 := Aside0.mk ((KT.of_bel hB3 hrw ST).trans hT.kt.out)
                  have hb7 := Aside0.mk (hT.kt.out.blk box3.out (by decide))
                  obtain ⟨b2, hb2e⟩ : ∃ b, wr.heap.size = b := ⟨_, rfl⟩
                  rw [hb2e] at hb7 hrw hfw ⊢
                  replace hb2e := Aside0.mk hb2e
                  clear hT hcall box3 hB3 hRb hr6
                  go_loopw [13] (fun i W => ∃ (i2 : Nat) (m3 : Int) (cd : List SIns) (vc : Value) (lc : List Int) (ec : Int), i2 ≤ mc.toNat ∧ i = .int .i64 m3 ∧ m3 ≤ mc - i2 ∧ mc - i2 ≤ m3 ∧ Aside0 (Ran (pRep pIns i2) l7 e7 cd lc ec) ∧ IsRA 73 r W g lc ec ∧ Aside0 (W.heap[b2]? = some (.cells #[vc] 48 (0, 0)) ∧ OwnAt kIns 45 b2 W vc cd ∧ KT ST r wr W) ∧ Aside0 (cd.length = i2)) (fun i _ => (intOf i).toNat)
                  case atStart => exact ⟨0, mc, [], .slice none 0 0, l7, e7, by omega, rfl, by omega, by omega, ⟨Ran.rep0 _ _ _⟩, hR7, ⟨hb7.out, OwnAt.nil _ _ _ _, hK7.out⟩, ⟨rfl⟩⟩
                  case round =>
                    clear hR7 hK7 hb7
                    obtain ⟨i2, m3, cd, vc, lc, ec, hi2, rfl, hm4, hm5, hranc, hRc, hC2, hcd⟩ := hrel
                    obtain ⟨A7, c7, hr7⟩ := hRc.out
                    have y1' : wr.cell? ⟨g, 1, none⟩ = some (.int .i64 ec) := blk_cell hr7.blk 1
                    replace hr7 := Aside0.mk hr7
                    go_upto_region 25 with (fail)
                    go_cut [88] (fun t W => ∃ b, t = .bool b ∧ Aside0 (b = decide ((0 < m3) ∧ (ec) = 0)) ∧ wr = W)
                    case first =>
                      by_cases h1 : 0 < m3
                      · by_cases he : (ec) = 0
                        · have b1 : ((ec) == 0) = true := by simpa using he
                          have hb : Aside0 (decide ((0 < m3) ∧ (ec) = 0) = true) := ⟨decide_eq_true ⟨h1, he⟩⟩
                          replace he := Aside0.mk he
                          go_wp2
                          go_meet
                          case rel => exact ⟨_, rfl, ⟨hb.out.symm⟩, rfl⟩
                        · have b1 : ((ec) == 0) = false := by simpa using he
                          have hb : Aside0 (decide ((0 < m3) ∧ (ec) = 0) = false) := ⟨decide_eq_false (fun q => he q.2)⟩
                          replace he := Aside0.mk he
                          go_wp2
                          go_meet
                          case rel => exact ⟨_, rfl, ⟨hb.out.symm⟩, rfl⟩
                      · have hb : Aside0 (decide ((0 < m3) ∧ (ec) = 0) = false) := ⟨decide_eq_false (fun q => h1 q.1)⟩
                        go_wp2
                        go_meet
                        case rel => exact ⟨_, rfl, ⟨hb.out.symm⟩, rfl⟩
                    obtain ⟨b, rfl, hb, rfl⟩ := hcut
                    clear y1'
                    cases b with
                    | true =>
                      have hc := of_decide_eq_true hb.out.symm
                      have hm30 := hc.1
                      clear hc hb
                      have hbr3 : b2 ≤ wr.heap.size := by have := hC2.out.2.2.size; have := hb2e.out; omega
                      have hcl : cd.length ≤ 1000 := by rw [hcd.out]; omega
                      obtain ⟨A8, c8, rfl, _, _⟩ := hC2.out.2.1.reads
                      have cz : wr.cell? ⟨b2, 0, none⟩ = some (.slice A8 cd.length c8) := blk_cell hC2.out.1 0
                      have hins := Aside0.mk (fun (W : World) (z : Bel wr W) => rins_agg r g lc ec W ⟨⟨A7, c7, hr7.out.step z⟩⟩)
                      go_upto_region 27 with (fail)
                      go_region_law (first | (refine goes_ (f := 39) Tryd.func39 (by kernel_rfl) rfl #[.pointer (some ⟨g, 0, none⟩)] rfl rfl rfl (by simp only [List.map_toArray, List.map_cons, List.map_nil]; rfl) ?_; refine (hins.out _ ((Bel.refl wr).drewN 1)).mono ?_; rintro ex w' ⟨x, v, rfl, hGI⟩; obtain ⟨A6, c6, rfl, _, _⟩ := hGI.own.reads; refine ⟨_, rfl, ?_⟩; have hbk := hGI.kt.out.blk (bel_blk hC2.out.1 ((Bel.refl wr).drewN 1)) (by decide); have cz' : w'.cell? ⟨b2, 0, none⟩ = some (.slice A8 cd.length c8) := blk_cell hbk 0; have cl' : b2 < w'.heap.size := blk_lt hbk; have cz3 := blk_cell (bel_blk hbk ((Bel.refl w').alloc (.cells #[.int .i64 x.f0, .int .i64 x.f1, .int .i64 x.f2, .int .i64 x.f3, .int .i64 x.f4, .int .i64 x.f5, .slice A6 x.f6.length c6] 45))) 0) | (refine app_ins_at (xs := cd) x [.int .i64 x.f0, .int .i64 x.f1, .int .i64 x.f2, .int .i64 x.f3, .int .i64 x.f4, .int .i64 x.f5, .slice A6 x.f6.length c6] ((hC2.out.2.1.step ((Bel.refl wr).drewN 1)).keep hGI.kt.out (by decide)) ⟨kIns_mkM _ _ _ x (Kd.R_lower hGI.own.out hbr3)⟩ (Nat.le_trans hbr3 hGI.kt.out.size) rfl _ _ rfl ?_ rfl rfl ?_; (omega); intro v1 w1 hO hK1; obtain ⟨A9, c9, rfl, _, _⟩ := hO.reads; have hbk1 := hK1.blk hbk (by decide); have fz' : w1.frozen? ⟨b2, 0, none⟩ = false := blk_frozen hbk1 0; have cz'' : w1.cell? ⟨b2, 0, none⟩ = some (.slice A8 cd.length c8) := blk_cell hbk1 0))
                      all_goals
                        have hs1 := blk_put (cs' := #[.slice A9 (cd ++ [x]).length c9]) hbk1 0 (.slice A9 (cd ++ [x]).length c9) rfl
                        have ks1 : KT [48] b2 w1 (w1.setCell ⟨b2, 0, none⟩ (.slice A9 (cd ++ [x]).length c9)) := KT.set hbk1 (by decide) (Nat.le_refl _) 0 _
                        have hKT : KT [45, 48] b2 w' (w1.setCell ⟨b2, 0, none⟩ (.slice A9 (cd ++ [x]).length c9)) := (hK1.mono (Nat.le_refl _) (by decide)).trans (ks1.mono (Nat.le_refl _) (by decide))
                        have hs := And.intro hs1 (And.intro (hO.keep ks1 (by decide)) hKT)
                        clear hs1 ks1 hKT
                        simp only [List.length_append, List.length_cons, List.length_nil, Nat.zero_add] at hs
                        replace hs := Aside0.mk hs
                        go_wp2
                        go_roundw
                        case rel =>
                          obtain ⟨l8, e8, hran8, hR8⟩ := hGI.ran
                          obtain ⟨A10, c10, hr10⟩ := hR8.out
                          exact ⟨i2 + 1, m3 - 1, cd ++ [x], .slice A9 (cd.length + 1) c9, l8, e8, by omega, by go_num, by omega, by omega, ⟨hranc.out.rep1 hran8.out⟩, ⟨_, _, hr10.keep (hs.out.2.2.mono hrw (fun _ z => z)) (by decide) (by decide)⟩, ⟨hs.out.1, hs.out.2.1, ((hC2.out.2.2.trans (KT.of_bel ((Bel.refl wr).drewN 1) (Nat.le_trans hrw hbr3) ST)).trans hGI.kt.out).after (by rw [hb2e.out]; exact hs.out.2.2.below) (by rw [hb2e.out]; exact hrw)⟩, ⟨by rw [List.length_append, hcd.out]; rfl⟩⟩
                        case measure => simp [intOf]; omega
                    | false =>
                      have hfi : Aside0 (Ran (pRep pIns mc.toNat) l7 e7 cd lc ec) := ⟨by
                        have hn := of_decide_eq_false hb.out.symm
                        by_cases h1 : 0 < m3
                        · exact Ran.early hranc.out (fun q => hn ⟨h1, q⟩) hi2 cd
                        · have hkk : i2 = mc.toNat := by omega
                          rw [← hkk]; exact hranc.out⟩
                      clear hb hranc hr7
                      have hFw := hFj.out.1.keep hC2.out.2.2
                      obtain ⟨A8, c8, rfl, _, _⟩ := hC2.out.2.1.reads
                      obtain ⟨A9, c9, rfl, _, _⟩ := hFw.bl.reads
                      have hbl3 : bl.length ≤ 1000 := by rw [hblj.out]; omega
                      have cz : wr.cell? ⟨b2, 0, none⟩ = some (.slice A8 cd.length c8) := blk_cell hC2.out.1 0
                      have cr : wr.cell? ⟨fb, 4, none⟩ = some (.slice A9 bl.length c9) := blk_cell hFw.blk 4
                      have hrr3 : fb ≤ wr.heap.size := Nat.le_of_lt (blk_lt hFw.blk)
                      replace hFw := Aside0.mk hFw
                      go_wp2_with ((with_reducible refine gate_b (b := .append) rfl ?_); (refine app_block_at_ (xs := bl) (⟨cd⟩ : SBlock) [.slice A8 cd.length c8] hFw.out.bl ⟨kBlock_mkM _ _ _ (⟨cd⟩ : SBlock) (Kd.R_lower hC2.out.2.1.out hfw)⟩ hrr3 rfl _ _ rfl ?hl1 rfl rfl ?_); (case hl1 => omega); intro v1 w1 hO hK1; obtain ⟨A10, c10, rfl, _, _⟩ := hO.reads; have hbk1 := hK1.blk hFw.out.blk (by decide); have fz' : w1.frozen? ⟨fb, 4, none⟩ = false := blk_frozen hbk1 4; have cz'' : w1.cell? ⟨fb, 4, none⟩ = some (.slice A9 bl.length c9) := blk_cell hbk1 4)
                      have hs1 := blk_put (cs' := #[.slice A0 y0.length c0, .slice A1 y1.length c1, .int .i64 p, .int .i64 q, .slice A10 (bl ++ [(⟨cd⟩ : SBlock)]).length c10]) hbk1 4 (.slice A10 (bl ++ [(⟨cd⟩ : SBlock)]).length c10) rfl
                      have ks1 : KT [43] fb w1 (w1.setCell ⟨fb, 4, none⟩ (.slice A10 (bl ++ [(⟨cd⟩ : SBlock)]).length c10)) := KT.set hbk1 (by decide) (Nat.le_refl _) 4 _
                      have hKT : KT [48, 43] fb wr (w1.setCell ⟨fb, 4, none⟩ (.slice A10 (bl ++ [(⟨cd⟩ : SBlock)]).length c10)) := (hK1.mono (Nat.le_refl _) (by decide)).trans (ks1.mono (Nat.le_refl _) (by decide))
                      have hIF : IsF fb (w1.setCell ⟨fb, 4, none⟩ (.slice A10 (bl ++ [(⟨cd⟩ : SBlock)]).length c10)) fb ⟨y0, y1, p, q, bl ++ [⟨cd⟩]⟩ (.slice A0 y0.length c0) (.slice A1 y1.length c1) (.slice A10 (bl ++ [(⟨cd⟩ : SBlock)]).length c10) := ⟨hs1, hFw.out.two.keep hKT (by decide), hO.keep ks1 (by decide)⟩
                      have hs := And.intro hIF hKT
                      clear hs1 ks1 hKT hIF
                      simp only [List.length_append, List.length_cons, List.length_nil, Nat.zero_add] at hs
                      replace hs := Aside0.mk hs
                      go_roundw
                      case rel =>
                        obtain ⟨A11, c11, hr11⟩ := hRc.out
                        exact ⟨j + 1, m2 - 1, bl ++ [⟨cd⟩], .slice A10 (bl.length + 1) c10, lc, ec, by omega, by go_num, by omega, by omega, ⟨hranj.out.rep1 (hran7.out.bind (hfi.out.bind (Ran.ret _ _ _)))⟩, ⟨_, _, hr11.keep (hs.out.2.mono hrf (fun _ z => z)) (by decide) (by decide)⟩, ⟨hs.out.1, (hFj.out.2.trans hC2.out.2.2).after (by rw [hfb.out]; exact hs.out.2.below) hro⟩, ⟨by rw [List.length_append, hblj.out]; rfl⟩⟩
                      case measure => simp [intOf]; omega
                | false =>
                  have hfb2 : Aside0 (Ran (pRep pBlock m.toNat) l6 e6 bl lb eb) := ⟨by
                    have hn := of_decide_eq_false hb.out.symm
                    by_cases h1 : 0 < m2
                    · exact Ran.early hranj.out (fun q => hn ⟨h1, q⟩) hj bl
                    · have hkk : j = m.toNat := by omega
                      rw [← hkk]; exact hranj.out⟩
                  have hfn : Aside0 (Ran pFn lk ek ⟨y0, y1, p, q, bl⟩ lb eb) := ⟨by
                    rw [← hy0.out, ← hy1.out]
                    exact hran3.out.bind (hfk.out.bind (hran4.out.bind (hran5.out.bind (hran6.out.bind (hfb2.out.bind (Ran.ret _ _ _))))))⟩
                  clear hb hranj hfb2 hran3 hfk hran4 hran5 hran6
                  have hwo := hFj.out.2
                  obtain ⟨A8, c8, rfl, _, _⟩ := hFj.out.1.bl.reads
                  have hblk : wr.heap[fb]? = some (.cells #[.slice A0 y0.length c0, .slice A1 y1.length c1, .int .i64 p, .int .i64 q, .slice A8 bl.length c8] 43 (0, 0)) := hFj.out.1.blk
                  have hTw : Two fb wr (.slice A0 y0.length c0) (.slice A1 y1.length c1) y0 y1 := hFj.out.1.two
                  have hBl : OwnAt kBlock 48 fb wr (.slice A8 bl.length c8) bl := hFj.out.1.bl
                  obtain ⟨A9, c9, rfl, _, _⟩ := hC.out.2.1.reads
                  have hOw := hC.out.2.1.keep hwo (by decide)
                  have hPb := hwo.blk hC.out.1 (by decide)
                  have hRs := hwo.blk hC.out.2.2.2 (by decide)
                  have hfl : fs.length ≤ 1000 := by rw [hfs.out]; omega
                  have hbf : h ≤ fb := Nat.le_of_lt hbo
                  have hhw : h ≤ wr.heap.size := Nat.le_of_lt (blk_lt hPb)
                  have cr : wr.cell? ⟨h, 0, none⟩ = some (.slice A9 fs.length c9) := blk_cell hPb 0
                  have z0 : wr.cell? ⟨fb, 0, none⟩ = some (.slice A0 y0.length c0) := blk_cell hblk 0
                  have z1 : wr.cell? ⟨fb, 1, none⟩ = some (.slice A1 y1.length c1) := blk_cell hblk 1
                  have z2 : wr.cell? ⟨fb, 2, none⟩ = some (.int .i64 p) := blk_cell hblk 2
                  have z3 : wr.cell? ⟨fb, 3, none⟩ = some (.int .i64 q) := blk_cell hblk 3
                  have z4 : wr.cell? ⟨fb, 4, none⟩ = some (.slice A8 bl.length c8) := blk_cell hblk 4
                  replace hOw := Aside0.mk hOw
                  replace hPb := Aside0.mk hPb
                  replace hRs := Aside0.mk hRs
                  replace hTw := Aside0.mk hTw
                  replace hBl := Aside0.mk hBl
                  replace hwo := Aside0.mk hwo
                  have hKo := Aside0.mk hC.out.2.2.1
                  clear hblk hC hFj
                  go_wp2_with ((with_reducible refine gate_b (b := .append) rfl ?_); (refine app_func_at_ (xs := fs) (⟨y0, y1, p, q, bl⟩ : SFunc) [.slice A0 y0.length c0, .slice A1 y1.length c1, .int .i64 p, .int .i64 q, .slice A8 bl.length c8] hOw.out ⟨kFunc_mkM _ _ _ (⟨y0, y1, p, q, bl⟩ : SFunc) (Kd.R_lower hTw.out.rv.out hbf) (Kd.R_lower hTw.out.ru.out hbf) (Kd.R_lower hBl.out.out hbf)⟩ hhw rfl _ _ rfl ?hl1 rfl rfl ?_); (case hl1 => omega); intro v1 w1 hO hK1; obtain ⟨A10, c10, rfl, _, _⟩ := hO.reads; have hbk1 := hK1.blk hPb.out (by decide); have fz' : w1.frozen? ⟨h, 0, none⟩ = false := blk_frozen hbk1 0; have cz'' : w1.cell? ⟨h, 0, none⟩ = some (.slice A9 fs.length c9) := blk_cell hbk1 0)
                  have hs1 := blk_put (cs' := #[.slice A10 (fs ++ [(⟨y0, y1, p, q, bl⟩ : SFunc)]).length c10]) hbk1 0 (.slice A10 (fs ++ [(⟨y0, y1, p, q, bl⟩ : SFunc)]).length c10) rfl
                  have ks1 : KT [24] h w1 (w1.setCell ⟨h, 0, none⟩ (.slice A10 (fs ++ [(⟨y0, y1, p, q, bl⟩ : SFunc)]).length c10)) := KT.set hbk1 (by decide) (Nat.le_refl _) 0 _
                  have hKT : KT [43, 24] h wr (w1.setCell ⟨h, 0, none⟩ (.slice A10 (fs ++ [(⟨y0, y1, p, q, bl⟩ : SFunc)]).length c10)) := (hK1.mono (Nat.le_refl _) (by decide)).trans (ks1.mono (Nat.le_refl _) (by decide))
                  have hrw := hKT.below.block r (by omega)
                  have hs := And.intro hs1 (And.intro (hO.keep ks1 (by decide)) (And.intro hKT hrw))
                  clear hs1 ks1 hKT hrw
                  simp only [List.length_append, List.length_cons, List.length_nil, Nat.zero_add] at hs
                  replace hs := Aside0.mk hs
                  go_roundw
                  case rel =>
                    obtain ⟨A11, c11, hr11⟩ := hRb.out
                    exact ⟨k + 1, fs ++ [⟨y0, y1, p, q, bl⟩], .slice A10 (fs.length + 1) c10, lb, eb, by omega, by go_num, ⟨hran.out.rep1 hfn.out⟩, ⟨_, _, hr11.keep (hs.out.2.2.1.mono (Nat.le_of_lt hlt1) (fun _ z => z)) (by decide) (by decide)⟩, ⟨hs.out.1, hs.out.2.1, (hKo.out.trans hwo.out).after (hs.out.2.2.1.below.mono (by rw [hr.out]; exact Nat.le_of_lt hlt1)) hbw, hs.out.2.2.2.trans hRs.out⟩, ⟨by rw [List.length_append, hfs.out]; rfl⟩⟩
                  case measure => simp [intOf]; omega
        | false =>
          have hfull : Aside0 (Ran (pRep pFn n.toNat) l1 e2 fs lk ek) := ⟨by
            have hn := of_decide_eq_false hb.out.symm
            by_cases h1 : (k : Int) < n
            · exact Ran.early hran.out (fun q => hn ⟨h1, q⟩) hk fs
            · have hkk : k = n.toNat := by omega
              rw [← hkk]; exact hran.out⟩
          have hfin := Aside0.mk (Ran.fin lk ek)
          have hpos := hr4.out.len
          go_upto_region 30 with (fail)
          go_cut [117] (fun t W => ∃ b, t = .bool b ∧ Aside0 (b = decide (ek = 0 ∧ 0 < lk.length)) ∧ wr = W)
          case first =>
            by_cases he : ek = 0
            · have b1 : (ek == 0) = true := by simpa using he
              by_cases hp : 0 < lk.length
              · have hb : Aside0 (decide (ek = 0 ∧ 0 < lk.length) = true) := ⟨decide_eq_true ⟨he, hp⟩⟩
                replace he := Aside0.mk he
                go_wp2
                go_meet
                case rel => exact ⟨_, rfl, ⟨hb.out.symm⟩, rfl⟩
              · have hb : Aside0 (decide (ek = 0 ∧ 0 < lk.length) = false) := ⟨decide_eq_false (fun q => hp q.2)⟩
                replace he := Aside0.mk he
                go_wp2
                go_meet
                case rel => exact ⟨_, rfl, ⟨hb.out.symm⟩, rfl⟩
            · have b1 : (ek == 0) = false := by simpa using he
              have hb : Aside0 (decide (ek = 0 ∧ 0 < lk.length) = false) := ⟨decide_eq_false (fun q => he q.1)⟩
              replace he := Aside0.mk he
              go_wp2
              go_meet
              case rel => exact ⟨_, rfl, ⟨hb.out.symm⟩, rfl⟩
          case rest =>
            obtain ⟨b, rfl, hb, rfl⟩ := hcut
            go_upto_if 117 with (fail)
            go_cut [118] (fun _ W => Aside0 (IsR 73 r W g lk (if ek = 0 ∧ 0 < lk.length then 11 else ek) A4 c4 ∧ KT ST r wr W))
            case first =>
              cases b with
              | true =>
                have hc := Aside0.mk (of_decide_eq_true hb.out.symm)
                have hs := Aside0.mk (hr4.out.setE (by decide) 11)
                go_wp2
                go_meet
                case rel => exact ⟨by rw [if_pos hc.out]; exact hs.out.1, hs.out.2⟩
              | false =>
                have hc := Aside0.mk (of_decide_eq_false hb.out.symm)
                go_wp2
                go_meet
                case rel => exact ⟨by rw [if_neg hc.out]; exact hr4.out, KT.refl _ _ _⟩
            case rest =>
              obtain ⟨hr5, hK5⟩ := hcut.out
              obtain ⟨e5, he5⟩ : ∃ e5, (if ek = 0 ∧ 0 < lk.length then 11 else ek) = e5 := ⟨_, rfl⟩
              rw [he5] at hr5 hfin
              have hall := (hran1.out.bind (hch.out.bind (hfull.out.bind (hfin.out.bind (Ran.ret fs lk e5))))).imp (p' := pProg) rfl
              have hw5 := hall.whole
              have hbk := hK5.blk hC.out.1 (by decide)
              have hbr5 := hK5.blk hC.out.2.2.2 (by decide)
              have hown := hC.out.2.1.keep hK5 (by decide)
              have hkt := hC.out.2.2.1.trans hK5
              obtain ⟨A6, c6, rfl, _, _⟩ := hown.reads
              have z0 : wc.cell? ⟨h, 0, none⟩ = some (.slice A6 fs.length c6) := blk_cell hbk 0
              have z1 : wc.cell? ⟨g, 1, none⟩ = some (.int .i64 e5) := blk_cell hr5.blk 1
              have z2 := blk_frozen hbr5 0
              have z3 : wc.cell? ⟨r, 0, none⟩ = some (.slice none 0 0) := blk_cell hbr5 0
              have zl := blk_lt hbr5
              clear hcut he5 hfin hfull hC hr4 y0 y1 g1 hpos hall hb b hch hran1 hK1
              have hB5 : Bel w wc := ⟨by have := hkt.below; rwa [← hr.out] at this⟩
              have hput := fun u => blk_put (cs' := #[u]) hbr5 0 u rfl
              have hbel := Aside0.mk (fun u => (⟨hB5.out.setCell (p := ⟨r, 0, none⟩) (Nat.le_of_eq hr.out) u⟩ : Bel w (wc.setCell ⟨r, 0, none⟩ u)))
              have ksl := Aside0.mk (fun u => KT.set (ts := [24]) (base := r) hbr5 (by decide) (Nat.le_refl _) 0 u)
              replace hput := Aside0.mk hput
              replace hown := Aside0.mk hown
              replace hw5 := Aside0.mk hw5
              replace hkt := Aside0.mk hkt
              replace hbk := Aside0.mk hbk
              replace hbr5 := Aside0.mk hbr5
              replace hr5 := Aside0.mk hr5
              replace hK5 := Aside0.mk hK5
              by_cases h5 : e5 = 0
              · have b1 : (e5 != 0) = false := by simp [h5]
                replace h5 := Aside0.mk h5
                go_wp2
                refine bodyPost_ret (results_cell_row2 rfl _ _ r 24 #[.slice A6 fs.length c6] (0, 0) _ rfl (hput.out _) Tryd.underlying24 rfl (by kernel_rfl)) rfl ?_
                have he := hw5.out.1
                have hfs := hw5.out.2.1 h5.out
                refine ⟨.slice A6 fs.length c6, ?_, ⟨Kd.R_lower ?_ (show w.heap.size ≤ h by rw [← hh.out]; omega)⟩, hbel.out _⟩
                · rw [← he, h5.out]; rfl
                · rw [← hfs]
                  exact (hown.out.keep (ksl.out _) (by decide)).out
              · have b1 : (e5 != 0) = true := by simpa using h5
                replace h5 := Aside0.mk h5
                go_upto_region 33 with (fail)
                go_region_law (fail)
                all_goals
                  go_wp2
                  refine bodyPost_ret (results_cell_row2 rfl _ _ r 24 #[.slice none 0 0] (0, 0) _ rfl (hput.out _) Tryd.underlying24 rfl (by kernel_rfl)) rfl ?_
                  have he := hw5.out.1
                  have hfs := hw5.out.2.2 h5.out
                  refine ⟨.slice none 0 0, ?_, ⟨?_⟩, ?_⟩
                  · rw [← he]; rfl
                  · rw [hfs]
                    exact (Own.nil _ _ _ _).out
                  · first | exact hbel.out _ | exact Bel.drewN (hbel.out _) 1
end Go.Proofs.YtijdmnjkiiemlaaDoor.H
