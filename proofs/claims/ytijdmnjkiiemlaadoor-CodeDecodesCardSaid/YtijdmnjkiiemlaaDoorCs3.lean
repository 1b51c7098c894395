/- Layer 3, walks: the same programs, as the document tells it. -/
import Derived.Test.YtijdmnjkiiemlaaDoorCs1
import Derived.Test.YtijdmnjkiiemlaaDoorCs2
namespace Go.Proofs.YtijdmnjkiiemlaaDoor.H
open Go.RowKit Go.Proofs.YtijdmnjkiiemlaaDoorW.PrintWords Go.Proofs.YtijdmnjkiiemlaaDoorW.PrintLast
set_option linter.unusedVariables false
set_option linter.unusedSimpArgs false

set_option maxRecDepth 100000
set_option maxHeartbeats 8000000 in
theorem rFunc_any (f g : SFunc) (A0 A1 A4 B0 B1 B4 : Option Addr) (c0 c1 c4 d0 d1 d4 : Nat) (w : World) (P : Prop) (hP : Aside0 (P ↔ f = g))
    (H0 : RdI w A0 f.f0) (H1 : RdI w A1 f.f1) (H4 : Rd kBlock w A4 f.f4) (K0 : RdI w B0 g.f0) (K1 : RdI w B1 g.f1) (K4 : Rd kBlock w B4 g.f4) :
    Calls Tryd.prog 34 #[funcV f A0 A1 A4 c0 c1 c4, funcV g B0 B1 B4 d0 d1 d4] w (SameP P w) := by
  have hl0 := H0.len
  have hl1 := H1.len
  have hl4 := H4.len
  have hl4' := K4.len
  have hB0 := ((Bel.refl w).alloc (.cells #[.slice A0 f.f0.length c0, .slice A1 f.f1.length c1, .int .i64 f.f2, .int .i64 f.f3, .slice A4 f.f4.length c4] 43)).alloc (.cells #[.slice B0 g.f0.length d0, .slice B1 g.f1.length d1, .int .i64 g.f2, .int .i64 g.f3, .slice B4 g.f4.length d4] 43)
  unfold funcV
  have hce0 := Aside0.mk (fun W (q : Bel w W) => Ints_any A0 B0 c0 d0 f.f0 g.f0 W (H0.step q) (K0.step q) hl0)
  have hce1 := Aside0.mk (fun W (q : Bel w W) => Ints_any A1 B1 c1 d1 f.f1 g.f1 W (H1.step q) (K1.step q) hl1)
  clear H0 H1 K0 K1
  by_cases e0 : f.f0 = g.f0
  case neg =>
    have b0 : decide (f.f0 = g.f0) = false := decide_eq_false e0
    have hne : Aside0 (¬ P) := ⟨fun h => e0 (by rw [hP.out.1 h])⟩
    clear e0
    rw [b0] at hce0
    clear b0
    go_enter Tryd.func34, Tryd.ntmps34
    go_wp2_with (go_at_call 49; ((with_reducible refine (hce0.out _ hB0).mono ?_); rintro e w' ⟨rfl, hd⟩))
    go_ret
    exact SameP.mk0 hne.out (hB0.trans (Bel.drawn hd))
  have b0 : decide (f.f0 = g.f0) = true := decide_eq_true e0
  rw [b0] at hce0
  replace e0 := Aside0.mk e0
  clear b0
  by_cases e1 : f.f1 = g.f1
  case neg =>
    have b1 : decide (f.f1 = g.f1) = false := decide_eq_false e1
    have hne : Aside0 (¬ P) := ⟨fun h => e1 (by rw [hP.out.1 h])⟩
    clear e1
    rw [b1] at hce1
    clear b1
    go_enter Tryd.func34, Tryd.ntmps34
    go_wp2_with (first | (go_at_call 49; ((with_reducible refine (hce0.out _ hB0).mono ?_); rintro e w1 ⟨rfl, ⟨n1, rfl⟩⟩; have hB1 := Bel.drewN hB0 n1)) | (go_at_call 49; ((with_reducible refine (hce1.out _ hB1).mono ?_); rintro e w2 ⟨rfl, ⟨n2, rfl⟩⟩; have hB2 := Bel.drewN hB0 (n1 + n2))))
    go_ret
    exact SameP.mk0 hne.out hB2
  have b1 : decide (f.f1 = g.f1) = true := decide_eq_true e1
  rw [b1] at hce1
  replace e1 := Aside0.mk e1
  clear b1
  by_cases e2 : f.f2 = g.f2
  case neg =>
    have b2 : (f.f2 != g.f2) = true := by simpa using e2
    have hne : Aside0 (¬ P) := ⟨fun h => e2 (by rw [hP.out.1 h])⟩
    clear e2
    go_enter Tryd.func34, Tryd.ntmps34
    go_wp2_with (first | (go_at_call 49; ((with_reducible refine (hce0.out _ hB0).mono ?_); rintro e w1 ⟨rfl, ⟨n1, rfl⟩⟩; have hB1 := Bel.drewN hB0 n1)) | (go_at_call 49; ((with_reducible refine (hce1.out _ hB1).mono ?_); rintro e w2 ⟨rfl, ⟨n2, rfl⟩⟩; have hB2 := Bel.drewN hB0 (n1 + n2))))
    go_ret
    exact SameP.mk0 hne.out hB2
  have b2 : (f.f2 != g.f2) = false := by simpa using e2
  replace e2 := Aside0.mk e2
  by_cases e3 : f.f3 = g.f3
  case neg =>
    have b3 : (f.f3 != g.f3) = true := by simpa using e3
    have hne : Aside0 (¬ P) := ⟨fun h => e3 (by rw [hP.out.1 h])⟩
    clear e3
    go_enter Tryd.func34, Tryd.ntmps34
    go_wp2_with (first | (go_at_call 49; ((with_reducible refine (hce0.out _ hB0).mono ?_); rintro e w1 ⟨rfl, ⟨n1, rfl⟩⟩; have hB1 := Bel.drewN hB0 n1)) | (go_at_call 49; ((with_reducible refine (hce1.out _ hB1).mono ?_); rintro e w2 ⟨rfl, ⟨n2, rfl⟩⟩; have hB2 := Bel.drewN hB0 (n1 + n2))))
    go_ret
    exact SameP.mk0 hne.out hB2
  have b3 : (f.f3 != g.f3) = false := by simpa using e3
  replace e3 := Aside0.mk e3
  by_cases hl : f.f4.length = g.f4.length
  case neg =>
    have b4 : ((f.f4.length : Int) != (g.f4.length : Int)) = true := by simp; omega
    have b5 : (f.f4.length == g.f4.length) = false := by simpa using hl
    have hne : Aside0 (¬ P) := ⟨fun h => hl (by rw [hP.out.1 h])⟩
    clear hl
    go_enter Tryd.func34, Tryd.ntmps34
    go_wp2_with (first | (go_at_call 49; ((with_reducible refine (hce0.out _ hB0).mono ?_); rintro e w1 ⟨rfl, ⟨n1, rfl⟩⟩; have hB1 := Bel.drewN hB0 n1)) | (go_at_call 49; ((with_reducible refine (hce1.out _ hB1).mono ?_); rintro e w2 ⟨rfl, ⟨n2, rfl⟩⟩; have hB2 := Bel.drewN hB0 (n1 + n2))))
    go_ret
    exact SameP.mk0 hne.out hB2
  have b4 : ((f.f4.length : Int) != (g.f4.length : Int)) = false := by simp; omega
  have b5 : (f.f4.length == g.f4.length) = true := by simpa using hl
  replace hl := Aside0.mk hl
  have hiff : Aside0 ((f.f4 = g.f4) ↔ P) := ⟨⟨fun h => hP.out.2 (func_ext e2.out e3.out e0.out e1.out h), fun h => by rw [hP.out.1 h]⟩⟩
  have k0 : ((w.alloc (.cells #[.slice A0 f.f0.length c0, .slice A1 f.f1.length c1, .int .i64 f.f2, .int .i64 f.f3, .slice A4 f.f4.length c4] 43)).alloc (.cells #[.slice B0 g.f0.length d0, .slice B1 g.f1.length d1, .int .i64 g.f2, .int .i64 g.f3, .slice B4 g.f4.length d4] 43)).heap[w.heap.size]? = some (.cells #[.slice A0 f.f0.length c0, .slice A1 f.f1.length c1, .int .i64 f.f2, .int .i64 f.f3, .slice A4 f.f4.length c4] 43 (0, 0)) := (((Bel.refl _).alloc _).out.block _ (blk_lt (heap_alloc_new w _))).trans (heap_alloc_new w _)
  have k1 : ((w.alloc (.cells #[.slice A0 f.f0.length c0, .slice A1 f.f1.length c1, .int .i64 f.f2, .int .i64 f.f3, .slice A4 f.f4.length c4] 43)).alloc (.cells #[.slice B0 g.f0.length d0, .slice B1 g.f1.length d1, .int .i64 g.f2, .int .i64 g.f3, .slice B4 g.f4.length d4] 43)).heap[w.heap.size + 1]? = some (.cells #[.slice B0 g.f0.length d0, .slice B1 g.f1.length d1, .int .i64 g.f2, .int .i64 g.f3, .slice B4 g.f4.length d4] 43 (0, 0)) := by rw [sz1 w (.cells #[.slice A0 f.f0.length c0, .slice A1 f.f1.length c1, .int .i64 f.f2, .int .i64 f.f3, .slice A4 f.f4.length c4] 43)]; exact heap_alloc_new _ _
  clear e0 e1 e2 e3
  replace k0 := Aside0.mk k0
  replace k1 := Aside0.mk k1
  go_enter Tryd.func34, Tryd.ntmps34
  go_upto_region 3 with (first | (go_at_call 49; ((with_reducible refine (hce0.out _ hB0).mono ?_); rintro e w1 ⟨rfl, ⟨n1, rfl⟩⟩; have hB1 := Bel.drewN hB0 n1)) | (go_at_call 49; ((with_reducible refine (hce1.out _ hB1).mono ?_); rintro e w2 ⟨rfl, ⟨n2, rfl⟩⟩; have hB2 := Bel.drewN hB0 (n1 + n2))))
  have k0' := (((Bel.refl _).drewN (n1 + n2)).out.block _ (blk_lt k0.out)).trans k0.out
  have k1' := (((Bel.refl _).drewN (n1 + n2)).out.block _ (blk_lt k1.out)).trans k1.out
  clear k0 k1 hB0 hB1 hce0 hce1
  generalize World.drewN _ (n1 + n2) = wa at hB2 k0' k1' ⊢
  obtain ⟨p, hp⟩ : ∃ b, w.heap.size = b := ⟨_, rfl⟩
  obtain ⟨q, hq⟩ : ∃ b, w.heap.size + 1 = b := ⟨_, rfl⟩
  rw [hp] at k0'
  rw [hq] at k1'
  rw [hp] at hq ⊢
  rw [hq]
  have z := Aside0.mk (fun W (k : Bel wa W) => And.intro (show W.cell? ⟨p, 4, none⟩ = some (.slice A4 f.f4.length c4) from Bel.cell k (blk_cell k0' 4)) (show W.cell? ⟨q, 4, none⟩ = some (.slice B4 g.f4.length d4) from Bel.cell k (blk_cell k1' 4)))
  clear k0' k1' b2 b3
  replace hp := Aside0.mk hp
  replace hq := Aside0.mk hq
  go_wp2
  go_loopw [5] (fun i W => ∃ k : Nat, k ≤ f.f4.length ∧ i = .int .i64 k ∧ Aside0 (∀ j (hj : j < f.f4.length) (hj1 : j < g.f4.length), j < k → f.f4[j] = g.f4[j]) ∧ Bel wa W) (fun i _ => f.f4.length - (intOf i).toNat)
  case atStart => exact ⟨0, by omega, rfl, ⟨fun j _ _ h => by omega⟩, Bel.refl _⟩
  case round =>
    obtain ⟨k, hk, rfl, hs, hB⟩ := hrel
    obtain ⟨z0, z1⟩ := z.out wr hB
    have hBw := hB2.trans hB
    by_cases hlt : k < f.f4.length
    · have hlt1 : k < g.f4.length := by have := hl.out; omega
      obtain ⟨ad, A6, c6, rfl, h0, hc6, hR6⟩ := block_at (H4.step hBw) k hlt
      obtain ⟨ad', A6', c6', rfl, h0', hc6', hR6'⟩ := block_at (K4.step hBw) k hlt1
      have hne := Aside0.mk (fun (h : ¬ f.f4[k] = g.f4[k]) (hp : P) => h (by have e := hiff.out.2 hp; simp only [e]))
      have hsn := Aside0.mk (fun h => lists_snoc hlt hlt1 hs.out h)
      obtain ⟨x, hx⟩ : ∃ x, Aside0 (f.f4[k] = x) := ⟨_, ⟨rfl⟩⟩
      obtain ⟨y, hy⟩ : ∃ y, Aside0 (g.f4[k] = y) := ⟨_, ⟨rfl⟩⟩
      rw [hx.out] at h0 hc6 hR6
      rw [hy.out] at h0' hc6' hR6'
      rw [hx.out, hy.out] at hne hsn
      have hxl := hR6.len
      have hyl := hR6'.len
      clear hc6 hc6'
      go_upto_region 6 with (fail)
      go_quiet (fail)
      by_cases hll : x.f0.length = y.f0.length
      case neg =>
        have c4 : ((x.f0.length : Int) != (y.f0.length : Int)) = true := by simp; omega
        have c5 : (x.f0.length == y.f0.length) = false := by simpa using hll
        have hnp : Aside0 (¬ P) := ⟨hne.out (fun e => hll (by rw [e]))⟩
        clear hll
        go_wp2
        go_ret
        exact SameP.mk0 hnp.out (Bel.drewN hBw _)
      have c4 : ((x.f0.length : Int) != (y.f0.length : Int)) = false := by simp; omega
      have c5 : (x.f0.length == y.f0.length) = true := by simpa using hll
      replace hll := Aside0.mk hll
      go_upto_region 9 with (fail)
      have hBq := Bel.drewN hB nq
      have hR6q := Rd.drewN hR6 nq
      have hR6q' := Rd.drewN hR6' nq
      clear h0 h0' z0 z1 hR6 hR6'
      generalize wr.drewN nq = wq at hBq hR6q hR6q' ⊢
      have hBwq := hB2.trans hBq
      go_wp2
      go_loopw [8] (fun i W => ∃ k : Nat, k ≤ x.f0.length ∧ i = .int .i64 k ∧ Aside0 (∀ j (hj : j < x.f0.length) (hj1 : j < y.f0.length), j < k → x.f0[j] = y.f0[j]) ∧ Bel wq W) (fun i _ => x.f0.length - (intOf i).toNat)
      case atStart => exact ⟨0, by omega, rfl, ⟨fun j _ _ h => by omega⟩, Bel.refl _⟩
      case round =>
        obtain ⟨m, hm, rfl, hs2, hB3⟩ := hrel
        by_cases hlt2 : m < x.f0.length
        · have hlt3 : m < y.f0.length := by have := hll.out; omega
          obtain ⟨ad6, A7, c7, rfl, i0, i1, i2, i3, i4, i5, i6, hc7, hR7⟩ := ins_at (hR6q.step hB3) m hlt2
          obtain ⟨ad6', A7', c7', rfl, i0', i1', i2', i3', i4', i5', i6', hc7', hR7'⟩ := ins_at (hR6q'.step hB3) m hlt3
          have hne2 := Aside0.mk (fun (h : ¬ x.f0[m] = y.f0[m]) => hne.out (fun e => h (by simp only [e])))
          have hsn2 := Aside0.mk (fun h => lists_snoc hlt2 hlt3 hs2.out h)
          obtain ⟨u, hu⟩ : ∃ u, Aside0 (x.f0[m] = u) := ⟨_, ⟨rfl⟩⟩
          obtain ⟨v, hv⟩ : ∃ v, Aside0 (y.f0[m] = v) := ⟨_, ⟨rfl⟩⟩
          rw [hu.out] at i0 i1 i2 i3 i4 i5 i6 hc7 hR7
          rw [hv.out] at i0' i1' i2' i3' i4' i5' i6' hc7' hR7'
          rw [hu.out, hv.out] at hne2 hsn2
          obtain ⟨Q, hQ⟩ : ∃ Q : Prop, Aside0 (Q ↔ u = v) := ⟨_, ⟨Iff.rfl⟩⟩
          have hcall := Aside0.mk (fun W (q : Bel wr W) => rsame_any u v A7 A7' c7 c7' W Q hQ (hR7.step q) (hR7'.step q))
          unfold insV at hcall
          clear hR7 hR7' hc7 hc7'
          by_cases he : u = v
          · have hyes := Aside0.mk (fun W (q : Bel wr W) => (hcall.out W q).mono (fun e w' h => h.yes (hQ.out.2 he)))
            have hs3 := Aside0.mk (hsn2.out he)
            clear hcall he hne2 hsn2
            go_upto_region 12 with (fail)
            go_region_law (refine goes_ (f := 50) Tryd.func50 (by kernel_rfl) rfl #[.agg #[.int .i64 u.f0, .int .i64 u.f1, .int .i64 u.f2, .int .i64 u.f3, .int .i64 u.f4, .int .i64 u.f5, .slice A7 u.f6.length c7], .agg #[.int .i64 v.f0, .int .i64 v.f1, .int .i64 v.f2, .int .i64 v.f3, .int .i64 v.f4, .int .i64 v.f5, .slice A7' v.f6.length c7']] rfl rfl rfl (by simp only [List.map_toArray, List.map_cons, List.map_nil]; rfl) ?_; refine (hyes.out _ ?_).mono ?_; (repeat (first | exact Bel.refl _ | refine Bel.drewN ?_ _)); rintro ex w6 ⟨rfl, hB6'⟩; refine ⟨_, rfl, ?_⟩; have hB6 : Bel wr w6 := (Bel.trans (Bel.drewN (Bel.refl wr) _) hB6'))
            all_goals
              go_wp2
              go_roundw
              case rel => exact ⟨m + 1, by omega, by go_num, hs3, hB3.trans hB6⟩
              case measure => simp [intOf]; omega
          · have hno := Aside0.mk (fun W (q : Bel wr W) => (hcall.out W q).mono (fun e w' h => h.no (fun q => he (hQ.out.1 q))))
            have hnp := Aside0.mk (hne2.out he)
            clear hcall he hne2 hsn2
            go_upto_region 12 with (fail)
            go_region_law (refine goes_ (f := 50) Tryd.func50 (by kernel_rfl) rfl #[.agg #[.int .i64 u.f0, .int .i64 u.f1, .int .i64 u.f2, .int .i64 u.f3, .int .i64 u.f4, .int .i64 u.f5, .slice A7 u.f6.length c7], .agg #[.int .i64 v.f0, .int .i64 v.f1, .int .i64 v.f2, .int .i64 v.f3, .int .i64 v.f4, .int .i64 v.f5, .slice A7' v.f6.length c7']] rfl rfl rfl (by simp only [List.map_toArray, List.map_cons, List.map_nil]; rfl) ?_; refine (hno.out _ ?_).mono ?_; (repeat (first | exact Bel.refl _ | refine Bel.drewN ?_ _)); rintro ex w6 ⟨rfl, hB6'⟩; refine ⟨_, rfl, ?_⟩; have hB6 : Bel wr w6 := (Bel.trans (Bel.drewN (Bel.refl wr) _) hB6'))
            all_goals
              go_wp2
              go_ret
              exact SameP.mk0 hnp.out (hBwq.trans (hB3.trans hB6))
        · have hall := Aside0.mk (hsn.out (by
            have e := lists_eq hll.out (fun j hj hj1 _ => hs2.out j hj hj1 (by omega))
            obtain ⟨a⟩ := x
            obtain ⟨b⟩ := y
            simp only at e
            rw [e]))
          go_wp2
          go_roundw
          case rel => exact ⟨k + 1, by omega, by go_num, hall, hBq.trans hB3⟩
          case measure => simp [intOf]; omega
    · have hall := Aside0.mk (hiff.out.1 (lists_eq hl.out (fun j hj hj1 _ => hs.out j hj hj1 (by omega))))
      go_wp2
      go_ret
      exact SameP.mk1 hall.out hBw
end Go.Proofs.YtijdmnjkiiemlaaDoor.H
