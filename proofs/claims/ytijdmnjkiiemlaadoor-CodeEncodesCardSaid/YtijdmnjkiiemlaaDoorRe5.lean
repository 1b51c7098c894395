/- Layer 3, the reference: a program's bytes. -/
import Derived.Test.YtijdmnjkiiemlaaDoorRe4
import Derived.Test.YtijdmnjkiiemlaaDoorRe1
namespace Go.Proofs.YtijdmnjkiiemlaaDoor.H
open Go.RowKit Go.Proofs.YtijdmnjkiiemlaaDoorW.PrintWords Go.Proofs.YtijdmnjkiiemlaaDoorW.PrintLast
set_option linter.unusedVariables false
set_option linter.unusedSimpArgs false

/-- a writer, as far as it's told: the mark, and the bytes if it holds -/
abbrev WrA (base : Nat) (W : World) (g : Nat) (len : Nat) (o : Bool) (bs : List Int) : Prop := Aside0 (∃ b, IsVA base W g b o ∧ b.length ≤ len ∧ (o = true → b = bs))
theorem WrA.num {base g len : Nat} {W : World} {o : Bool} {bs : List Int} {n : Int} (h : WrA base W g len o bs) (hn : n ≤ 9223372036854775807) (hl : len ≤ 10000000000) :
    Calls Tryd.prog 25 #[.pointer (some ⟨g, 0, none⟩), .int .i64 n] W fun e w' => e = .returned (.tuple #[]) ∧ WrA base w' g (len + 10) (o && !negB n) (bs ++ putL n) ∧ Aside0 (KT VT base W w') := by
  obtain ⟨b, hV, hbl, hb⟩ := h.out
  refine (vnum_any n base g b o W hV hn (by omega)).mono fun e w' ⟨h1, h2, h3⟩ => ⟨h1, ⟨_, h2, ?_, fun ho => ?_⟩, h3⟩
  · have := putL_len n
    rw [List.length_append]; omega
  · rw [Bool.and_eq_true] at ho
    rw [hb ho.1]
theorem WrA.ins {base g len : Nat} {W : World} {o : Bool} {bs : List Int} {x : SIns} {A : Option Addr} {c : Nat} (h : WrA base W g len o bs) (hx : Aside0 (InsOk x)) (hA : ∀ W', KT VT base W W' → RdI W' A x.f6) (hl : len ≤ 10000000000) :
    Calls Tryd.prog 26 #[.pointer (some ⟨g, 0, none⟩), insV x A c] W fun e w' => e = .returned (.tuple #[]) ∧ WrA base w' g (len + 100000) (o && !insBad x) (bs ++ insL x) ∧ Aside0 (KT VT base W w') := by
  obtain ⟨b, hV, hbl, hb⟩ := h.out
  refine (vins_any x A c base g b o W hV hx hA (by omega)).mono fun e w' ⟨b', h1, h2, h3, h4, h5⟩ => ⟨h1, ⟨b', h2, by omega, fun ho => ?_⟩, h4⟩
  rw [h3.out ho]
  rw [Bool.and_eq_true] at ho
  rw [hb ho.1]
theorem WrA.of {base g len len' : Nat} {W : World} {o o' : Bool} {bs bs' : List Int} (h : WrA base W g len o bs) (hl : len ≤ len') (ho : o = o') (hb : bs = bs') : WrA base W g len' o' bs' := by
  subst ho; subst hb
  obtain ⟨b, hV, hbl, hb⟩ := h.out
  exact ⟨b, hV, by omega, hb⟩
theorem WrA.step {base g len : Nat} {W W1 : World} {o : Bool} {bs : List Int} (h : WrA base W g len o bs) (k : Bel W W1) : WrA base W1 g len o bs := by
  obtain ⟨b, hV, hbl, hb⟩ := h.out
  obtain ⟨v, hv⟩ := hV.out
  exact ⟨b, ⟨v, hv.keep k⟩, hbl, hb⟩
theorem not_or_and (a b c : Bool) : (a && !(b || c)) = ((a && !b) && !c) := by cases a <;> cases b <;> cases c <;> rfl

set_option maxRecDepth 100000
set_option maxHeartbeats 16000000 in
theorem EncodeRef_any (A : Option Addr) (c : Nat) (l : List SFunc) (w : World) (HR : Rd kFunc w A l) (hin : Aside0 (∀ f ∈ l, FuncIn f)) :
    Calls Tryd.prog 11 #[.agg #[.slice A l.length c]] w fun e w' => ∃ v, e = .returned (.tuple #[v, .int .i64 (encE l)]) ∧ OwnB w w' v (encL l) ∧ Bel w w' := by
  have hm := HR.len
  have hB0 := (Bel.refl w).alloc (.cells #[.slice A l.length c] 24)
  have box := heap_alloc_new w (.cells #[.slice A l.length c] 24)
  have hcnt := Aside0.mk (fun W (k : Bel w W) => Counts_ref A c l W (limB l = false) ⟨Iff.rfl⟩ (HR.step k))
  cases hlb : limB l with
  | true =>
    have e1 : encE l = 9 := by unfold encE; rw [if_pos hlb]
    have e2 : encL l = [] := by unfold encL; rw [e1]; rfl
    have hno := Aside0.mk ((hcnt.out _ hB0).mono (fun e w' h => h.no (by rw [hlb]; simp)))
    rw [e1, e2]
    clear hcnt e1 e2 hlb box
    go_enter Tryd.func11, Tryd.ntmps11
    go_wp2_with (go_at_call 24; ((with_reducible refine hno.out.mono ?_); rintro e w1 ⟨rfl, hB1⟩))
    go_ret2
    exact ⟨_, rfl, Own.nil _ _ _ _, hB0.trans hB1⟩
  | false =>
    have hyes := Aside0.mk ((hcnt.out _ hB0).mono (fun e w' h => h.yes hlb))
    have hlim := (lim_iff l).1 hlb
    have hl8 := hlim.1.2
    have hco := Aside0.mk hlim.2
    have hbadE : ∀ f ∈ l, fBad f = true → encE l = 1 ∧ encL l = [] := fun f hf hb => by
      have e1 : encE l = 1 := by unfold encE; rw [if_neg (by rw [hlb]; decide), if_pos (List.any_eq_true.2 ⟨f, hf, hb⟩)]
      exact ⟨e1, by unfold encL; rw [e1]; rfl⟩
    have hanyE : l.any fBad = true → encE l = 1 ∧ encL l = [] := fun hb => by
      obtain ⟨f, hf, hb⟩ := List.any_eq_true.1 hb
      exact hbadE f hf hb
    have hokE : l.any fBad = false → encE l = 0 ∧ encL l = putL (l.length : Int) ++ l.flatMap fnL := fun hb => by
      have e1 : encE l = 0 := by unfold encE; rw [if_neg (by rw [hlb]; decide), if_neg (by rw [hb]; decide)]
      exact ⟨e1, by unfold encL; rw [if_pos e1]⟩
    replace hbadE := Aside0.mk hbadE
    replace hanyE := Aside0.mk hanyE
    replace hokE := Aside0.mk hokE
    clear hcnt hlb hlim
    replace box := Aside0.mk box
    go_enter Tryd.func11, Tryd.ntmps11
    go_upto_region 4 with (go_at_call 24; ((with_reducible refine hyes.out.mono ?_); rintro e w1 ⟨rfl, hB1⟩))
    have hBw1 := hB0.trans hB1
    have box1 := (hB1.out.block _ (blk_lt box.out)).trans box.out
    have hB2 := (Bel.refl w1).alloc (.cells #[.slice none 0 0, .bool true] 57)
    have hwr := heap_alloc_new w1 (.cells #[.slice none 0 0, .bool true] 57)
    have box2 := (hB2.out.block _ (blk_lt box1)).trans box1
    generalize w1.alloc (.cells #[.slice none 0 0, .bool true] 57) = wa at hB2 hwr box2 ⊢
    have hBwa := hBw1.trans hB2
    have hV0 : WrA w.heap.size wa w1.heap.size 0 true [] := ⟨[], ⟨_, ⟨hBw1.size, hBwa.size, hwr, OwnAt.nil _ _ _ _⟩⟩, by simp, fun _ => rfl⟩
    obtain ⟨g, hg⟩ : ∃ g, w1.heap.size = g := ⟨_, rfl⟩
    obtain ⟨h, hh⟩ : ∃ h, w.heap.size = h := ⟨_, rfl⟩
    rw [hg] at hV0 ⊢
    rw [hh] at box2 ⊢
    have xa : wa.cell? ⟨h, 0, none⟩ = some (.slice A l.length c) := blk_cell box2 0
    have hnum := Aside0.mk (hV0.num (n := (l.length : Int)) (by omega) (by omega))
    rw [show negB (l.length : Int) = false from decide_eq_false (by omega)] at hnum
    simp only [Bool.not_false, Bool.and_true, List.nil_append, Nat.zero_add] at hnum
    replace hg := Aside0.mk hg
    have hxw := Aside0.mk (fun W (k : KT VT w.heap.size wa W) => (blk_cell (k.blk box2 (by decide)) 0 : W.cell? ⟨h, 0, none⟩ = _))
    replace hh := Aside0.mk hh
    clear hyes box box1 box2 hwr hV0
    go_upto_region 5 with (go_at_call 25; ((with_reducible refine hnum.out.mono ?_); rintro e w2 ⟨rfl, hV1, hK1⟩))
    obtain ⟨b0, hb0⟩ : ∃ b, Aside0 (putL (l.length : Int) = b) := ⟨_, ⟨rfl⟩⟩
    rw [hb0.out] at hV1
    clear hnum xa
    go_wp2
    go_loopw [5] (fun i W => ∃ k : Nat, k ≤ l.length ∧ i = .int .i64 k ∧ WrA w.heap.size W g (10 + 200000000 * k) (!(l.take k).any fBad) (b0 ++ (l.take k).flatMap fnL) ∧ Aside0 (KT VT w.heap.size wa W)) (fun i _ => l.length - (intOf i).toNat)
    case atStart => exact ⟨0, by omega, rfl, by simpa using hV1, hK1⟩
    case round =>
      clear hV1 hK1
      obtain ⟨k, hk, rfl, hVk, hKk⟩ := hrel
      have hBr : Bel w wr := hKk.out.bel hBwa
      have xr := hxw.out wr hKk.out
      by_cases hlt : k < l.length
      · obtain ⟨ad, A0, A1, A4, c0, c1, c4, rfl, h0, h1, h2, h3, h4, hR0, hR1, hR4, hc0, hc1, hc4⟩ := func_at HR k hlt
        replace h0 := Bel.cell hBr h0
        replace h1 := Bel.cell hBr h1
        replace h2 := Bel.cell hBr h2
        replace h3 := Bel.cell hBr h3
        replace h4 := Bel.cell hBr h4
        have hok := Aside0.mk ((hin.out l[k] (List.getElem_mem hlt)).ok (hco.out l[k] (List.getElem_mem hlt)))
        have hcx := Aside0.mk ((counts_iff _).1 (hco.out l[k] (List.getElem_mem hlt)))
        have hbad := Aside0.mk (hbadE.out l[k] (List.getElem_mem hlt))
        have hfb := Aside0.mk (fb_snoc hlt)
        have hfl := Aside0.mk (fl_snoc hlt)
        obtain ⟨x, hx⟩ : ∃ x, Aside0 (l[k] = x) := ⟨_, ⟨rfl⟩⟩
        rw [hx.out] at h0 h1 h2 h3 h4 hR0 hR1 hR4 hok hcx hfb hfl hbad
        have hm0 := hR0.len
        have hm1 := hR1.len
        have hl48 := hcx.out.1
        have hl40 := hcx.out.2.1
        clear hc0 hc1 hc4
        go_upto_region 9 with (fail)
        have hBb := (Bel.refl wr).alloc (.cells #[.slice A0 x.f0.length c0, .slice A1 x.f1.length c1, .int .i64 x.f2, .int .i64 x.f3, .slice A4 x.f4.length c4] 43)
        have bx := heap_alloc_new wr (.cells #[.slice A0 x.f0.length c0, .slice A1 x.f1.length c1, .int .i64 x.f2, .int .i64 x.f3, .slice A4 x.f4.length c4] 43)
        have hVb := hVk.step hBb
        have hKb := Aside0.mk (hKk.out.trans (KT.of_bel hBb hBr.size VT))
        generalize wr.alloc (.cells #[.slice A0 x.f0.length c0, .slice A1 x.f1.length c1, .int .i64 x.f2, .int .i64 x.f3, .slice A4 x.f4.length c4] 43) = wb at hBb bx hVb hKb ⊢
        obtain ⟨b, hb⟩ : ∃ b, wr.heap.size = b := ⟨_, rfl⟩
        rw [hb] at bx ⊢
        have hBwb := hBr.trans hBb
        have y0 : wb.cell? ⟨b, 0, none⟩ = some (.slice A0 x.f0.length c0) := blk_cell bx 0
        have y1 : wb.cell? ⟨b, 1, none⟩ = some (.slice A1 x.f1.length c1) := blk_cell bx 1
        have hyw := Aside0.mk (fun W (k : KT VT w.heap.size wb W) => k.blk bx (by decide))
        replace hb := Aside0.mk hb
        clear h0 h1 h2 h3 h4 hVk
        obtain ⟨bk, hbk⟩ : ∃ y, Aside0 (b0 ++ (l.take k).flatMap fnL = y) := ⟨_, ⟨rfl⟩⟩
        obtain ⟨ok, hoK⟩ : ∃ y, Aside0 ((!(l.take k).any fBad) = y) := ⟨_, ⟨rfl⟩⟩
        rw [hbk.out, hoK.out] at hVb
        by_cases hll : x.f1.length = x.f0.length
        case neg =>
          have q1 : ((x.f1.length : Int) != (x.f0.length : Int)) = true := by simp; omega
          have q2 : (x.f1.length == x.f0.length) = false := by simpa using hll
          have hE := Aside0.mk (hbad.out (by unfold fBad; simp [hll]))
          clear hll
          go_wp2
          go_ret2
          rw [hE.out.1, hE.out.2]
          exact ⟨_, rfl, Own.nil _ _ _ _, hBwb⟩
        have q1 : ((x.f1.length : Int) != (x.f0.length : Int)) = false := by simp; omega
        have q2 : (x.f1.length == x.f0.length) = true := by simpa using hll
        have hll1 : x.f1.length ≤ x.f0.length := by omega
        have hll2 : x.f0.length ≤ x.f1.length := by omega
        replace hll := Aside0.mk hll
        have hnum := Aside0.mk (hVb.num (n := (x.f0.length : Int)) (by omega) (by omega))
        rw [show negB (x.f0.length : Int) = false from decide_eq_false (by omega)] at hnum
        simp only [Bool.not_false, Bool.and_true] at hnum
        go_upto_region 12 with (go_at_call 25; ((with_reducible refine hnum.out.mono ?_); rintro e w3 ⟨rfl, hV3, hK3⟩))
        obtain ⟨b1, hb1⟩ : ∃ y, Aside0 (bk ++ putL (x.f0.length : Int) = y) := ⟨_, ⟨rfl⟩⟩
        rw [hb1.out] at hV3
        obtain ⟨n1, hn1⟩ : ∃ n, 10 + 200000000 * k + 10 = n := ⟨_, rfl⟩
        have hn1l : n1 ≤ 1600000020 := by omega
        rw [hn1] at hV3
        clear hnum hVb y0 y1 q1 q2 xr
        go_wp2
        go_loopw [7] (fun i W => ∃ j : Nat, j ≤ x.f0.length ∧ i = .int .i64 j ∧ WrA w.heap.size W g (n1 + 20 * j) (ok && !kbsBad x.f0 x.f1 j) (b1 ++ kbsL x.f0 x.f1 j) ∧ Aside0 (KT VT w.heap.size wb W)) (fun i _ => x.f0.length - (intOf i).toNat)
        case atStart => exact ⟨0, by omega, rfl, by simpa [kbsBad, kbsL] using hV3, hK3⟩
        case round =>
          clear hV3 hK3
          obtain ⟨j, hj, rfl, hVj, hKj⟩ := hrel
          have hBj : Bel w wr := hKj.out.bel hBwb
          have hbx := hyw.out wr hKj.out
          have y0 : wr.cell? ⟨b, 0, none⟩ = some (.slice A0 x.f0.length c0) := blk_cell hbx 0
          have y1 : wr.cell? ⟨b, 1, none⟩ = some (.slice A1 x.f1.length c1) := blk_cell hbx 1
          have y2 : wr.cell? ⟨b, 2, none⟩ = some (.int .i64 x.f2) := blk_cell hbx 2
          have y3 : wr.cell? ⟨b, 3, none⟩ = some (.int .i64 x.f3) := blk_cell hbx 3
          have y4 : wr.cell? ⟨b, 4, none⟩ = some (.slice A4 x.f4.length c4) := blk_cell hbx 4
          obtain ⟨bj, hbj⟩ : ∃ y, Aside0 (b1 ++ kbsL x.f0 x.f1 j = y) := ⟨_, ⟨rfl⟩⟩
          obtain ⟨oj, hoj⟩ : ∃ y, Aside0 ((ok && !kbsBad x.f0 x.f1 j) = y) := ⟨_, ⟨rfl⟩⟩
          rw [hbj.out, hoj.out] at hVj
          by_cases hltj : j < x.f0.length
          · have hltj1 : j < x.f1.length := by omega
            obtain ⟨ad0, rfl, i0⟩ := rd_atN hR0 j hltj
            obtain ⟨ad1, rfl, i1⟩ := rd_atN hR1 j hltj1
            have hkd := (show IntsOk x.f0 from ⟨hok.out.f0⟩).at_ j hltj
            have hbd := (show IntsOk x.f1 from ⟨hok.out.f1⟩).at_ j hltj1
            have hs1 := Aside0.mk (kbsL_snoc x.f0 x.f1 j)
            have hs2 := Aside0.mk (kbsBad_snoc x.f0 x.f1 j)
            have hbd2 := Aside0.mk (fun (q : kbBad (rd x.f0 (j : Int)) (rd x.f1 (j : Int)) = true) => hbad.out (by unfold fBad fnBad; rw [show kbsBad x.f0 x.f1 x.f0.length = true from List.any_eq_true.2 ⟨j, List.mem_range.2 hltj, q⟩]; simp))
            obtain ⟨kd, hkd'⟩ : ∃ n, rd x.f0 (j : Int) = n := ⟨_, rfl⟩
            obtain ⟨bd, hbd'⟩ : ∃ n, rd x.f1 (j : Int) = n := ⟨_, rfl⟩
            rw [hkd'] at i0 hkd hs1 hs2 hbd2
            rw [hbd'] at i1 hbd hs1 hs2 hbd2
            clear hkd' hbd'
            have hiw := Aside0.mk (fun W (q : KT VT w.heap.size wb W) => (⟨blk_cell (hyw.out W q) 0, blk_cell (hyw.out W q) 1, Bel.cell (q.bel hBwb) i0, Bel.cell (q.bel hBwb) i1⟩ : W.cell? ⟨b, 0, none⟩ = some (.slice (some ad0) x.f0.length c0) ∧ W.cell? ⟨b, 1, none⟩ = some (.slice (some ad1) x.f1.length c1) ∧ W.cell? (ad0.add j) = some (.int .i64 kd) ∧ W.cell? (ad1.add j) = some (.int .i64 bd)))
            replace i0 := Bel.cell hBj i0
            replace i1 := Bel.cell hBj i1
            by_cases k1 : kd < 0
            · have hE := Aside0.mk (hbd2.out (by unfold kbBad negB; simp [k1]))
              go_wp2
              go_ret2
              rw [hE.out.1, hE.out.2]
              exact ⟨_, rfl, Own.nil _ _ _ _, hBj⟩
            by_cases k2 : 2 < kd
            · have hE := Aside0.mk (hbd2.out (by unfold kbBad; simp [k2, show kd ≠ 2 by omega]))
              go_wp2
              go_ret2
              rw [hE.out.1, hE.out.2]
              exact ⟨_, rfl, Own.nil _ _ _ _, hBj⟩
            have hnum := Aside0.mk (hVj.num (n := kd) hkd.2 (by omega))
            rw [show negB kd = false from decide_eq_false k1] at hnum
            simp only [Bool.not_false, Bool.and_true] at hnum
            by_cases k3 : kd = 2
            · have b2 : (kd == 2) = true := by simpa using k3
              have b3 : (kd != 2) = false := by simp [k3]
              have e1 := Aside0.mk (show kbL kd bd = putL kd ++ putL bd from by unfold kbL; rw [if_pos k3])
              have e2 := Aside0.mk (show kbBad kd bd = negB bd from by unfold kbBad; rw [if_pos k3, show negB kd = false from decide_eq_false k1, Bool.false_or])
              replace k3 := Aside0.mk k3
              have hnum2 := Aside0.mk (fun W (q : WrA w.heap.size W g (n1 + 20 * j + 10) oj (bj ++ putL kd)) => q.num (n := bd) hbd.2 (by omega))
              go_wp2_with (go_at_call 25; first | ((with_reducible refine hnum.out.mono ?_); rintro e w4 ⟨rfl, hV4, hK4⟩; obtain ⟨u0, u1, u2, u3⟩ := hiw.out w4 (hKj.out.trans hK4.out)) | ((with_reducible refine (hnum2.out w4 hV4).mono ?_); rintro e w5 ⟨rfl, hV5, hK5⟩))
              go_roundw
              case rel => exact ⟨j + 1, by omega, by go_num, hV5.of (by omega) (by rw [hs2.out, e2.out, not_or_and, hoj.out]) (by rw [hs1.out, e1.out, ← List.append_assoc, hbj.out, List.append_assoc]), ⟨hKj.out.trans (hK4.out.trans hK5.out)⟩⟩
              case measure => simp [intOf]; omega
            · have b2 : (kd == 2) = false := by simpa using k3
              have b3 : (kd != 2) = true := by simp [k3]
              by_cases k4 : bd = -1
              case neg =>
                have b4 : (bd != -1) = true := by simpa using k4
                have hE := Aside0.mk (hbd2.out (by unfold kbBad; rw [if_neg k3, b4]; simp))
                clear k4 k3
                go_wp2
                go_ret2
                rw [hE.out.1, hE.out.2]
                exact ⟨_, rfl, Own.nil _ _ _ _, hBj⟩
              have b4 : (bd != -1) = false := by simp [k4]
              have e1 := Aside0.mk (show kbL kd bd = putL kd from by unfold kbL; rw [if_neg k3, List.append_nil])
              have e2 := Aside0.mk (show kbBad kd bd = false from by unfold kbBad; rw [if_neg k3, b4, show negB kd = false from decide_eq_false k1, decide_eq_false k2]; rfl)
              replace k4 := Aside0.mk k4
              replace k3 := Aside0.mk k3
              go_wp2_with (go_at_call 25; ((with_reducible refine hnum.out.mono ?_); rintro e w4 ⟨rfl, hV4, hK4⟩; obtain ⟨u0, u1, u2, u3⟩ := hiw.out w4 (hKj.out.trans hK4.out)))
              go_roundw
              case rel => exact ⟨j + 1, by omega, by go_num, hV4.of (by omega) (by rw [hs2.out, e2.out, Bool.or_false, hoj.out]) (by rw [hs1.out, e1.out, ← List.append_assoc, hbj.out]), ⟨hKj.out.trans hK4.out⟩⟩
              case measure => simp [intOf]; omega
          · have hjn : j = x.f0.length := by omega
            have hm4 := hR4.len
            have w1' := Aside0.mk (fun W (q : KT VT w.heap.size wb W) => (⟨blk_cell (hyw.out W q) 2, blk_cell (hyw.out W q) 3, blk_cell (hyw.out W q) 4⟩ : W.cell? ⟨b, 2, none⟩ = some (.int .i64 x.f2) ∧ W.cell? ⟨b, 3, none⟩ = some (.int .i64 x.f3) ∧ W.cell? ⟨b, 4, none⟩ = some (.slice A4 x.f4.length c4)))
            have hn1 := Aside0.mk (hVj.num (n := x.f2) hok.out.f2.2 (by omega))
            have hn2 := Aside0.mk (fun W (q : WrA w.heap.size W g (n1 + 20 * j + 10) (oj && !negB x.f2) (bj ++ putL x.f2)) => q.num (n := x.f3) hok.out.f3.2 (by omega))
            have hn3 := Aside0.mk (fun W (q : WrA w.heap.size W g (n1 + 20 * j + 10 + 10) ((oj && !negB x.f2) && !negB x.f3) ((bj ++ putL x.f2) ++ putL x.f3)) => q.num (n := (x.f4.length : Int)) (by omega) (by omega))
            go_upto_region 23 with (go_at_call 25; first | ((with_reducible refine hn1.out.mono ?_); rintro e w4 ⟨rfl, hV4, hK4⟩; obtain ⟨u0, u1, u2⟩ := w1'.out w4 (hKj.out.trans hK4.out)) | ((with_reducible refine (hn2.out w4 hV4).mono ?_); rintro e w5 ⟨rfl, hV5, hK5⟩; obtain ⟨v0, v1, v2⟩ := w1'.out w5 (hKj.out.trans (hK4.out.trans hK5.out))) | ((with_reducible refine (hn3.out w5 hV5).mono ?_); rintro e w6 ⟨rfl, hV6, hK6⟩))
            rw [show negB (x.f4.length : Int) = false from decide_eq_false (by omega), Bool.not_false, Bool.and_true] at hV6
            obtain ⟨b2, hb2⟩ : ∃ y, Aside0 (((bj ++ putL x.f2) ++ putL x.f3) ++ putL (x.f4.length : Int) = y) := ⟨_, ⟨rfl⟩⟩
            obtain ⟨o2, ho2⟩ : ∃ y, Aside0 (((oj && !negB x.f2) && !negB x.f3) = y) := ⟨_, ⟨rfl⟩⟩
            rw [hb2.out, ho2.out] at hV6
            have hK7 := Aside0.mk (hKj.out.trans (hK4.out.trans (hK5.out.trans hK6.out)))
            have hn2l : n1 + 20 * j + 10 + 10 + 10 ≤ n1 + 1000 := by omega
            replace hV6 := hV6.of (len' := n1 + 1000) hn2l rfl rfl
            have hfin := Aside0.mk (show ok = ok from rfl)
            clear hn1 hn2 hn3 hV4 hV5 hK4 hK5 hK6 u0 u1 u2 v0 v1 v2 y0 y1 y2 y3 y4 hn2l hVj
            go_wp2
            go_loopw [8] (fun i W => ∃ m : Nat, m ≤ x.f4.length ∧ i = .int .i64 m ∧ WrA w.heap.size W g (n1 + 1000 + 4100000 * m) (o2 && !(x.f4.take m).any blockBad) (b2 ++ (x.f4.take m).flatMap blockL) ∧ Aside0 (KT VT w.heap.size wb W)) (fun i _ => x.f4.length - (intOf i).toNat)
            case atStart => exact ⟨0, by omega, rfl, by simpa using hV6, hK7⟩
            case round =>
              clear hV6 hK7
              obtain ⟨m, hmm, rfl, hVm, hKm⟩ := hrel
              have hBm : Bel w wr := hKm.out.bel hBwb
              have y4 := (w1'.out wr hKm.out).2.2
              by_cases hltm : m < x.f4.length
              · obtain ⟨ad4, A6, c6, rfl, h5, hc6, hR6⟩ := block_at hR4 m hltm
                have hsn1 := Aside0.mk (bl_snoc hltm)
                have hsn2 := Aside0.mk (bl_any hltm)
                have hzl := hok.out.lb x.f4[m] (List.getElem_mem hltm)
                have hzo := Aside0.mk (fun (y : SIns) (hy : y ∈ (x.f4[m]).f0) => hok.out.f4 x.f4[m] (List.getElem_mem hltm) y hy)
                obtain ⟨z, hz⟩ : ∃ z, Aside0 (x.f4[m] = z) := ⟨_, ⟨rfl⟩⟩
                rw [hz.out] at h5 hR6 hsn1 hsn2 hzl hzo
                have h5w := Aside0.mk (fun W (q : KT VT w.heap.size wb W) => (Bel.cell (q.bel hBwb) h5 : W.cell? (ad4.add m) = _))
                replace h5 := Bel.cell hBm h5
                clear hc6
                obtain ⟨bm, hbm⟩ : ∃ y, Aside0 (b2 ++ (x.f4.take m).flatMap blockL = y) := ⟨_, ⟨rfl⟩⟩
                obtain ⟨om, hom⟩ : ∃ y, Aside0 ((o2 && !(x.f4.take m).any blockBad) = y) := ⟨_, ⟨rfl⟩⟩
                rw [hbm.out, hom.out] at hVm
                have hnum := Aside0.mk (hVm.num (n := (z.f0.length : Int)) (by omega) (by omega))
                rw [show negB (z.f0.length : Int) = false from decide_eq_false (by omega)] at hnum
                simp only [Bool.not_false, Bool.and_true] at hnum
                go_upto_region 27 with (go_at_call 25; ((with_reducible refine hnum.out.mono ?_); rintro e w4 ⟨rfl, hV4, hK4⟩))
                obtain ⟨b3, hb3⟩ : ∃ y, Aside0 (bm ++ putL (z.f0.length : Int) = y) := ⟨_, ⟨rfl⟩⟩
                rw [hb3.out] at hV4
                have hK5 := Aside0.mk (hKm.out.trans hK4.out)
                clear hnum hVm y4 h5
                go_wp2
                go_loopw [9] (fun i W => ∃ q : Nat, q ≤ z.f0.length ∧ i = .int .i64 q ∧ WrA w.heap.size W g (n1 + 1000 + 4100000 * m + 10 + 100000 * q) (om && !(z.f0.take q).any insBad) (b3 ++ codeL (z.f0.take q)) ∧ Aside0 (KT VT w.heap.size wb W)) (fun i _ => z.f0.length - (intOf i).toNat)
                case atStart => exact ⟨0, by omega, rfl, by simpa [codeL] using hV4, hK5⟩
                case round =>
                  clear hV4 hK5
                  obtain ⟨q, hq, rfl, hVq, hKq⟩ := hrel
                  have hBq : Bel w wr := hKq.out.bel hBwb
                  have y4 := (w1'.out wr hKq.out).2.2
                  have h5 := h5w.out wr hKq.out
                  by_cases hltq : q < z.f0.length
                  · obtain ⟨ad6, A7, c7, rfl, i0, i1, i2, i3, i4, i5, i6, hc7, hR7⟩ := ins_at hR6 q hltq
                    have hcn1 := Aside0.mk (co_snoc hltq)
                    have hcn2 := Aside0.mk (co_any hltq)
                    have hyo := Aside0.mk (hzo.out z.f0[q] (List.getElem_mem hltq))
                    obtain ⟨y, hy⟩ : ∃ y, Aside0 (z.f0[q] = y) := ⟨_, ⟨rfl⟩⟩
                    rw [hy.out] at i0 i1 i2 i3 i4 i5 i6 hR7 hcn1 hcn2 hyo
                    replace i0 := Bel.cell hBq i0
                    replace i1 := Bel.cell hBq i1
                    replace i2 := Bel.cell hBq i2
                    replace i3 := Bel.cell hBq i3
                    replace i4 := Bel.cell hBq i4
                    replace i5 := Bel.cell hBq i5
                    replace i6 := Bel.cell hBq i6
                    obtain ⟨bq, hbq⟩ : ∃ y, Aside0 (b3 ++ codeL (z.f0.take q) = y) := ⟨_, ⟨rfl⟩⟩
                    obtain ⟨oq, hoq⟩ : ∃ y, Aside0 ((om && !(z.f0.take q).any insBad) = y) := ⟨_, ⟨rfl⟩⟩
                    rw [hbq.out, hoq.out] at hVq
                    have hins := hVq.ins (c := c7) hyo (fun W k => hR7.step (k.bel hBq)) (by omega)
                    unfold insV at hins
                    replace hins := Aside0.mk hins
                    clear hc7 hR7
                    go_wp2_with (go_at_call 26; ((with_reducible refine hins.out.mono ?_); rintro e w5 ⟨rfl, hV5, hK5⟩))
                    go_roundw
                    case rel => exact ⟨q + 1, by omega, by go_num, hV5.of (by omega) (by rw [hcn2.out, not_or_and, hoq.out]) (by rw [hcn1.out, ← List.append_assoc, hbq.out]), ⟨hKq.out.trans hK5.out⟩⟩
                    case measure => simp [intOf]; omega
                  · have htk : z.f0.take q = z.f0 := List.take_of_length_le (by omega)
                    rw [htk] at hVq
                    have hnext := Aside0.mk (hVq.of (len' := n1 + 1000 + 4100000 * (m + 1)) (o' := o2 && !(x.f4.take (m + 1)).any blockBad) (bs' := b2 ++ (x.f4.take (m + 1)).flatMap blockL) (by omega) (by rw [hsn2.out, not_or_and, hom.out]; rfl) (by rw [hsn1.out, ← List.append_assoc, hbm.out, blockL, ← List.append_assoc, hb3.out]))
                    go_wp2
                    go_roundw
                    case rel => exact ⟨m + 1, by omega, by go_num, hnext.out, hKq⟩
                    case measure => simp [intOf]; omega
              · have htk : x.f4.take m = x.f4 := List.take_of_length_le (by omega)
                rw [htk] at hVm
                have hnext := Aside0.mk (hVm.of (len' := 10 + 200000000 * (k + 1)) (o' := !(l.take (k + 1)).any fBad) (bs' := b0 ++ (l.take (k + 1)).flatMap fnL) (by omega)
                  (by
                    rw [hfb.out, Bool.not_or, hoK.out, ← ho2.out, ← hoj.out, hjn, fBad, fnBad]
                    simp [hll.out, Bool.and_assoc])
                  (by
                    rw [hfl.out, ← List.append_assoc, hbk.out, ← hb2.out, ← hbj.out, ← hb1.out, hjn, fnL, headL]
                    simp [listL, List.append_assoc]))
                go_wp2
                go_roundw
                case rel => exact ⟨k + 1, by omega, by go_num, hnext.out, ⟨(hKk.out.trans (KT.of_bel hBb hBr.size VT)).trans hKm.out⟩⟩
                case measure => simp [intOf]; omega
      · have htk : l.take k = l := List.take_of_length_le (by omega)
        rw [htk] at hVk
        obtain ⟨bF, hVF, _, hbF⟩ := hVk.out
        obtain ⟨v, hv⟩ := hVF.out
        have z0 : wr.cell? ⟨g, 0, none⟩ = some v := blk_cell hv.blk 0
        have z1 : wr.cell? ⟨g, 1, none⟩ = some (.bool (!l.any fBad)) := blk_cell hv.blk 1
        replace hv := Aside0.mk hv
        replace hbF := Aside0.mk hbF
        cases hany : l.any fBad with
        | true =>
          rw [hany] at z1
          have hE := Aside0.mk (hanyE.out hany)
          clear hany hVk hVF
          go_wp2
          go_ret2
          rw [hE.out.1, hE.out.2]
          exact ⟨_, rfl, Own.nil _ _ _ _, hBr⟩
        | false =>
          rw [hany] at z1
          have hE := Aside0.mk (hokE.out hany)
          have hbb := Aside0.mk (hbF.out (by rw [hany]; rfl))
          clear hany hVk hVF
          go_wp2
          go_ret2
          rw [hE.out.1, hE.out.2]
          refine ⟨_, rfl, ?_, hBr⟩
          have := hv.out.own
          rw [hbb.out, ← hb0.out] at this
          exact this
end Go.Proofs.YtijdmnjkiiemlaaDoor.H
