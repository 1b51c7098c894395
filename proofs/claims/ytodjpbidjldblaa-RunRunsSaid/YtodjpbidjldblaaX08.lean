/- Texts joined. Conditions: each stands with its theorem. -/
import Derived.Test.YtodjpbidjldblaaX07
import Derived.Laws.Closers25
import Derived.Test.YtodjpbidjldblaaX00
import Derived.Deep.Slices
import Derived.SizedLaws
import Derived.ChangeArms
namespace Go.Proofs.Ytodjpbidjldblaa.H
open Go.RowKit Go.Proofs.YtodjpbidjldblaaW.PrintWords Go.Proofs.YtodjpbidjldblaaW.PrintLast Go.Proofs.YtodjpbidjldblaaW.PrintMore
set_option linter.unusedVariables false
set_option linter.unusedSimpArgs false
set_option maxRecDepth 100000
def allUses (x : SIns) : List Int := usesL x ++ (if has x.f0 68 then [x.f1] else [])
theorem insP_of {p : SProg} {f : SFunc} {x : SIns} (hop : partsL x.f0 ≠ []) (hb : (x.f1 = 0 ∨ has x.f0 68) ∧ (x.f2 = 0 ∨ has x.f0 65) ∧ (x.f3 = 0 ∨ has x.f0 66)) (hU : ∀ v ∈ allUses x, 0 ≤ v ∧ v < (f.f0.length : Int)) (hN : ∀ v ∈ nextL x, 1 ≤ v ∧ v < (f.f4.length : Int))
  (hcall : x.f0 = 19 → (0 ≤ x.f4 ∧ x.f4 < p.f0.length) ∧ (x.f6.length : Int) = (fnAt p x.f4.toNat).f2) (halloc : x.f0 = 10 → (0 ≤ x.f4 ∧ x.f4 ≤ 8) ∧ 0 ≤ x.f5 ∧ x.f5 ≤ 8) : InsP p f x := by
 refine ⟨hop, hb.1, hb.2.1, hb.2.2, fun h => hU _ ?_, fun h => hU _ ?_, fun h => hU _ ?_, fun h v hv => hU _ ?_, fun h => ?_, fun h => ?_, hcall, halloc⟩
 ·simp [allUses, h]
 ·simp [allUses, usesL, h]
 ·simp [allUses, usesL, h]
 ·simp [allUses, usesL, h, hv]
 ·exact hN _ (by simp [nextL, h])
 ·have e : nextL x = if x.f4 = x.f5 then [x.f4] else [mn x.f4 x.f5, mx x.f4 x.f5] := by simp [nextL, h]
  rw [e] at hN
  by_cases h2 : x.f4 = x.f5
  ·rw [if_pos h2] at hN
   have := hN x.f4 (by simp)
   rw [← h2]
   exact ⟨this, this⟩
  ·rw [if_neg h2] at hN
   have h3 := hN (mn x.f4 x.f5) (by simp)
   have h4 := hN (mx x.f4 x.f5) (by simp)
   unfold mn at h3
   unfold mx at h4
   split at h3 <;> split at h4 <;> exact ⟨by omega, by omega⟩
def InsIs (p : SProg) (n : Nat) (x : SIns) (w : World) (e : Ending) (w' : World) : Prop := ∃ b, e = .returned (.bool b) ∧ (b = true → InsP p (fnAt p n) x) ∧ Bel w w'
theorem InsIs.no {p : SProg} {n : Nat} {x : SIns} {w w' : World} (h : Bel w w') : InsIs p n x w (.returned (.bool false)) w' := ⟨false, rfl, (fun q => by cases q), h⟩
set_option maxHeartbeats 8000000 in
theorem Ins_any (p : SProg) (n : Nat) (x : SIns) (PA : Option Addr) (pc : Nat) (A6 : Option Addr) (c6 : Nat) (w : World) (hP : Rd kFunc w PA p.f0) (hn : n < p.f0.length) (hp8 : p.f0.length ≤ 8) (hR6 : RdI w A6 x.f6) (hc6 : x.f6.length ≤ c6) (hl6 : x.f6.length ≤ 100000)
  (h48 : (fnAt p n).f0.length ≤ 48) (h40 : (fnAt p n).f4.length ≤ 40) :
  Calls Try.prog 47 #[.agg #[.slice PA p.f0.length pc], .int .i64 n, insV x A6 c6] w (InsIs p n x w) := by
 obtain ⟨g, hg⟩ : ∃ g, w.heap.size = g := ⟨_, rfl⟩
 have hB := ((Bel.refl w).alloc (.cells #[.slice PA p.f0.length pc] 24)).alloc (.cells #[.int .i64 x.f0, .int .i64 x.f1, .int .i64 x.f2, .int .i64 x.f3, .int .i64 x.f4, .int .i64 x.f5, .slice A6 x.f6.length c6] 57)
 have hbp := heap_old (o' := .cells #[.int .i64 x.f0, .int .i64 x.f1, .int .i64 x.f2, .int .i64 x.f3, .int .i64 x.f4, .int .i64 x.f5, .slice A6 x.f6.length c6] 57) (heap_new' (o := .cells #[.slice PA p.f0.length pc] 24) hg.symm)
 have hx : ((w.alloc (.cells #[.slice PA p.f0.length pc] 24)).alloc (.cells #[.int .i64 x.f0, .int .i64 x.f1, .int .i64 x.f2, .int .i64 x.f3, .int .i64 x.f4, .int .i64 x.f5, .slice A6 x.f6.length c6] 57)).heap[g + 1]? = _ := heap_new' (j := g + 1) (by simp [hg])
 go_enter Try.func47, Try.ntmps47
 go_upto_region 1 with (fail)
 generalize (w.alloc (.cells #[.slice PA p.f0.length pc] 24)).alloc (.cells #[.int .i64 x.f0, .int .i64 x.f1, .int .i64 x.f2, .int .i64 x.f3, .int .i64 x.f4, .int .i64 x.f5, .slice A6 x.f6.length c6] 57) = wa at hB hbp hx ⊢
 replace hg := Aside0.mk hg
 have q1 : (n : Int) < (p.f0.length : Int) := by omega
 have hwi := Aside0.mk (fun n a b W => within_any n a b W)
 have hw0 := Aside0.mk (fun W => hwi.out n 0 ((p.f0.length : Int) - 1) W)
 rw [show decide ((0 : Int) ≤ (n : Int) ∧ (n : Int) ≤ (p.f0.length : Int) - 1) = true from decide_eq_true (by omega)] at hw0
 obtain ⟨s, hps, hse⟩ := Parts_any x.f0 wa
 replace hps := Aside0.mk hps
 have y0 : wa.cell? ⟨g, 0, none⟩ = some (.slice PA p.f0.length pc) := blk_cell hbp 0
 have x0 : wa.cell? ⟨g + 1, 0, none⟩ = some (.int .i64 x.f0) := blk_cell hx 0
 by_cases hop : partsL x.f0 = []
 ·obtain rfl := hse.2 hop
  clear hse hop
  go_wp2_with (first | (go_at_call 45; ((with_reducible refine (hw0.out _).mono ?_); rintro e w2 ⟨rfl, rfl⟩)) | (go_at_call 66; ((with_reducible refine hps.out.mono ?_); rintro e w2 ⟨rfl, ⟨nd, rfl⟩⟩)))
  go_ret
  exact .no (hB.drewN nd)
 ·have q2 : s.toList.isEmpty = false := (decide_eq_emptyBytes s).symm.trans (decide_eq_false (fun q => hop (hse.1 q)))
  have x1 : ∀ nd, (wa.drewN nd).cell? ⟨g + 1, 1, none⟩ = some (.int .i64 x.f1) := fun nd => blk_cell (((Bel.refl wa).drewN nd).blk hx) 1
  have x2 : ∀ nd, (wa.drewN nd).cell? ⟨g + 1, 2, none⟩ = some (.int .i64 x.f2) := fun nd => blk_cell (((Bel.refl wa).drewN nd).blk hx) 2
  have x3 : ∀ nd, (wa.drewN nd).cell? ⟨g + 1, 3, none⟩ = some (.int .i64 x.f3) := fun nd => blk_cell (((Bel.refl wa).drewN nd).blk hx) 3
  have x4 : ∀ nd, (wa.drewN nd).cell? ⟨g + 1, 4, none⟩ = some (.int .i64 x.f4) := fun nd => blk_cell (((Bel.refl wa).drewN nd).blk hx) 4
  have x5 : ∀ nd, (wa.drewN nd).cell? ⟨g + 1, 5, none⟩ = some (.int .i64 x.f5) := fun nd => blk_cell (((Bel.refl wa).drewN nd).blk hx) 5
  have x6 : ∀ nd, (wa.drewN nd).cell? ⟨g + 1, 6, none⟩ = some (.slice A6 x.f6.length c6) := fun nd => blk_cell (((Bel.refl wa).drewN nd).blk hx) 6
  have x0' : ∀ nd, (wa.drewN nd).cell? ⟨g + 1, 0, none⟩ = some (.int .i64 x.f0) := fun nd => blk_cell (((Bel.refl wa).drewN nd).blk hx) 0
  have hba := Aside0.mk (fun W => bare_any x A6 c6 W)
  have hop := Aside0.mk hop
  clear hse
  go_upto_region 3 with (first | (go_at_call 45; ((with_reducible refine (hw0.out _).mono ?_); rintro e w2 ⟨rfl, rfl⟩)) | (go_at_call 66; ((with_reducible refine hps.out.mono ?_); rintro e w2 ⟨rfl, ⟨nd, rfl⟩⟩)) | (go_at_call 67; ((with_reducible refine (hba.out _).mono ?_); rintro e wb ⟨bb, rfl, hbb, hBb⟩; cases bb)))
  ·go_wp2
   go_ret
   exact .no ((hB.drewN nd).trans hBb)
  have hBb := ((Bel.refl wa).drewN nd).trans hBb
  have hbb := Aside0.mk (hbb (by trivial))
  clear x0 x1 x2 x3 x4 x5 x6 x0' y0 hw0 hps hba q2
  have hBw := hB.trans hBb
  have hbp := hBb.blk hbp
  have hx := hBb.blk hx
  have y0 : wb.cell? ⟨g, 0, none⟩ = some (.slice PA p.f0.length pc) := blk_cell hbp 0
  obtain ⟨ad, F0, F1, F4, d0, d1, d4, hPA, u0, u1, u2, u3, u4, r0, r1, r4, l0, l1, l4⟩ := func_at (hP.step hBw) n hn
  have ef : p.f0[n] = fnAt p n := by unfold fnAt; rw [getD_at hn]
  rw [ef] at u0 u1 u2 u3 u4 r0 r1 r4 l0 l1 l4
  rw [hPA] at y0 hbp
  obtain ⟨f, hf⟩ : ∃ f, fnAt p n = f := ⟨_, rfl⟩
  rw [hf] at u0 u1 u2 u3 u4 r0 r1 r4 l0 l1 l4 h48 h40
  obtain ⟨F, hF⟩ : ∃ F, wb.heap.size = F := ⟨_, rfl⟩
  have hBc := (Bel.refl wb).alloc (.cells #[.slice F0 f.f0.length d0, .slice F1 f.f1.length d1, .int .i64 f.f2, .int .i64 f.f3, .slice F4 f.f4.length d4] 52)
  have hbf := heap_new' (o := .cells #[.slice F0 f.f0.length d0, .slice F1 f.f1.length d1, .int .i64 f.f2, .int .i64 f.f3, .slice F4 f.f4.length d4] 52) hF.symm
  replace hPA := Aside0.mk hPA
  replace hf := Aside0.mk hf
  clear ef
  go_upto_region 4 with (fail)
  generalize wb.alloc (.cells #[.slice F0 f.f0.length d0, .slice F1 f.f1.length d1, .int .i64 f.f2, .int .i64 f.f3, .slice F4 f.f4.length d4] 52) = wq at hBc hbf ⊢
  replace hF := Aside0.mk hF
  clear y0 u0 u1 u2 u3 u4
  have hBw := hBw.trans hBc
  have hbp := hBc.blk hbp
  have hx := hBc.blk hx
  have hus := Aside0.mk (Uses_any x A6 c6 wq (hR6.step hBw) hc6 (by omega))
  have hse := Aside0.mk (fun W (q : Bel wq W) => Sets_any x A6 c6 W (hR6.step (hBw.trans q)) hc6)
  have hXX := Aside0.mk (fun W (q : Bel wq W) => And.intro (blk_cell (q.blk hx) 0) (And.intro (blk_cell (q.blk hx) 1) (And.intro (blk_cell (q.blk hx) 2) (And.intro (blk_cell (q.blk hx) 3) (And.intro (blk_cell (q.blk hx) 4) (And.intro (blk_cell (q.blk hx) 5) (blk_cell (q.blk hx) 6)))))))
  obtain ⟨x0, x1, x2, x3, x4, x5, x6⟩ := hXX.out wq (Bel.refl _)
  obtain ⟨us, hue⟩ : ∃ us, usesL x = us := ⟨_, rfl⟩
  have hul : us.length ≤ 200000 := by rw [← hue]; unfold usesL; split <;> split <;> split <;> simp <;> omega
  rw [hue] at hus
  obtain ⟨sd, hsd⟩ : ∃ sd, (if has x.f0 68 then x.f1 else 0) = sd := ⟨_, rfl⟩
  obtain ⟨sb, hsb⟩ : ∃ sb, decide (has x.f0 68) = sb := ⟨_, rfl⟩
  simp only [hsd, hsb] at hse
  have hau : Aside0 (allUses x = us ++ (if sb = true then [sd] else [])) := ⟨by
   unfold allUses
   rw [hue, ← hsb, ← hsd]
   by_cases h : has x.f0 68 <;> simp [h]⟩
  replace hue := Aside0.mk hue
  replace hsd := Aside0.mk hsd
  replace hsb := Aside0.mk hsb
  go_upto_if 44 with (first | (go_at_call 33; ((with_reducible refine hus.out.mono ?_); rintro e wd ⟨vU, rfl, hOU, hBd⟩; obtain ⟨UA, uc, rfl, _, _⟩ := hOU.reads; obtain ⟨x0, x1, x2, x3, x4, x5, x6⟩ := hXX.out wd hBd)) | (go_at_call 57; ((with_reducible refine (hse.out _ hBd).mono ?_); rintro e wf ⟨rfl, hBf⟩)))
  clear x0 x1 x2 x3 x4 x5 x6 hus hse
  have hOU := hOU.step hBf
  have hBf := hBd.trans hBf
  clear hBd
  go_cut [8, 45, 46, 47, 48] (fun v8 _ _ _ _ W => ∃ (l : List Int) (A : Option Addr) (c : Nat), v8 = .slice A l.length c ∧ Aside0 (allUses x = l) ∧ l.length ≤ 300000 ∧ RdI W A l ∧ Bel wq W)
  case first =>
   cases sb with
   | true =>
    go_wp2_with (refine app_int hOU hBf rfl _ _ _ rfl (by omega) rfl rfl ?_; intro v8 w8 hO8 hB8; obtain ⟨A8, c8, rfl, _, hR8⟩ := hO8.reads)
    go_meet
    case rel =>
     have e9 : (us ++ [sd]).length = us.length + 1 := by simp
     exact ⟨us ++ [sd], A8, c8, by rw [e9], hau, by rw [e9]; omega, hR8, hB8⟩
   | false =>
    go_wp2
    go_meet
    case rel =>
     obtain ⟨A8, c8, e8, _, hR8⟩ := hOU.reads
     injection e8 with e81 e82 e83
     subst e81 e83
     exact ⟨us, UA, uc, rfl, ⟨by have := hau.out; simpa using this⟩, by omega, hR8, hBf⟩
  case rest =>
   obtain ⟨l, lA, lc, rfl, hal, hll, hRl, hBg⟩ := hcut
   clear hOU hBf hau
   obtain ⟨nk, hnk⟩ : ∃ nk, f.f0.length = nk := ⟨_, rfl⟩
   obtain ⟨nb, hnb⟩ : ∃ nb, f.f4.length = nb := ⟨_, rfl⟩
   rw [hnk] at h48 hbf
   rw [hnb] at h40 hbf
   replace hnk := Aside0.mk hnk
   replace hnb := Aside0.mk hnb
   go_wp2
   go_loopw [11] (fun i W => ∃ k : Nat, k ≤ l.length ∧ i = .int .i64 k ∧ Aside0 (∀ j < k, 0 ≤ rd l (j : Int) ∧ rd l (j : Int) < (nk : Int)) ∧ Bel wc W) (fun i _ => l.length - (intOf i).toNat)
   case atStart => exact ⟨0, by omega, rfl, ⟨fun j hj => by omega⟩, Bel.refl _⟩
   case round =>
    obtain ⟨k, hk, rfl, hok, hB1⟩ := hrel
    by_cases hlt : k < l.length
    ·have p1 : (k : Int) < (l.length : Int) := by omega
     have p0 : (0 : Int) ≤ (k : Int) := by omega
     obtain ⟨aU, e, y1⟩ := rd_atN (hRl.step hB1) k hlt
     subst e
     obtain ⟨t, ht⟩ : ∃ t, rd l (k : Int) = t := ⟨_, rfl⟩
     rw [ht] at y1
     replace ht := Aside0.mk ht
     have z0 : wr.cell? ⟨F, 0, none⟩ = some (.slice F0 nk d0) := blk_cell (hB1.blk (hBg.blk hbf)) 0
     have hwk := Aside0.mk (fun W => hwi.out t 0 ((nk : Int) - 1) W)
     by_cases hin : 0 ≤ t ∧ t ≤ (nk : Int) - 1
     ·rw [show decide (0 ≤ t ∧ t ≤ (nk : Int) - 1) = true from decide_eq_true hin] at hwk
      replace hin := Aside0.mk hin
      have e62 : IntKind.i64.wrap ((nk : Int) - 1) = (nk : Int) - 1 := by rw [IntKind.wrap_i64]; omega
      go_upto_region 11 with (fail)
      go_quiet ((go_at_call 45; refine Calls.quiet_of_same ((hwk.out _).mono (fun e w' h => ⟨h.1, h.2.symm⟩))))
      clear e62
      go_wp2
      go_roundw
      case rel =>
       refine ⟨k + 1, by omega, by go_num, ⟨fun j hj => ?_⟩, hB1.drewN _⟩
       rcases Nat.lt_or_ge j k with h | h
       ·exact hok.out j h
       ·rw [show j = k by omega, ht.out]; have := hin.out; omega
      case measure => simp [intOf]; omega
     ·rw [show decide (0 ≤ t ∧ t ≤ (nk : Int) - 1) = false from decide_eq_false hin] at hwk
      clear hin
      have e62 : IntKind.i64.wrap ((nk : Int) - 1) = (nk : Int) - 1 := by rw [IntKind.wrap_i64]; omega
      go_upto_region 11 with (fail)
      go_quiet ((go_at_call 45; refine Calls.quiet_of_same ((hwk.out _).mono (fun e w' h => ⟨h.1, h.2.symm⟩))))
      go_wp2
      go_ret
      exact .no ((hBw.trans (hBg.trans hB1)).drewN _)
    ·have p1 : ¬ (k : Int) < (l.length : Int) := by omega
     have hall : Aside0 (∀ v ∈ allUses x, 0 ≤ v ∧ v < (f.f0.length : Int)) := ⟨by
      rw [hal.out, hnk.out]
      intro v hv
      obtain ⟨j, hj, rfl⟩ := List.mem_iff_getElem.1 hv
      have := hok.out j (by omega)
      have e : rd l (j : Int) = l[j] := by simp [rd, List.getD_eq_getElem?_getD, List.getElem?_eq_getElem hj]
      rw [e] at this
      exact this⟩
     have hB2 := hBg.trans hB1
     obtain ⟨x0, x1, x2, x3, x4, x5, x6⟩ := hXX.out wr hB2
     have hnx := Aside0.mk (Next_any x A6 c6 wr (hR6.step (hBw.trans hB2)) hc6)
     obtain ⟨nl, hnl⟩ : ∃ nl, nextL x = nl := ⟨_, rfl⟩
     have hn2 : nl.length ≤ 2 := by rw [← hnl]; exact nextL_len x
     rw [hnl] at hnx
     replace hnl := Aside0.mk hnl
     clear hok hal hRl
     go_wp2_with (go_at_call 68; ((with_reducible refine hnx.out.mono ?_); rintro e wn ⟨vN, rfl, hON, hBn⟩; obtain ⟨NA, cN, rfl, _, hRN⟩ := hON.reads))
     clear x0 x1 x2 x3 x4 x5 x6
     go_loopw [13] (fun i W => ∃ k : Nat, k ≤ nl.length ∧ i = .int .i64 k ∧ Aside0 (∀ j < k, 1 ≤ rd nl (j : Int) ∧ rd nl (j : Int) < (nb : Int)) ∧ Bel wn W) (fun i _ => nl.length - (intOf i).toNat)
     case atStart => exact ⟨0, by omega, rfl, ⟨fun j hj => by omega⟩, Bel.refl _⟩
     case round =>
      obtain ⟨k2, hk2, rfl, hok, hB3⟩ := hrel
      have hB4 := hB2.trans (hBn.trans hB3)
      by_cases hlt2 : k2 < nl.length
      ·have p2 : (k2 : Int) < (nl.length : Int) := by omega
       have p0 : (0 : Int) ≤ (k2 : Int) := by omega
       obtain ⟨aN, e, y1⟩ := rd_atN (hRN.step hB3) k2 hlt2
       subst e
       obtain ⟨t, ht⟩ : ∃ t, rd nl (k2 : Int) = t := ⟨_, rfl⟩
       rw [ht] at y1
       replace ht := Aside0.mk ht
       have z4 : wr.cell? ⟨F, 4, none⟩ = some (.slice F4 nb d4) := blk_cell (hB4.blk hbf) 4
       have hwk := Aside0.mk (fun W => hwi.out t 1 ((nb : Int) - 1) W)
       by_cases hin : 1 ≤ t ∧ t ≤ (nb : Int) - 1
       ·rw [show decide (1 ≤ t ∧ t ≤ (nb : Int) - 1) = true from decide_eq_true hin] at hwk
        replace hin := Aside0.mk hin
        have e62 : IntKind.i64.wrap ((nb : Int) - 1) = (nb : Int) - 1 := by rw [IntKind.wrap_i64]; omega
        go_upto_region 17 with (fail)
        go_quiet ((go_at_call 45; refine Calls.quiet_of_same ((hwk.out _).mono (fun e w' h => ⟨h.1, h.2.symm⟩))))
        clear e62
        go_wp2
        go_roundw
        case rel =>
         refine ⟨k2 + 1, by omega, by go_num, ⟨fun j hj => ?_⟩, hB3.drewN _⟩
         rcases Nat.lt_or_ge j k2 with h | h
         ·exact hok.out j h
         ·rw [show j = k2 by omega, ht.out]; have := hin.out; omega
        case measure => simp [intOf]; omega
       ·rw [show decide (1 ≤ t ∧ t ≤ (nb : Int) - 1) = false from decide_eq_false hin] at hwk
        clear hin
        have e62 : IntKind.i64.wrap ((nb : Int) - 1) = (nb : Int) - 1 := by rw [IntKind.wrap_i64]; omega
        go_upto_region 17 with (fail)
        go_quiet ((go_at_call 45; refine Calls.quiet_of_same ((hwk.out _).mono (fun e w' h => ⟨h.1, h.2.symm⟩))))
        go_wp2
        go_ret
        exact .no ((hBw.trans hB4).drewN _)
      ·have p2 : ¬ (k2 : Int) < (nl.length : Int) := by omega
       have hnx2 : Aside0 (∀ v ∈ nextL x, 1 ≤ v ∧ v < (f.f4.length : Int)) := ⟨by
        rw [hnl.out, hnb.out]
        intro v hv
        obtain ⟨j, hj, rfl⟩ := List.mem_iff_getElem.1 hv
        have := hok.out j (by omega)
        have e : rd nl (j : Int) = nl[j] := by simp [rd, List.getD_eq_getElem?_getD, List.getElem?_eq_getElem hj]
        rw [e] at this
        exact this⟩
       clear hok hRN
       obtain ⟨x0, x1, x2, x3, x4, x5, x6⟩ := hXX.out wr hB4
       have hBz := hBw.trans hB4
       have hfin := Aside0.mk (fun hcall halloc => (insP_of (p := p) (f := f) hop.out hbb.out hall.out hnx2.out hcall halloc : InsP p f x))
       clear hall hnx2 hXX hbb hop
       obtain ⟨op, hop⟩ : ∃ op, x.f0 = op := ⟨_, rfl⟩
       rw [hop] at x0
       replace hop := Aside0.mk hop
       by_cases h19 : op = 19
       ·subst h19
        have y0 : wr.cell? ⟨g, 0, none⟩ = some (.slice (some ad) p.f0.length pc) := blk_cell (hB4.blk hbp) 0
        have hwk := Aside0.mk (fun W => hwi.out x.f4 0 ((p.f0.length : Int) - 1) W)
        obtain ⟨np, hnp⟩ : ∃ np, p.f0.length = np := ⟨_, rfl⟩
        have np8 : np ≤ 8 := by omega
        rw [hnp] at y0 hwk
        by_cases hin : 0 ≤ x.f4 ∧ x.f4 ≤ (np : Int) - 1
        ·rw [show decide (0 ≤ x.f4 ∧ x.f4 ≤ (np : Int) - 1) = true from decide_eq_true hin] at hwk
         obtain ⟨m, hm⟩ : ∃ m : Nat, x.f4 = (m : Int) := ⟨x.f4.toNat, by omega⟩
         have hml : m < p.f0.length := by omega
         obtain ⟨ad', _, _, _, _, _, _, e1, _, _, u2, _⟩ := func_at (hP.step hBz) m hml
         rw [hPA.out] at e1
         injection e1 with e1
         subst e1
         have ef2 : p.f0[m]'hml = fnAt p m := by unfold fnAt; rw [getD_at hml]
         rw [ef2] at u2
         obtain ⟨pr, hpr⟩ : ∃ pr, (fnAt p m).f2 = pr := ⟨_, rfl⟩
         rw [hpr] at u2
         rw [hm] at x4 hwk
         have q3 : (m : Int) < (np : Int) := by omega
         have q4 : (0 : Int) ≤ (m : Int) := by omega
         obtain ⟨al, hal⟩ : ∃ al, x.f6.length = al := ⟨_, rfl⟩
         rw [hal] at x6
         have hgood : Aside0 ((al : Int) = pr → InsP p f x) := ⟨fun q => hfin.out (fun _ => ⟨⟨by omega, by omega⟩, by rw [hm, Int.toNat_natCast, hpr, hal]; exact q⟩) (fun e => by rw [hop.out] at e; exact absurd e (by decide))⟩
         clear hin hm hpr hal hnp ef2
         go_upto_region 21 with (fail)
         have e62 : IntKind.i64.wrap ((np : Int) - 1) = (np : Int) - 1 := by rw [IntKind.wrap_i64]; omega
         go_quiet ((go_at_call 45; refine Calls.quiet_of_same ((hwk.out _).mono (fun e w' h => ⟨h.1, h.2.symm⟩))))
         go_wp2
         go_ret
         exact ⟨_, rfl, (fun q => by rw [hf.out]; exact hgood.out (by simpa using q)), hBz.drewN _⟩
        ·rw [show decide (0 ≤ x.f4 ∧ x.f4 ≤ (np : Int) - 1) = false from decide_eq_false hin] at hwk
         clear hin hnp
         go_upto_region 21 with (fail)
         have e62 : IntKind.i64.wrap ((np : Int) - 1) = (np : Int) - 1 := by rw [IntKind.wrap_i64]; omega
         go_quiet ((go_at_call 45; refine Calls.quiet_of_same ((hwk.out _).mono (fun e w' h => ⟨h.1, h.2.symm⟩))))
         go_wp2
         go_ret
         exact .no (hBz.drewN _)
       have b19 : (op == 19) = false := by simp [h19]
       by_cases h10 : op = 10
       ·subst h10
        have hw1 := Aside0.mk (fun W => hwi.out x.f4 0 8 W)
        have hw2 := Aside0.mk (fun W => hwi.out x.f5 0 8 W)
        by_cases hin : 0 ≤ x.f4 ∧ x.f4 ≤ 8
        ·rw [show decide (0 ≤ x.f4 ∧ x.f4 ≤ 8) = true from decide_eq_true hin] at hw1
         by_cases hin2 : 0 ≤ x.f5 ∧ x.f5 ≤ 8
         ·rw [show decide (0 ≤ x.f5 ∧ x.f5 ≤ 8) = true from decide_eq_true hin2] at hw2
          have hgood : Aside0 (InsP p f x) := ⟨hfin.out (fun e => by rw [hop.out] at e; exact absurd e (by decide)) (fun _ => ⟨hin, hin2⟩)⟩
          clear hin hin2
          go_wp2_with (go_at_call 45; first | ((with_reducible refine (hw1.out _).mono ?_); rintro e w2 ⟨rfl, hq2⟩; obtain rfl := hq2) | ((with_reducible refine (hw2.out _).mono ?_); rintro e w2 ⟨rfl, hq2⟩; obtain rfl := hq2))
          go_ret
          exact ⟨_, rfl, (fun q => by rw [hf.out]; exact hgood.out), hBz⟩
         ·rw [show decide (0 ≤ x.f5 ∧ x.f5 ≤ 8) = false from decide_eq_false hin2] at hw2
          clear hin hin2
          go_wp2_with (go_at_call 45; first | ((with_reducible refine (hw1.out _).mono ?_); rintro e w2 ⟨rfl, hq2⟩; obtain rfl := hq2) | ((with_reducible refine (hw2.out _).mono ?_); rintro e w2 ⟨rfl, hq2⟩; obtain rfl := hq2))
          go_ret
          exact .no hBz
        ·rw [show decide (0 ≤ x.f4 ∧ x.f4 ≤ 8) = false from decide_eq_false hin] at hw1
         clear hin
         go_wp2_with (go_at_call 45; ((with_reducible refine (hw1.out _).mono ?_); rintro e w2 ⟨rfl, hq2⟩; obtain rfl := hq2))
         go_ret
         exact .no hBz
       have b10 : (op == 10) = false := by simp [h10]
       have hgood : Aside0 (InsP p f x) := ⟨hfin.out (fun e => by rw [hop.out] at e; exact absurd e h19) (fun e => by rw [hop.out] at e; exact absurd e h10)⟩
       clear h19 h10 hfin hop
       by_cases h1 : op = 1
       ·subst h1
        obtain ⟨b, hb⟩ : ∃ b, decide ((-2147483648) ≤ x.f4 ∧ x.f4 ≤ 2147483648) = b := ⟨_, rfl⟩
        have hw1 := Aside0.mk (fun W => hwi.out x.f4 (-2147483648) 2147483648 W)
        rw [hb] at hw1
        clear hb
        go_wp2_with (go_at_call 45; ((with_reducible refine (hw1.out _).mono ?_); rintro e w2 ⟨rfl, hq2⟩; obtain rfl := hq2))
        go_ret
        exact ⟨_, rfl, (fun q => by rw [hf.out]; exact hgood.out), hBz⟩
       have b1 : (op == 1) = false := by simp [h1]
       clear h1
       by_cases h16 : op = 16
       ·subst h16
        obtain ⟨b, hb⟩ : ∃ b, decide ((-8) ≤ x.f4 ∧ x.f4 ≤ 8) = b := ⟨_, rfl⟩
        have hw1 := Aside0.mk (fun W => hwi.out x.f4 (-8) 8 W)
        rw [hb] at hw1
        clear hb
        go_wp2_with (go_at_call 45; ((with_reducible refine (hw1.out _).mono ?_); rintro e w2 ⟨rfl, hq2⟩; obtain rfl := hq2))
        go_ret
        exact ⟨_, rfl, (fun q => by rw [hf.out]; exact hgood.out), hBz⟩
       have b16 : (op == 16) = false := by simp [h16]
       clear h16
       by_cases h11 : op = 11
       ·subst h11
        obtain ⟨b, hb⟩ : ∃ b, decide (0 ≤ x.f4 ∧ x.f4 ≤ 7) = b := ⟨_, rfl⟩
        have hw1 := Aside0.mk (fun W => hwi.out x.f4 0 7 W)
        rw [hb] at hw1
        clear hb
        go_wp2_with (go_at_call 45; ((with_reducible refine (hw1.out _).mono ?_); rintro e w2 ⟨rfl, hq2⟩; obtain rfl := hq2))
        go_ret
        exact ⟨_, rfl, (fun q => by rw [hf.out]; exact hgood.out), hBz⟩
       have b11 : (op == 11) = false := by simp [h11]
       clear h11
       by_cases h12 : op = 12
       ·subst h12
        obtain ⟨b, hb⟩ : ∃ b, decide (0 ≤ x.f4 ∧ x.f4 ≤ 7) = b := ⟨_, rfl⟩
        have hw1 := Aside0.mk (fun W => hwi.out x.f4 0 7 W)
        rw [hb] at hw1
        clear hb
        go_wp2_with (go_at_call 45; ((with_reducible refine (hw1.out _).mono ?_); rintro e w2 ⟨rfl, hq2⟩; obtain rfl := hq2))
        go_ret
        exact ⟨_, rfl, (fun q => by rw [hf.out]; exact hgood.out), hBz⟩
       have b12 : (op == 12) = false := by simp [h12]
       clear h12
       by_cases h13 : op = 13
       ·subst h13
        obtain ⟨b, hb⟩ : ∃ b, decide (0 ≤ x.f4 ∧ x.f4 ≤ 7) = b := ⟨_, rfl⟩
        have hw1 := Aside0.mk (fun W => hwi.out x.f4 0 7 W)
        rw [hb] at hw1
        clear hb
        go_wp2_with (go_at_call 45; ((with_reducible refine (hw1.out _).mono ?_); rintro e w2 ⟨rfl, hq2⟩; obtain rfl := hq2))
        go_ret
        exact ⟨_, rfl, (fun q => by rw [hf.out]; exact hgood.out), hBz⟩
       have b13 : (op == 13) = false := by simp [h13]
       clear h13
       by_cases h14 : op = 14
       ·subst h14
        obtain ⟨b, hb⟩ : ∃ b, decide (0 ≤ x.f4 ∧ x.f4 ≤ 7) = b := ⟨_, rfl⟩
        have hw1 := Aside0.mk (fun W => hwi.out x.f4 0 7 W)
        rw [hb] at hw1
        clear hb
        go_wp2_with (go_at_call 45; ((with_reducible refine (hw1.out _).mono ?_); rintro e w2 ⟨rfl, hq2⟩; obtain rfl := hq2))
        go_ret
        exact ⟨_, rfl, (fun q => by rw [hf.out]; exact hgood.out), hBz⟩
       have b14 : (op == 14) = false := by simp [h14]
       clear h14
       by_cases h15 : op = 15
       ·subst h15
        obtain ⟨b, hb⟩ : ∃ b, decide (0 ≤ x.f4 ∧ x.f4 ≤ 7) = b := ⟨_, rfl⟩
        have hw1 := Aside0.mk (fun W => hwi.out x.f4 0 7 W)
        rw [hb] at hw1
        clear hb
        go_wp2_with (go_at_call 45; ((with_reducible refine (hw1.out _).mono ?_); rintro e w2 ⟨rfl, hq2⟩; obtain rfl := hq2))
        go_ret
        exact ⟨_, rfl, (fun q => by rw [hf.out]; exact hgood.out), hBz⟩
       have b15 : (op == 15) = false := by simp [h15]
       clear h15
       go_wp2
       go_ret
       exact ⟨_, rfl, (fun q => by rw [hf.out]; exact hgood.out), hBz⟩
end Go.Proofs.Ytodjpbidjldblaa.H
namespace Go.Proofs.Ytodjpbidjldblaa.H
open Go.RowKit Go.Proofs.YtodjpbidjldblaaW.PrintWords Go.Proofs.YtodjpbidjldblaaW.PrintLast Go.Proofs.YtodjpbidjldblaaW.PrintMore Go.Proofs.Ytodjpbidjldblaa.PRunEdges
set_option linter.unusedVariables false
set_option linter.unusedSimpArgs false
set_option maxRecDepth 100000
theorem signs_ok {op : Int} (h : partsL op ≠ []) : ∃ s, portolanref08_signs.f 9 op = some s ∧ s.size = 3 ∧ (has op 68 → op ≠ 2 → op ≠ 19 → op ≠ 15 → op ≠ 16 → bt s 0 = 105 ∨ bt s 0 = 114) ∧ (op = 16 → bt s 1 = 100) := by
 have h1 : 0 ≤ op ∧ op < 24 := Classical.byContradiction fun q => h (partsB_none q)
 obtain ⟨n, rfl⟩ : ∃ n : Nat, op = (n : Int) := ⟨op.toNat, by omega⟩
 have e : ∀ i : Fin 24, ((portolanref08_signs.f 9 (i.val : Int)).map fun s => decide (s.size = 3 ∧ ((68 : Int) ∈ partsL (i.val : Int) → (i.val : Int) ≠ 2 → (i.val : Int) ≠ 19 → (i.val : Int) ≠ 15 → (i.val : Int) ≠ 16 → bt s 0 = 105 ∨ bt s 0 = 114) ∧ ((i.val : Int) = 16 → bt s 1 = 100))) = some true := by decide +kernel
 have := e ⟨n, by omega⟩
 simp only at this
 obtain ⟨s, h2, h3⟩ := Option.map_eq_some_iff.1 this
 exact ⟨s, h2, of_decide_eq_true h3⟩
def map3 (c : Int) : Int := if c = 105 then 0 else if c = 114 then 1 else 2
def isB (f : SFunc) (v c : Int) : Bool := if c = 45 then true else decide (0 ≤ v ∧ v < (f.f0.length : Int)) && (kindAt f v == map3 c)
theorem is_f (f : SFunc) (v c : Int) : portolanref08_is.f f.f0 f.f1 f.f2 f.f3 (f.f4.map c55) v c = some (isB f v c) := by
 have e : portolanref08_map3.f c = some (map3 c) := by
  unfold portolanref08_map3.f map3
  by_cases h1 : c = 105
  ·simp [h1]
  ·by_cases h2 : c = 114
   ·simp [h2]
   ·simp [h1, h2]
 unfold portolanref08_is.f isB
 rw [e]
 by_cases h : c = 45
 ·simp [h]
 ·by_cases h0 : 0 ≤ v
  ·by_cases h1 : v < (f.f0.length : Int)
   ·simp [h, h0, h1]; rfl
   ·simp [h, h0, h1]
  ·simp [h, h0]
theorem is_any {W : World} {f : SFunc} {A0 A1 A4 : Option Addr} {c0 c1 c4 : Nat} (h : FuncAt W f A0 c0 A1 c1 A4 c4) (v c : Int) :
  Calls Try.prog 55 #[funcV f A0 c0 A1 c1 A4 c4, .int .i64 v, .int .u8 c] W fun e w' => e = .returned (.bool (isB f v c)) ∧ Bel W w' := by
 have := portolanref08_is.calls A0 c0 f.f0 A1 c1 f.f1 f.f2 f.f3 A4 c4 (f.f4.map c55) v c _ W h.r0.out h.l0 h.r1.out h.l1 h.r55 (by rw [List.length_map]; exact h.l4) (is_f f v c)
 rw [List.length_map] at this
 exact this.mono fun e w' ⟨h1, h3⟩ => ⟨h1, ⟨h3⟩⟩
theorem fit_of {f : SFunc} {x : SIns} {s : ByteArray} (h1 : has x.f0 68 → x.f0 ≠ 2 → x.f0 ≠ 19 → x.f0 ≠ 15 → x.f0 ≠ 16 → bt s 0 = 105 ∨ bt s 0 = 114) (h2 : x.f0 = 16 → bt s 1 = 100)
  (hD : isB f x.f1 (bt s 0) = true) (hA : isB f x.f2 (bt s 1) = true) (h3 : x.f0 = 2 → kindAt f x.f1 ≠ 2) (h4 : x.f0 = 19 → kindAt f x.f1 ≠ 2) : FitP f x := by
 refine ⟨fun hd hk => ?_, fun h => ?_⟩
 ·apply Classical.byContradiction
  intro hn
  simp only [not_or] at hn
  have h5 := h1 hd (fun q => h3 q hk) (fun q => h4 q hk) hn.1 hn.2
  unfold isB at hD
  rcases h5 with h5 | h5
  ·rw [h5, if_neg (by decide), hk] at hD
   simp [map3] at hD
  ·rw [h5, if_neg (by decide), hk] at hD
   simp [map3] at hD
 ·have h5 := h2 h
  unfold isB at hA
  rw [h5, if_neg (by decide)] at hA
  simp [map3] at hA
  exact hA.2
def FitsIs (f : SFunc) (x : SIns) (w : World) (e : Ending) (w' : World) : Prop := ∃ b, e = .returned (.bool b) ∧ (b = true → FitP f x) ∧ Bel w w'
theorem FitsIs.no {f : SFunc} {x : SIns} {w w' : World} (h : Bel w w') : FitsIs f x w (.returned (.bool false)) w' := ⟨false, rfl, (fun q => by cases q), h⟩
set_option maxHeartbeats 8000000 in
theorem Fits_any (p : SProg) (n : Nat) (x : SIns) (PA : Option Addr) (pc : Nat) (A6 : Option Addr) (c6 : Nat) (w : World) (hP : Rd kFunc w PA p.f0) (hn : n < p.f0.length) (hp8 : p.f0.length ≤ 8) (hR6 : RdI w A6 x.f6) (hc6 : x.f6.length ≤ c6)
  (hfn : Aside0 (∀ n < p.f0.length, FuncP (fnAt p n))) (hi : InsP p (fnAt p n) x) :
  Calls Try.prog 32 #[.agg #[.slice PA p.f0.length pc], .int .i64 n, insV x A6 c6] w (FitsIs (fnAt p n) x w) := by
 obtain ⟨g, hg⟩ : ∃ g, w.heap.size = g := ⟨_, rfl⟩
 have hB := ((Bel.refl w).alloc (.cells #[.slice PA p.f0.length pc] 24)).alloc (.cells #[.int .i64 x.f0, .int .i64 x.f1, .int .i64 x.f2, .int .i64 x.f3, .int .i64 x.f4, .int .i64 x.f5, .slice A6 x.f6.length c6] 57)
 have hbp := heap_old (o' := .cells #[.int .i64 x.f0, .int .i64 x.f1, .int .i64 x.f2, .int .i64 x.f3, .int .i64 x.f4, .int .i64 x.f5, .slice A6 x.f6.length c6] 57) (heap_new' (o := .cells #[.slice PA p.f0.length pc] 24) hg.symm)
 have hx : ((w.alloc (.cells #[.slice PA p.f0.length pc] 24)).alloc (.cells #[.int .i64 x.f0, .int .i64 x.f1, .int .i64 x.f2, .int .i64 x.f3, .int .i64 x.f4, .int .i64 x.f5, .slice A6 x.f6.length c6] 57)).heap[g + 1]? = _ := heap_new' (j := g + 1) (by simp [hg])
 obtain ⟨f, hf⟩ : ∃ f, fnAt p n = f := ⟨_, rfl⟩
 have hfp := Aside0.mk (hfn.out n hn)
 rw [hf] at hfp hi ⊢
 replace hi := Aside0.mk hi
 obtain ⟨s, hsf, hs3, hl1, hl2⟩ := signs_ok hi.out.op
 have hsg := Aside0.mk (fun W => portolanref08_signs.calls 9 x.f0 s W hsf)
 have hfit := Aside0.mk (fun hD hA h3 h4 => fit_of (f := f) hl1 hl2 hD hA h3 h4)
 clear hl1 hl2 hsf
 go_enter Try.func32, Try.ntmps32
 go_upto_region 1 with (fail)
 generalize (w.alloc (.cells #[.slice PA p.f0.length pc] 24)).alloc (.cells #[.int .i64 x.f0, .int .i64 x.f1, .int .i64 x.f2, .int .i64 x.f3, .int .i64 x.f4, .int .i64 x.f5, .slice A6 x.f6.length c6] 57) = wa at hB hbp hx ⊢
 replace hg := Aside0.mk hg
 have q1 : (n : Int) < (p.f0.length : Int) := by omega
 obtain ⟨ad, F0, F1, F4, d0, d1, d4, hPA, u0, u1, u2, u3, u4, r0, r1, r4, l0, l1, l4⟩ := func_at (hP.step hB) n hn
 have ef : p.f0[n] = fnAt p n := by unfold fnAt; rw [getD_at hn]
 rw [ef, hf] at u0 u1 u2 u3 u4 r0 r1 r4 l0 l1 l4
 rw [hPA] at hbp
 have y0 : wa.cell? ⟨g, 0, none⟩ = some (.slice (some ad) p.f0.length pc) := blk_cell hbp 0
 obtain ⟨F, hF⟩ : ∃ F, wa.heap.size = F := ⟨_, rfl⟩
 have hBc := (Bel.refl wa).alloc (.cells #[.slice F0 f.f0.length d0, .slice F1 f.f1.length d1, .int .i64 f.f2, .int .i64 f.f3, .slice F4 f.f4.length d4] 52)
 have hbf := heap_new' (o := .cells #[.slice F0 f.f0.length d0, .slice F1 f.f1.length d1, .int .i64 f.f2, .int .i64 f.f3, .slice F4 f.f4.length d4] 52) hF.symm
 have hFA : FuncAt wa f F0 d0 F1 d1 F4 d4 := ⟨r0, r1, r4, l0, l1, l4⟩
 replace hPA := Aside0.mk hPA
 replace hf := Aside0.mk hf
 clear ef r0 r1 r4 l0 l1 l4
 go_upto_region 4 with (fail)
 generalize wa.alloc (.cells #[.slice F0 f.f0.length d0, .slice F1 f.f1.length d1, .int .i64 f.f2, .int .i64 f.f3, .slice F4 f.f4.length d4] 52) = wq at hBc hbf ⊢
 replace hF := Aside0.mk hF
 clear y0 u0 u1 u2 u3 u4
 have hBw := hB.trans hBc
 have hbp := hBc.blk hbp
 have hx := hBc.blk hx
 have hFA := hFA.step hBc
 have x0 : wq.cell? ⟨g + 1, 0, none⟩ = some (.int .i64 x.f0) := blk_cell hx 0
 go_upto_region 5 with (go_at_call 54; ((with_reducible refine (hsg.out _).mono ?_); rintro e ws ⟨rfl, ⟨nd, rfl⟩⟩))
 have hBd := (Bel.refl wq).drewN nd
 have hBw := hBw.trans hBd
 have hbp := hBd.blk hbp
 have hx := hBd.blk hx
 have hFA := hFA.step hBd
 have hbf := hBd.blk hbf
 clear x0 hsg
 generalize wq.drewN nd = ws at hBw hbp hx hFA hbf ⊢
 clear hBd
 have i0 : (0 : Int) < (s.size : Int) := by omega
 have i1 : (1 : Int) < (s.size : Int) := by omega
 have i2 : (2 : Int) < (s.size : Int) := by omega
 have hS := Aside0.mk (fun (X : World) (q : Bel ws X) => And.intro (And.intro (blk_cell (q.blk hbf) 0) (And.intro (blk_cell (q.blk hbf) 1) (And.intro (blk_cell (q.blk hbf) 2) (And.intro (blk_cell (q.blk hbf) 3) (blk_cell (q.blk hbf) 4))))) (And.intro (blk_cell (q.blk hx) 1) (And.intro (blk_cell (q.blk hx) 2) (blk_cell (q.blk hx) 3))))
 have hBe : Bel ws ws.drew := (Bel.refl ws).drewN 1
 obtain ⟨b1, hb1⟩ : ∃ b, isB f x.f1 (bt s 0) = b := ⟨_, rfl⟩
 obtain ⟨b2, hb2⟩ : ∃ b, isB f x.f2 (bt s 1) = b := ⟨_, rfl⟩
 obtain ⟨b3, hb3⟩ : ∃ b, isB f x.f3 (bt s 2) = b := ⟨_, rfl⟩
 have hi0 : ∀ X, Bel ws X → Calls Try.prog 55 #[funcV f F0 d0 F1 d1 F4 d4, .int .i64 x.f1, .int .u8 ((s[0]'(by omega)).toNat : Int)] X fun e w' => e = .returned (.bool b1) ∧ Bel X w' := by
  intro X q
  have h := is_any (hFA.step q) x.f1 (bt s 0)
  rw [hb1, ← bt_at s 0 (show 0 < s.size by omega)] at h
  exact h
 have hi1 : ∀ X, Bel ws X → Calls Try.prog 55 #[funcV f F0 d0 F1 d1 F4 d4, .int .i64 x.f2, .int .u8 ((s[1]'(by omega)).toNat : Int)] X fun e w' => e = .returned (.bool b2) ∧ Bel X w' := by
  intro X q
  have h := is_any (hFA.step q) x.f2 (bt s 1)
  rw [hb2, ← bt_at s 1 (show 1 < s.size by omega)] at h
  exact h
 have hi2 : ∀ X, Bel ws X → Calls Try.prog 55 #[funcV f F0 d0 F1 d1 F4 d4, .int .i64 x.f3, .int .u8 ((s[2]'(by omega)).toNat : Int)] X fun e w' => e = .returned (.bool b3) ∧ Bel X w' := by
  intro X q
  have h := is_any (hFA.step q) x.f3 (bt s 2)
  rw [hb3, ← bt_at s 2 (show 2 < s.size by omega)] at h
  exact h
 simp only [funcV] at hi0 hi1 hi2
 rw [hb1, hb2] at hfit
 clear hb1 hb2 hb3
 replace hi0 := Aside0.mk hi0
 replace hi1 := Aside0.mk hi1
 replace hi2 := Aside0.mk hi2
 have hx0 := Aside0.mk (fun (X : World) (q : Bel ws X) => And.intro (blk_cell (q.blk hx) 0) (And.intro (blk_cell (q.blk hx) 4) (blk_cell (q.blk hx) 6)))
 have hgp := Aside0.mk (fun (X : World) (q : Bel ws X) => blk_cell (q.blk hbp) 0)
 have hBws := hBw
 have hxf := hFA
 clear hbp hx hbf hFA
 refine wp_region_held_drew (S := fun w' => (w'.cell? ⟨F, 0, none⟩ = some (.slice F0 f.f0.length d0) ∧ w'.cell? ⟨F, 1, none⟩ = some (.slice F1 f.f1.length d1) ∧ w'.cell? ⟨F, 2, none⟩ = some (.int .i64 f.f2) ∧ w'.cell? ⟨F, 3, none⟩ = some (.int .i64 f.f3) ∧ w'.cell? ⟨F, 4, none⟩ = some (.slice F4 f.f4.length d4)) ∧ w'.cell? ⟨g + 1, 1, none⟩ = some (.int .i64 x.f1) ∧ w'.cell? ⟨g + 1, 2, none⟩ = some (.int .i64 x.f2) ∧ w'.cell? ⟨g + 1, 3, none⟩ = some (.int .i64 x.f3)) (by kernel_rfl) (hS.out _ hBe) (fun hHeld => ?_)
 refine takeH [0, 1, 2, 3, 4] (by kernel_rfl) (by kernel_rfl) hHeld ?_
 iterate 5 (refine takeI (v := ?_) rfl rfl (fun _ _ _ h => h) (Or.inl ⟨by kernel_rfl, ?_⟩) ?_; rotate_left 1; focus (intro w hSw; (try dsimp only at hSw); go_simp; (try with_reducible rfl); done); try simp only [Act.put, z1, z2, z3, z4, z5, z6])
 refine takeE ?_
 try dsimp only
 refine wpAnyH_ready (rs := [5]) (by kernel_rfl) (by simp) ?_
 refine AllReadyH.cons rfl (fun K hK => ?_) AllReadyH.nil
 go_simp
 (go_at_call 55; refine (hi0.out _ hBe).mono ?_; rintro e w3 ⟨rfl, hB3⟩)
 replace hB3 := hBe.trans hB3
 refine hK.out _ _ ?_ (fun hHeld => ?_)
 rotate_left 1
 clear hK K
 try simp only [Act.put, z1, z2, z3, z4, z5, z6]
 rotate_left 1
 ·exact hS.out _ hB3
 cases b1 with
 | false =>
  refine takeH [6, 7] (by kernel_rfl) (by kernel_rfl) hHeld ?_
  iterate 2 (refine takeI (v := ?_) rfl rfl (fun _ _ _ h => h) (Or.inl ⟨by kernel_rfl, ?_⟩) ?_; rotate_left 1; focus (intro w hSw; (try dsimp only at hSw); go_simp; (try with_reducible rfl); done); try simp only [Act.put, z1, z2, z3, z4, z5, z6])
  refine takeE ?_
  try dsimp only
  refine takeH [8, 9, 10, 11, 12] (by kernel_rfl) (by kernel_rfl) hHeld ?_
  iterate 5 (refine takeI (v := undef) rfl rfl (fun _ _ _ h => h) (Or.inr ⟨by kernel_rfl, rfl⟩) ?_; try simp only [Act.put, z1, z2, z3, z4, z5, z6])
  refine takeE ?_
  try dsimp only
  refine wpAnyH_ready (rs := [13]) (by kernel_rfl) (by simp) ?_
  refine AllReadyH.cons rfl (fun K hK => ?_) AllReadyH.nil
  rw [if_neg (Bool.eq_false_iff.1 (by kernel_rfl))]
  refine hK.out _ _ hHeld (fun _ => ?_)
  clear hK K
  try simp only [Act.put, z1, z2, z3, z4, z5, z6]
  refine takeH [14] (by kernel_rfl) (by kernel_rfl) hHeld ?_
  iterate 1 (refine takeI (v := undef) rfl rfl (fun _ _ _ h => h) (Or.inr ⟨by kernel_rfl, rfl⟩) ?_; try simp only [Act.put, z1, z2, z3, z4, z5, z6])
  refine takeE ?_
  try dsimp only
  refine takeH [15, 16] (by kernel_rfl) (by kernel_rfl) hHeld ?_
  iterate 2 (refine takeI (v := ?_) rfl rfl (fun _ _ _ h => h) (Or.inl ⟨by kernel_rfl, ?_⟩) ?_; rotate_left 1; focus (intro w hSw; (try dsimp only at hSw); go_simp; (try with_reducible rfl); done); try simp only [Act.put, z1, z2, z3, z4, z5, z6])
  refine takeE ?_
  try dsimp only
  refine takeH [17, 18, 19, 20, 21] (by kernel_rfl) (by kernel_rfl) hHeld ?_
  iterate 5 (refine takeI (v := undef) rfl rfl (fun _ _ _ h => h) (Or.inr ⟨by kernel_rfl, rfl⟩) ?_; try simp only [Act.put, z1, z2, z3, z4, z5, z6])
  refine takeE ?_
  try dsimp only
  refine wpAnyH_ready (rs := [22]) (by kernel_rfl) (by simp) ?_
  refine AllReadyH.cons rfl (fun K hK => ?_) AllReadyH.nil
  rw [if_neg (Bool.eq_false_iff.1 (by kernel_rfl))]
  refine hK.out _ _ hHeld (fun _ => ?_)
  clear hK K
  try simp only [Act.put, z1, z2, z3, z4, z5, z6]
  refine takeH [23] (by kernel_rfl) (by kernel_rfl) hHeld ?_
  iterate 1 (refine takeI (v := undef) rfl rfl (fun _ _ _ h => h) (Or.inr ⟨by kernel_rfl, rfl⟩) ?_; try simp only [Act.put, z1, z2, z3, z4, z5, z6])
  refine takeE ?_
  try dsimp only
  refine takeH [24] (by kernel_rfl) (by kernel_rfl) hHeld ?_
  iterate 1 (refine takeI (v := ?_) rfl rfl (fun _ _ _ h => h) (Or.inl ⟨by kernel_rfl, ?_⟩) ?_; rotate_left 1; focus (intro w hSw; (try dsimp only at hSw); go_simp; (try with_reducible rfl); done); try simp only [Act.put, z1, z2, z3, z4, z5, z6])
  refine takeE ?_
  try dsimp only
  refine wpAnyH_done (by kernel_rfl) ?_ _
  go_wp2
  go_ret
  exact .no (hBw.trans hB3)
 | true =>
  refine takeH [6, 7, 8, 9, 10, 11, 12] (by kernel_rfl) (by kernel_rfl) hHeld ?_
  iterate 7 (refine takeI (v := ?_) rfl rfl (fun _ _ _ h => h) (Or.inl ⟨by kernel_rfl, ?_⟩) ?_; rotate_left 1; focus (intro w hSw; (try dsimp only at hSw); go_simp; (try with_reducible rfl); done); try simp only [Act.put, z1, z2, z3, z4, z5, z6])
  refine takeE ?_
  try dsimp only
  refine wpAnyH_ready (rs := [13]) (by kernel_rfl) (by simp) ?_
  refine AllReadyH.cons rfl (fun K hK => ?_) AllReadyH.nil
  go_simp
  (go_at_call 55; refine (hi1.out _ hB3).mono ?_; rintro e w4 ⟨rfl, hB4⟩)
  replace hB4 := hB3.trans hB4
  refine hK.out _ _ ?_ (fun hHeld => ?_)
  rotate_left 1
  clear hK K
  try simp only [Act.put, z1, z2, z3, z4, z5, z6]
  rotate_left 1
  ·exact hS.out _ hB4
  cases b2 with
  | false =>
   refine takeH [14, 15, 16] (by kernel_rfl) (by kernel_rfl) hHeld ?_
   iterate 3 (refine takeI (v := ?_) rfl rfl (fun _ _ _ h => h) (Or.inl ⟨by kernel_rfl, ?_⟩) ?_; rotate_left 1; focus (intro w hSw; (try dsimp only at hSw); go_simp; (try with_reducible rfl); done); try simp only [Act.put, z1, z2, z3, z4, z5, z6])
   refine takeE ?_
   try dsimp only
   refine takeH [17, 18, 19, 20, 21] (by kernel_rfl) (by kernel_rfl) hHeld ?_
   iterate 5 (refine takeI (v := undef) rfl rfl (fun _ _ _ h => h) (Or.inr ⟨by kernel_rfl, rfl⟩) ?_; try simp only [Act.put, z1, z2, z3, z4, z5, z6])
   refine takeE ?_
   try dsimp only
   refine wpAnyH_ready (rs := [22]) (by kernel_rfl) (by simp) ?_
   refine AllReadyH.cons rfl (fun K hK => ?_) AllReadyH.nil
   rw [if_neg (Bool.eq_false_iff.1 (by kernel_rfl))]
   refine hK.out _ _ hHeld (fun _ => ?_)
   clear hK K
   try simp only [Act.put, z1, z2, z3, z4, z5, z6]
   refine takeH [23] (by kernel_rfl) (by kernel_rfl) hHeld ?_
   iterate 1 (refine takeI (v := undef) rfl rfl (fun _ _ _ h => h) (Or.inr ⟨by kernel_rfl, rfl⟩) ?_; try simp only [Act.put, z1, z2, z3, z4, z5, z6])
   refine takeE ?_
   try dsimp only
   refine takeH [24] (by kernel_rfl) (by kernel_rfl) hHeld ?_
   iterate 1 (refine takeI (v := ?_) rfl rfl (fun _ _ _ h => h) (Or.inl ⟨by kernel_rfl, ?_⟩) ?_; rotate_left 1; focus (intro w hSw; (try dsimp only at hSw); go_simp; (try with_reducible rfl); done); try simp only [Act.put, z1, z2, z3, z4, z5, z6])
   refine takeE ?_
   try dsimp only
   refine wpAnyH_done (by kernel_rfl) ?_ _
   go_wp2
   go_ret
   exact .no (hBw.trans hB4)
  | true =>
   refine takeH [14, 15, 16, 17, 18, 19, 20, 21] (by kernel_rfl) (by kernel_rfl) hHeld ?_
   iterate 8 (refine takeI (v := ?_) rfl rfl (fun _ _ _ h => h) (Or.inl ⟨by kernel_rfl, ?_⟩) ?_; rotate_left 1; focus (intro w hSw; (try dsimp only at hSw); go_simp; (try with_reducible rfl); done); try simp only [Act.put, z1, z2, z3, z4, z5, z6])
   refine takeE ?_
   try dsimp only
   refine wpAnyH_ready (rs := [22]) (by kernel_rfl) (by simp) ?_
   refine AllReadyH.cons rfl (fun K hK => ?_) AllReadyH.nil
   go_simp
   (go_at_call 55; refine (hi2.out _ hB4).mono ?_; rintro e w5 ⟨rfl, hB5⟩)
   replace hB5 := hB4.trans hB5
   refine hK.out _ _ ?_ (fun hHeld => ?_)
   rotate_left 1
   clear hK K
   try simp only [Act.put, z1, z2, z3, z4, z5, z6]
   rotate_left 1
   ·exact hS.out _ hB5
   cases b3 with
   | false =>
    refine takeH [23, 24] (by kernel_rfl) (by kernel_rfl) hHeld ?_
    iterate 2 (refine takeI (v := ?_) rfl rfl (fun _ _ _ h => h) (Or.inl ⟨by kernel_rfl, ?_⟩) ?_; rotate_left 1; focus (intro w hSw; (try dsimp only at hSw); go_simp; (try with_reducible rfl); done); try simp only [Act.put, z1, z2, z3, z4, z5, z6])
    refine takeE ?_
    try dsimp only
    refine wpAnyH_done (by kernel_rfl) ?_ _
    go_wp2
    go_ret
    exact .no (hBw.trans hB5)
   | true =>
    refine takeH [23, 24] (by kernel_rfl) (by kernel_rfl) hHeld ?_
    iterate 2 (refine takeI (v := ?_) rfl rfl (fun _ _ _ h => h) (Or.inl ⟨by kernel_rfl, ?_⟩) ?_; rotate_left 1; focus (intro w hSw; (try dsimp only at hSw); go_simp; (try with_reducible rfl); done); try simp only [Act.put, z1, z2, z3, z4, z5, z6])
    refine takeE ?_
    try dsimp only
    refine wpAnyH_done (by kernel_rfl) ?_ _
    clear hB4 hB3 hi0 hi1 hi2
    obtain ⟨⟨c0, c1, c2, c3, c4⟩, x1, x2, x3⟩ := hS.out _ hB5
    obtain ⟨x0, x4, x6⟩ := hx0.out _ hB5
    have y0 := hgp.out _ hB5
    have hBw := hBws.trans hB5
    have hFA := Aside0.mk (hxf.step hB5)
    clear hS hx0 hgp hxf hBws
    by_cases e2 : x.f0 = 2
    ·have hd := hi.out.d (by rw [e2]; decide)
     have ha := hi.out.a (by rw [e2]; decide)
     obtain ⟨D, hD⟩ : ∃ D : Nat, x.f1 = (D : Int) := ⟨x.f1.toNat, by omega⟩
     obtain ⟨A, hA⟩ : ∃ A : Nat, x.f2 = (A : Int) := ⟨x.f2.toNat, by omega⟩
     obtain ⟨a0, ea, yD⟩ := rd_atN hFA.out.r0 D (by omega)
     subst ea
     obtain ⟨a1, ea, yA⟩ := rd_atN hFA.out.r0 A (by omega)
     injection ea with ea
     subst ea
     have qD : (D : Int) < (f.f0.length : Int) := by omega
     have qA : (A : Int) < (f.f0.length : Int) := by omega
     rw [hD] at x1
     rw [hA] at x2
     clear hd ha
     by_cases hk : rd f.f0 (D : Int) = rd f.f0 (A : Int)
     ·have bk : (rd f.f0 (D : Int) == rd f.f0 (A : Int)) = true := by simp [hk]
      have hfit2 : (rd f.f0 (D : Int) != 2) = true → FitP f x := fun q => hfit.out rfl rfl (fun _ => by rw [hD]; show rd f.f0 (D : Int) ≠ 2; simpa using q) (fun h => absurd (e2.symm.trans h) (by decide))
      generalize rd f.f0 (D : Int) = kD at yD hk bk hfit2
      generalize rd f.f0 (A : Int) = kA at yA hk bk
      subst hk
      go_upto_region 9 with (fail)
      go_quiet (fail)
      go_wp2
      go_ret
      exact ⟨_, rfl, hfit2, hBw.drewN _⟩
     ·have bk : (rd f.f0 (D : Int) == rd f.f0 (A : Int)) = false := by simp [hk]
      generalize rd f.f0 (D : Int) = kD at yD hk bk
      generalize rd f.f0 (A : Int) = kA at yA hk bk
      go_upto_region 9 with (fail)
      go_quiet (fail)
      go_wp2
      go_ret
      exact .no (hBw.drewN _)
    have hfit3 : x.f0 ≠ 19 → FitP f x := fun h => hfit.out rfl rfl (fun q => absurd q e2) (fun q => absurd q h)
    by_cases e15 : x.f0 = 15
    ·have hd := hi.out.d (by rw [e15]; decide)
     have hfitc := hfit3 (by rw [e15]; decide)
     obtain ⟨D, hD⟩ : ∃ D : Nat, x.f1 = (D : Int) := ⟨x.f1.toNat, by omega⟩
     obtain ⟨a0, ea, yD⟩ := rd_atN hFA.out.r1 D (by have := hfp.out.base; omega)
     subst ea
     have qD : (D : Int) < (f.f1.length : Int) := by have := hfp.out.base; omega
     rw [hD] at x1
     clear hd hfit3
     go_upto_region 11 with (fail)
     go_quiet (fail)
     go_wp2
     go_ret
     exact ⟨_, rfl, fun _ => hfitc, hBw.drewN _⟩
    by_cases e16 : x.f0 = 16
    ·have hd := hi.out.d (by rw [e16]; decide)
     have ha := hi.out.a (by rw [e16]; decide)
     have hfitc := hfit3 (by rw [e16]; decide)
     obtain ⟨D, hD⟩ : ∃ D : Nat, x.f1 = (D : Int) := ⟨x.f1.toNat, by omega⟩
     obtain ⟨A, hA⟩ : ∃ A : Nat, x.f2 = (A : Int) := ⟨x.f2.toNat, by omega⟩
     obtain ⟨a0, ea, yD⟩ := rd_atN hFA.out.r1 D (by have := hfp.out.base; omega)
     subst ea
     obtain ⟨a1, ea, yA⟩ := rd_atN hFA.out.r1 A (by have := hfp.out.base; omega)
     injection ea with ea
     subst ea
     have qD : (D : Int) < (f.f1.length : Int) := by have := hfp.out.base; omega
     have qA : (A : Int) < (f.f1.length : Int) := by have := hfp.out.base; omega
     rw [hD] at x1
     rw [hA] at x2
     clear hd ha hfit3
     go_upto_region 13 with (fail)
     go_quiet (fail)
     go_wp2
     go_ret
     exact ⟨_, rfl, fun _ => hfitc, hBw.drewN _⟩
    by_cases e23 : x.f0 = 23
    ·have ha := hi.out.a (by rw [e23]; decide)
     have hfitc := hfit3 (by rw [e23]; decide)
     obtain ⟨A, hA⟩ : ∃ A : Nat, x.f2 = (A : Int) := ⟨x.f2.toNat, by omega⟩
     obtain ⟨a0, ea, yA⟩ := rd_atN hFA.out.r0 A (by omega)
     subst ea
     have qA : (A : Int) < (f.f0.length : Int) := by omega
     rw [hA] at x2
     clear ha hfit3
     go_upto_region 15 with (fail)
     go_quiet (fail)
     go_wp2
     go_ret
     exact ⟨_, rfl, fun _ => hfitc, hBw.drewN _⟩
    by_cases e19 : x.f0 = 19
    ·have hd := hi.out.d (by rw [e19]; decide)
     obtain ⟨⟨hc0, hc1⟩, hcl⟩ := hi.out.call e19
     obtain ⟨D, hD⟩ : ∃ D : Nat, x.f1 = (D : Int) := ⟨x.f1.toNat, by omega⟩
     obtain ⟨C, hC⟩ : ∃ C : Nat, x.f4 = (C : Int) := ⟨x.f4.toNat, by omega⟩
     rw [hD] at x1
     rw [hC] at x4 hcl hc1
     simp only [Int.toNat_natCast] at hcl
     have hCn : C < p.f0.length := by omega
     have hgP := hfn.out C hCn
     have hlr := hi.out.l (by rw [e19]; decide)
     have hDn : D < f.f0.length := by omega
     have hfitc : kindAt f x.f1 ≠ 2 → FitP f x := fun h => hfit.out rfl rfl (fun q => absurd q e2) (fun _ => h)
     rw [hD] at hfitc
     replace hfitc := Aside0.mk hfitc
     obtain ⟨ad2, G0, G1, G4, k0, k1, k4, hPA2, u0, u1, u2, u3, u4, r0, r1, r4, l0, l1, l4⟩ := func_at (hP.step hBw) C hCn
     obtain rfl : ad2 = ad := Option.some.inj (hPA2.symm.trans hPA.out)
     have ef : p.f0[C] = fnAt p C := by unfold fnAt; rw [getD_at hCn]
     rw [ef] at u0 u1 u2 u3 u4 r0 r1 r4 l0 l1 l4
     generalize fnAt p C = G at hgP hcl u0 u1 u2 u3 u4 r0 r1 r4 l0 l1 l4
     clear ef hPA2 hc0 hd hfit3 hfit hi r1 r4 l0 l1 l4
     replace hlr := Aside0.mk hlr
     have hml : x.f6.length ≤ G.f0.length := by have := hgP.par; omega
     have hm48 : x.f6.length ≤ 48 := by have := hgP.vars; omega
     have hres := hgP.res.2
     clear hgP hcl
     replace hres := Aside0.mk hres
     have hR6' := hR6.step hBw
     obtain ⟨Z, hZ⟩ : ∃ Z, w5.heap.size = Z := ⟨_, rfl⟩
     have hBz := (Bel.refl w5).alloc (.cells #[.slice G0 G.f0.length k0, .slice G1 G.f1.length k1, .int .i64 G.f2, .int .i64 G.f3, .slice G4 G.f4.length k4] 52)
     have hbz := heap_new' (o := .cells #[.slice G0 G.f0.length k0, .slice G1 G.f1.length k1, .int .i64 G.f2, .int .i64 G.f3, .slice G4 G.f4.length k4] 52) hZ.symm
     go_upto_region 18 with (fail)
     generalize w5.alloc (.cells #[.slice G0 G.f0.length k0, .slice G1 G.f1.length k1, .int .i64 G.f2, .int .i64 G.f3, .slice G4 G.f4.length k4] 52) = wz at hBz hbz ⊢
     replace hZ := Aside0.mk hZ
     have hrg := r0.step hBz
     have hrf := hFA.out.r0.step hBz
     have hra := hR6'.step hBz
     have hBwz := hBw.trans hBz
     have z0 : wz.cell? ⟨Z, 0, none⟩ = some (.slice G0 G.f0.length k0) := blk_cell hbz 0
     have z3 : wz.cell? ⟨Z, 3, none⟩ = some (.int .i64 G.f3) := blk_cell hbz 3
     have c0' := hBz.cell c0
     have x1' := hBz.cell x1
     have x6' := hBz.cell x6
     have hall := Aside0.mk (fun (X : World) (q : Bel wz X) => And.intro (q.cell z0) (And.intro (q.cell z3) (And.intro (q.cell c0') (And.intro (q.cell x1') (And.intro (q.cell x6') (And.intro (hrg.step q) (And.intro (hrf.step q) (hra.step q))))))))
     clear u0 u1 u2 u3 u4 c0 c1 c2 c3 c4 x0 x1 x2 x3 x4 x6 y0 z0 z3 c0' x1' x6' hrg hrf hra hR6' hbz hBz r0 hFA hBw hP hR6 hc6 hB5
     obtain ⟨m, hm⟩ : ∃ m, x.f6.length = m := ⟨_, rfl⟩
     rw [hm] at hml hall hm48
     obtain ⟨nf, hnf⟩ : ∃ n, f.f0.length = n := ⟨_, rfl⟩
     obtain ⟨ng, hng⟩ : ∃ n, G.f0.length = n := ⟨_, rfl⟩
     rw [hng] at hml hall
     rw [hnf] at hall hDn
     replace hm := Aside0.mk hm
     replace hng := Aside0.mk hng
     replace hnf := Aside0.mk hnf
     go_wp2
     go_loopw [10] (fun i W => ∃ k : Nat, k ≤ m ∧ i = .int .i64 k ∧ Bel wz W) (fun i _ => m - (intOf i).toNat)
     case atStart => exact ⟨0, by omega, rfl, Bel.refl _⟩
     case round =>
      obtain ⟨k, hk, rfl, hBk⟩ := hrel
      obtain ⟨z0, z3, z1, x1, x6, rg, rf, ra⟩ := hall.out _ hBk
      by_cases hlt : k < m
      ·have q1 : (k : Int) < (m : Int) := by omega
       obtain ⟨a6, e6, y6⟩ := rd_atN ra k (by rw [hm.out]; exact hlt)
       subst e6
       have hv := hlr.out (rd x.f6 (k : Int)) (by show x.f6.getD k 0 ∈ x.f6; rw [getD_at (by rw [hm.out]; exact hlt)]; exact List.getElem_mem _)
       obtain ⟨V, hV⟩ : ∃ V : Nat, rd x.f6 (k : Int) = (V : Int) := ⟨(rd x.f6 (k : Int)).toNat, by omega⟩
       rw [hV] at y6 hv
       clear hV
       obtain ⟨af, ef, yf⟩ := rd_atN rf V (by omega)
       subst ef
       obtain ⟨ag, eg, yg⟩ := rd_atN rg k (by rw [hng.out]; omega)
       subst eg
       have qV : (V : Int) < (nf : Int) := by have := hnf.out; omega
       have qg : (k : Int) < (ng : Int) := by omega
       clear rg rf ra hv
       generalize rd f.f0 (V : Int) = kv at yf
       generalize rd G.f0 (k : Int) = kg at yg
       go_upto_region 21 with (fail)
       by_cases hkk : kv = kg
       ·have bk : (kv != kg) = false := by simp [hkk]
        clear hkk
        go_quiet (fail)
        go_wp2
        go_roundw
        case rel => exact ⟨k + 1, by omega, by go_num, hBk.drewN _⟩
        case measure => simp [intOf]; omega
       ·have bk : (kv != kg) = true := by simp [hkk]
        clear hkk
        go_quiet (fail)
        go_wp2
        go_ret
        exact .no ((hBwz.trans hBk).drewN _)
      ·have q1 : ¬ (k : Int) < (m : Int) := by omega
       obtain ⟨af, ef, yf⟩ := rd_atN rf D (by rw [hnf.out]; exact hDn)
       subst ef
       have qD : (D : Int) < (nf : Int) := by omega
       have hfin : (rd f.f0 (D : Int) == G.f3) = true → FitP f x := by
        intro q
        refine hfitc.out ?_
        show rd f.f0 (D : Int) ≠ 2
        have h := hres.out
        have h2 : rd f.f0 (D : Int) = G.f3 := by simpa using q
        omega
       generalize rd f.f0 (D : Int) = kD at yf hfin
       clear rg rf ra
       go_upto_region 23 with (fail)
       go_quiet (fail)
       go_wp2
       go_ret
       exact ⟨_, rfl, hfin, (hBwz.trans hBk).drewN _⟩
    ·have hfitc := hfit3 e19
     go_wp2
     go_ret
     exact ⟨_, rfl, fun _ => hfitc, hBw⟩
end Go.Proofs.Ytodjpbidjldblaa.H
namespace Go.Proofs.Ytodjpbidjldblaa.H
open Go.RowKit Go.Proofs.YtodjpbidjldblaaW.PrintWords Go.ChangeShapes Go.WideShapes Go.Deep
set_option linter.unusedVariables false
set_option linter.unusedSimpArgs false
section
variable {H : Type} {enc : TypeId × Value → H} {P : Program} {W : World}
def Opens {H : Type} (enc : TypeId × Value → H) (P : Program) (W : World) {α : Type} (d : Kd α) (t : TypeId) (ok : α → Prop) : Prop :=
 ∀ (fuel : Nat) (cs : List Value) (x : DataW H × List MemPlace), DataW.trod enc P W 0 (fun _ => true) true fuel t cs = some x → (x.1.weights P t).all (· ≤ reachBytes) = true → ∃ a, d.K W a cs ∧ ok a
theorem Opens.mono {α : Type} {d : Kd α} {t : TypeId} {ok ok' : α → Prop} (h : Opens enc P W d t ok) (hk : ∀ a, ok a → ok' a) : Opens enc P W d t ok' := fun fuel cs x hx hw => by
 obtain ⟨a, h1, h2⟩ := h fuel cs x hx hw
 exact ⟨a, h1, hk a h2⟩
theorem Opens.int {t : TypeId} {k : IntKind} (ht : P.underlying t = some (.int k)) : Opens enc P W (Kd.int k) t (fun a => (Lit.int k a).wf = true) := fun fuel cs x hx _ => by
 obtain ⟨n, rfl, _, hw⟩ := DataW.trod_int ht hx
 exact ⟨n, rfl, hw⟩
theorem Opens.bool {t : TypeId} (ht : P.underlying t = some .bool) : Opens enc P W Kd.bool t (fun _ => True) := fun fuel cs x hx _ => by
 obtain ⟨b, rfl, _⟩ := DataW.trod_bool ht hx
 exact ⟨b, rfl, trivial⟩
theorem weightsAll_mem {e : TypeId} : ∀ {l : List (DataW H)} {d : DataW H}, d ∈ l → ∀ n ∈ d.weights P e, n ∈ DataW.weightsAll P e l
 | d0 :: l, d, hd, n, hn => by
  simp only [DataW.weightsAll, List.mem_append]
  rcases List.mem_cons.1 hd with rfl | hd
  ·exact .inl hn
  ·exact .inr (weightsAll_mem hd n hn)
theorem Opens.slice {α : Type} {d : Kd α} {t e B : Nat} {ok : α → Prop} (ht : P.underlying t = some (.slice e)) (hc : P.cellsOf e = d.sz) (hB : P.bytesOf e = B) (h : Opens enc P W d e ok) :
  Opens enc P W (Kd.slice e d) t (fun xs => xs.length * B ≤ 140737488351232 ∧ ∀ x ∈ xs, ok x) := fun fuel cs x hx hw => by
 classical
 rcases open_slice ht hx with ⟨rfl, rfl⟩ | ⟨a, len, cap, m, n, D, Pl, rfl, _, hl, hm, hmm, rfl, hi⟩
 ·exact ⟨[], ⟨none, 0, rfl, Nat.le_refl _, rfl, by simp, fun h => by simp at h⟩, by simp, by simp⟩
 ·have hmm : m = cap := by simpa using hmm
  subst hmm
  simp only [DataW.weights, ht, List.all_cons, List.all_append, Bool.and_eq_true, decide_eq_true_eq, List.length_map, List.length_range, hB] at hw
  obtain ⟨hw0, hw1, _⟩ := hw
  have hall : ∀ i, i < len → ∃ (c : List Value) (y : α), c.length = d.sz ∧ (∀ j u, c[j]? = some u → W.cell? (a.add (i * d.sz + j)) = some u) ∧ d.K W y c ∧ ok y := fun i hil => by
   obtain ⟨cs', h1, h2⟩ := hi i (by omega)
   rw [hc] at h1
   obtain ⟨_, h3, h4⟩ := World.cells?_some h1
   obtain ⟨y, hy, hk⟩ := h n cs' _ h2 (by
    rw [List.all_eq_true] at hw1 ⊢
    exact fun q hq => hw1 q (weightsAll_mem (List.mem_map.2 ⟨i, List.mem_range.2 hil, rfl⟩) q hq))
   refine ⟨cs', y, h3, fun j u hu => ?_, hy, hk⟩
   have hj : j < d.sz := by have := (List.getElem?_eq_some_iff.1 hu).1; omega
   rw [← Go.Deep.add_add, h4 j hj, hu]
  have key : ∀ k, k ≤ len → ∃ ys : List α, ys.length = k ∧ ∀ i y, ys[i]? = some y → ok y ∧ ∃ c : List Value, c.length = d.sz ∧ d.K W y c ∧ ∀ j u, c[j]? = some u → W.cell? (a.add (i * d.sz + j)) = some u := fun k => by
   induction k with
   | zero => exact fun _ => ⟨[], rfl, fun i y h => by simp at h⟩
   | succ k ih =>
    intro hk
    obtain ⟨ys, h1, h2⟩ := ih (by omega)
    obtain ⟨c, y, h3, h4, h5, h6⟩ := hall k (by omega)
    refine ⟨ys ++ [y], by simp [h1], fun i z hz => ?_⟩
    rcases Nat.lt_trichotomy i k with hik | hik | hik
    ·rw [List.getElem?_append_left (by omega)] at hz
     exact h2 i z hz
    ·subst hik
     rw [List.getElem?_append_right (by omega), h1, Nat.sub_self, List.getElem?_cons_zero, Option.some.injEq] at hz
     subst hz
     exact ⟨h6, c, h3, h5, h4⟩
    ·rw [List.getElem?_append_right (by omega), List.getElem?_cons, if_neg (by omega)] at hz
     simp at hz
  obtain ⟨ys, h1, h2⟩ := key len (Nat.le_refl _)
  subst h1
  refine ⟨ys, ⟨some a, m, rfl, hl, rfl, by unfold maxLen at hm; omega, fun _ => ⟨a, rfl, fun j p hj => ?_⟩⟩, ?_, fun y hy => ?_⟩
  ·obtain ⟨_, c, h3, h4, h5⟩ := h2 j p hj
   exact ⟨c, h3, h4, h5⟩
  ·have : ys.length * B ≤ (ys.length + (m - ys.length)) * B := Nat.mul_le_mul_right _ (by omega)
   have h0 : reachBytes = 140737488351232 := by decide
   omega
  ·obtain ⟨i, hi', rfl⟩ := List.mem_iff_getElem.1 hy
   exact (h2 i _ (List.getElem?_eq_getElem hi')).1
def OpensF {H : Type} (enc : TypeId × Value → H) (P : Program) (W : World) {α : Type} (d : Kd α) (fs : List Field) (o : Nat) (ok : α → Prop) : Prop :=
 ∀ (n : Nat) (cs : List Value) (xs : List (DataW H × List MemPlace)), cs.length = d.sz → xs.length = fs.length → (∀ (i : Nat) (f : Field), fs[i]? = some f → DataW.trod enc P W 0 (fun _ => true) true n f.type ((cs.drop (f.offset - o)).take (P.cellsOf f.type)) = xs[i]?) →
  (DataW.weightsEach P (fs.map (·.type)) (xs.map (·.1))).all (· ≤ reachBytes) = true → ∃ a, d.K W a cs ∧ ok a
theorem OpensF.last {α : Type} {d : Kd α} {f : Field} {o : Nat} {ok : α → Prop} (ho : f.offset = o) (hc : P.cellsOf f.type = d.sz) (h : Opens enc P W d f.type ok) : OpensF enc P W d [f] o ok := fun n cs xs hl hx ht hw => by
 obtain ⟨x, rfl⟩ : ∃ x, xs = [x] := List.length_eq_one_iff.1 hx
 have h1 := ht 0 f rfl
 rw [ho, Nat.sub_self, List.drop_zero, hc, ← hl, List.take_length] at h1
 exact h n cs x h1 (by simpa [DataW.weightsEach] using hw)
theorem OpensF.cons {α β : Type} {d : Kd α} {b : Kd β} {f : Field} {fs : List Field} {o : Nat} {ok : α → Prop} {ok2 : β → Prop} (ho : f.offset = o) (hc : P.cellsOf f.type = d.sz) (hle : ∀ g ∈ fs, o + d.sz ≤ g.offset) (h : Opens enc P W d f.type ok) (h2 : OpensF enc P W b fs (o + d.sz) ok2) :
  OpensF enc P W (Kd.pair d b) (f :: fs) o (fun x => ok x.1 ∧ ok2 x.2) := fun n cs xs hl hx ht hw => by
 rcases xs with _ | ⟨x, xs⟩
 ·simp at hx
 have hl : cs.length = d.sz + b.sz := hl
 simp only [List.map_cons, DataW.weightsEach, List.all_append, Bool.and_eq_true] at hw
 have h1 := ht 0 f rfl
 rw [ho, Nat.sub_self, List.drop_zero, hc] at h1
 obtain ⟨a, ha, hk⟩ := h n _ x h1 hw.1
 obtain ⟨b', hb, hk2⟩ := h2 n (cs.drop d.sz) xs (by rw [List.length_drop]; omega) (by simpa using hx) (fun i g hg => by
  have h3 := ht (i + 1) g hg
  have h4 := hle g (List.mem_of_getElem? hg)
  rw [List.drop_drop, show d.sz + (g.offset - (o + d.sz)) = g.offset - o by omega]
  exact h3) hw.2
 exact ⟨(a, b'), ⟨cs.take d.sz, cs.drop d.sz, (List.take_append_drop _ _).symm, ha, hb⟩, hk, hk2⟩
theorem Opens.struct {α β : Type} {d : Kd α} {t : TypeId} {fs : Array Field} {ok : α → Prop} (ht : P.underlying t = some (.struct fs)) (hc : P.cellsOf t = d.sz) (h : OpensF enc P W d fs.toList 0 ok) (f : β → α) (g : α → β) (hfg : ∀ a, f (g a) = a) :
  Opens enc P W (Kd.iso d f) t (fun y => ok (f y)) := fun fuel cs x hx hw => by
 obtain ⟨xs, n, rfl, rfl, hl, hn, hf⟩ := DataW.trod_struct ht hx
 simp only [DataW.weights, ht] at hw
 obtain ⟨a, ha, hk⟩ := h n cs xs (by rw [hl, hc]) (by simpa using hn) (fun i f' hi => by
  rw [Nat.sub_zero]
  exact hf i f' (by simpa using hi)) hw
 exact ⟨g a, by show d.K W (f (g a)) cs; rw [hfg]; exact ha, by show ok (f (g a)); rw [hfg]; exact hk⟩
end
end Go.Proofs.Ytodjpbidjldblaa.H
