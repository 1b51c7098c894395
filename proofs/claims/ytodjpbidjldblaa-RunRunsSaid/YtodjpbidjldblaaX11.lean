/- Texts joined. Conditions: each stands with its theorem. -/
import Derived.Test.YtodjpbidjldblaaX00
import Derived.Test.YtodjpbidjldblaaX09
import Derived.Test.YtodjpbidjldblaaX10
namespace Go.Proofs.Ytodjpbidjldblaa.H
open Go.RowKit Go.Proofs.YtodjpbidjldblaaW.PrintWords Go.Proofs.YtodjpbidjldblaaW.PrintLast Go.Proofs.YtodjpbidjldblaaW.PrintMore Go.Proofs.Ytodjpbidjldblaa.PRunEdges
set_option linter.unusedVariables false
set_option linter.unusedSimpArgs false
set_option maxRecDepth 100000
theorem ne_or (c : Int) : (c != 0) = true ∨ c = 0 := by
 by_cases h : c = 0
 ·exact .inr h
 ·exact .inl (by simp [h])
theorem nextB_of {p : SProg} {f : SFunc} (hfp : FuncP f) (hins : ∀ b < f.f4.length, ∀ k < (f.f4.getD b zBlock).f0.length, InsP p f ((f.f4.getD b zBlock).f0.getD k zIns)) : ∀ b < f.f4.length, ∀ v ∈ nextB f b, 1 ≤ v ∧ v < (f.f4.length : Int) := by
 intro b hb v hv
 have h1 := hins b hb ((f.f4.getD b zBlock).f0.length - 1) (by have := (hfp.code b hb).1; omega)
 unfold nextB lastIns at hv
 generalize (f.f4.getD b zBlock).f0.getD ((f.f4.getD b zBlock).f0.length - 1) zIns = x at h1 hv
 unfold nextL at hv
 by_cases h21 : x.f0 = 21
 ·rw [if_pos h21] at hv
  rw [List.mem_singleton.1 hv]
  exact h1.jump h21
 ·rw [if_neg h21] at hv
  by_cases h22 : x.f0 = 22
  ·rw [if_pos h22] at hv
   have h2 := h1.branch h22
   by_cases h3 : x.f4 = x.f5
   ·rw [if_pos h3] at hv
    rw [List.mem_singleton.1 hv]
    exact h2.1
   ·rw [if_neg h3] at hv
    simp only [List.mem_cons, List.not_mem_nil, or_false] at hv
    unfold mn mx at hv
    rcases hv with rfl | rfl <;> split <;> omega
  ·rw [if_neg h22] at hv
   cases hv
theorem uses_of {p : SProg} {f : SFunc} {x : SIns} (h : InsP p f x) : ∀ v ∈ usesL x, 0 ≤ v ∧ v < (f.f0.length : Int) := by
 intro v hv
 unfold usesL at hv
 simp only [List.mem_append] at hv
 rcases hv with hv | hv | hv
 ·split at hv
  ·rename_i q
   rw [List.mem_singleton.1 hv]; exact h.a q
  ·cases hv
 ·split at hv
  ·rename_i q
   rw [List.mem_singleton.1 hv]; exact h.b q
  ·cases hv
 ·split at hv
  ·rename_i q
   exact h.l q v hv
  ·cases hv
def CheckIs (p : SProg) (w : World) (e : Ending) (w' : World) : Prop := ∃ c : Int, e = .returned (.int .i64 c) ∧ (c = 0 → ProgP p) ∧ Bel w w'
theorem CheckIs.no {p : SProg} {w w' : World} (c : Int) (hc : c ≠ 0) (h : Bel w w') : CheckIs p w (.returned (.int .i64 c)) w' := ⟨c, rfl, (fun q => absurd q hc), h⟩
def FitF (p : SProg) (m : Nat) : Prop := ∀ b < (fnAt p m).f4.length, ∀ k < ((fnAt p m).f4.getD b zBlock).f0.length, FitP (fnAt p m) (((fnAt p m).f4.getD b zBlock).f0.getD k zIns)
theorem prog_of {p : SProg} (h : ChkP p) (hf : ∀ m < p.f0.length, FitF p m) : ProgP p := ⟨h.funcs, h.main, h.func, fun n hn b hb k hk => ⟨h.ins n hn b hb k hk, hf n hn b hb k hk⟩⟩
theorem usesL_len {x : SIns} (h : x.f6.length ≤ 100000) : (usesL x).length ≤ 200000 := by
 unfold usesL
 simp only [List.length_append]
 have h1 : (if has x.f0 65 then [x.f2] else []).length ≤ 1 := by split <;> simp
 have h2 : (if has x.f0 66 then [x.f3] else []).length ≤ 1 := by split <;> simp
 have h3 : (if has x.f0 76 then x.f6 else []).length ≤ 100000 := by split <;> simp [h]
 omega
set_option maxHeartbeats 8000000 in
theorem Check_any (p : SProg) (PA : Option Addr) (pc : Nat) (w : World) (hP : Rd kFunc w PA p.f0) (hfew : Aside0 (∀ f ∈ p.f0, fewF f)) :
  Calls Try.prog 21 #[.agg #[.slice PA p.f0.length pc]] w (CheckIs p w) := by
 obtain ⟨g, hg⟩ : ∃ g, w.heap.size = g := ⟨_, rfl⟩
 have hB := (Bel.refl w).alloc (.cells #[.slice PA p.f0.length pc] 24)
 have hbp := heap_new' (o := .cells #[.slice PA p.f0.length pc] 24) hg.symm
 go_enter Try.func21, Try.ntmps21
 go_upto_region 1 with (fail)
 generalize w.alloc (.cells #[.slice PA p.f0.length pc] 24) = wa at hB hbp ⊢
 replace hg := Aside0.mk hg
 have hcc := Aside0.mk (Chk_any p PA pc wa (hP.step hB) hfew)
 obtain ⟨N, hN⟩ : ∃ N, p.f0.length = N := ⟨_, rfl⟩
 rw [hN] at hbp ⊢
 replace hN := Aside0.mk hN
 simp only [hN.out] at hcc
 have y0 : wa.cell? ⟨g, 0, none⟩ = some (.slice PA N pc) := blk_cell hbp 0
 go_wp2_with (go_at_call 29; ((with_reducible refine hcc.out.mono ?_); rintro e wb ⟨c, rfl, hc, hBb⟩; rcases ne_or c with bc | rfl))
 ·go_ret
  exact .no 5 (by decide) (hB.trans hBb)
 have hC : Aside0 (ChkP p) := ⟨hc (by first | trivial | rfl)⟩
 have hp8 : N ≤ 8 := by rw [← hN.out]; exact hC.out.funcs.2
 have hB := hB.trans hBb
 have hbp := hBb.blk hbp
 clear hcc hc y0 hBb
 go_loopw [3, 4, 5] (fun v3 v4 i W => ∃ n : Nat, n ≤ N ∧ i = .int .i64 n ∧ SomeB v3 ∧ SomeB v4 ∧ Aside0 (∀ m < n, FitF p m) ∧ Bel wb W) (fun _ _ i _ => N - (intOf i).toNat)
 case atStart => exact ⟨0, by omega, rfl, ⟨_, rfl⟩, ⟨_, rfl⟩, ⟨fun i hi => by omega⟩, Bel.refl _⟩
 case round =>
  obtain ⟨n, hn, rfl, ⟨b3, rfl⟩, ⟨b4, rfl⟩, hgd, hBa⟩ := hrel
  have hb1 := hBa.blk hbp
  have y0 : wr.cell? ⟨g, 0, none⟩ = some (.slice PA N pc) := blk_cell hb1 0
  by_cases hlt : n < N
  case neg =>
   have q1 : ¬ (n : Int) < (N : Int) := by omega
   obtain rfl : n = N := by omega
   have hPr := hP.step (hB.trans hBa)
   have hpr : ProgP p := prog_of hC.out (fun m hm => hgd.out m (by rw [← hN.out]; exact hm))
   have hk7 := Aside0.mk (Kinds_any p PA pc 7 (by decide) wr hPr hC)
   have hk8 := Aside0.mk (Kinds_any p PA pc 8 (by decide) wr hPr hC)
   simp only [hN.out] at hk7 hk8
   cases b3 with
   | true =>
    go_wp2_with (go_at_call 36; ((with_reducible refine hk7.out.mono ?_); rintro e wk ⟨c, rfl, hc, hBk⟩))
    go_ret
    exact .no c hc ((hB.trans hBa).trans hBk)
   | false =>
    cases b4 with
    | true =>
     go_wp2_with (go_at_call 36; ((with_reducible refine hk8.out.mono ?_); rintro e wk ⟨c, rfl, hc, hBk⟩))
     go_ret
     exact .no c hc ((hB.trans hBa).trans hBk)
    | false =>
     go_wp2
     go_ret
     exact ⟨0, rfl, fun _ => hpr, hB.trans hBa⟩
  have q1 : (n : Int) < (N : Int) := by omega
  have hnp : n < p.f0.length := by rw [hN.out]; exact hlt
  have hBw := hB.trans hBa
  obtain ⟨ad, F0, F1, F4, d0, d1, d4, hPA, u0, u1, u2, u3, u4, r0, r1, r4, l0, l1, l4⟩ := func_at (hP.step hBw) n hnp
  obtain ⟨f, hf⟩ : ∃ f, fnAt p n = f := ⟨_, rfl⟩
  have ef : p.f0[n] = fnAt p n := by unfold fnAt; rw [getD_at hnp]
  rw [ef, hf] at u0 u1 u2 u3 u4 r0 r1 r4 l0 l1 l4
  rw [hPA] at y0
  replace hPA := Aside0.mk hPA
  have hfi := Aside0.mk (hC.out.ins n hnp)
  have hfl := Aside0.mk (fun b hb k hk => few_at hfew.out n hnp b hb k hk)
  have hfp := hC.out.func n hnp
  rw [hf] at hfi hfl hfp
  replace hf := Aside0.mk hf
  have hnx := Aside0.mk (nextB_of hfp hfi.out)
  have hrf := Aside0.mk (fun b (hb : b < f.f4.length) k hk => (hfi.out b hb k hk).refs)
  have hcd0 := Aside0.mk hfp.code
  have hbl := hfp.base
  have h48 := hfp.vars
  have hpar := hfp.par
  have hblk := hfp.blocks
  replace hfp := Aside0.mk hfp
  obtain ⟨F, hF⟩ : ∃ F, wr.heap.size = F := ⟨_, rfl⟩
  have hBc := (Bel.refl wr).alloc (.cells #[.slice F0 f.f0.length d0, .slice F1 f.f1.length d1, .int .i64 f.f2, .int .i64 f.f3, .slice F4 f.f4.length d4] 52)
  have hbf := heap_new' (o := .cells #[.slice F0 f.f0.length d0, .slice F1 f.f1.length d1, .int .i64 f.f2, .int .i64 f.f3, .slice F4 f.f4.length d4] 52) hF.symm
  have hFA : FuncAt wr f F0 d0 F1 d1 F4 d4 := ⟨r0, r1, r4, l0, l1, l4⟩
  replace hFA := Aside0.mk (hFA.step hBc)
  clear ef r0 r1 r4 l0 l1 l4
  replace hbl := Aside0.mk hbl
  go_upto_region 8 with (fail)
  generalize wr.alloc (.cells #[.slice F0 f.f0.length d0, .slice F1 f.f1.length d1, .int .i64 f.f2, .int .i64 f.f3, .slice F4 f.f4.length d4] 52) = wq at hBc hbf hFA ⊢
  replace hF := Aside0.mk hF
  have hBq := hBa.trans hBc
  clear y0 u0 u1 u2 u3 u4 hb1 hBc hBa
  obtain ⟨base, hbase⟩ : ∃ base, wq.heap.size = base := ⟨_, rfl⟩
  have hst := States_any f F0 d0 F1 d1 F4 d4 wq hFA.out h48 hbl.out ⟨hpar.1, hpar.2.1⟩ hblk.1 hblk.2 hcd0 hnx hrf
  have hwi := fun (X : World) (q : Bel wq X) => Within_any hblk.2 hcd0.out hblk.1 (hFA.out.step q)
  unfold StatesIs at hst
  simp only [funcV, hbase] at hst hwi
  replace hst := Aside0.mk hst
  replace hwi := Aside0.mk hwi
  replace hbase := Aside0.mk hbase
  obtain ⟨nc, hnc⟩ : ∃ nc, f.f4.length = nc := ⟨_, rfl⟩
  rw [hnc] at hbf hst hwi hblk
  have hc40 := hblk.2
  clear hblk hcd0 hnx hrf hpar
  replace hnc := Aside0.mk hnc
  have z0 : wq.cell? ⟨F, 0, none⟩ = some (.slice F0 f.f0.length d0) := blk_cell hbf 0
  have z1 : wq.cell? ⟨F, 1, none⟩ = some (.slice F1 f.f1.length d1) := blk_cell hbf 1
  have z2 : wq.cell? ⟨F, 2, none⟩ = some (.int .i64 f.f2) := blk_cell hbf 2
  have z3 : wq.cell? ⟨F, 3, none⟩ = some (.int .i64 f.f3) := blk_cell hbf 3
  have z4 : wq.cell? ⟨F, 4, none⟩ = some (.slice F4 nc d4) := blk_cell hbf 4
  go_upto_region 9 with (go_at_call 30; ((with_reducible refine hst.out.mono ?_); rintro e ws ⟨b5, b6, rfl, hS5, hS6, hb5, hb6, hBs⟩))
  have hwi := Aside0.mk (hwi.out ws hBs)
  have hbf := hBs.blk hbf
  clear z0 z1 z2 z3 z4 hst hb5 hb6
  have z0 : ws.cell? ⟨F, 0, none⟩ = some (.slice F0 f.f0.length d0) := blk_cell hbf 0
  have z1 : ws.cell? ⟨F, 1, none⟩ = some (.slice F1 f.f1.length d1) := blk_cell hbf 1
  have z2 : ws.cell? ⟨F, 2, none⟩ = some (.int .i64 f.f2) := blk_cell hbf 2
  have z3 : ws.cell? ⟨F, 3, none⟩ = some (.int .i64 f.f3) := blk_cell hbf 3
  have z4 : ws.cell? ⟨F, 4, none⟩ = some (.slice F4 nc d4) := blk_cell hbf 4
  go_upto_region 10 with (go_at_call 31; ((with_reducible refine hwi.out.mono ?_); rintro e wz ⟨v9, l9, rfl, hO9, hl9, hB9⟩))
  obtain ⟨A9, c9, rfl, hc9, hR9⟩ := (OwnAt.of_own hO9 (Nat.le_refl _)).reads
  rw [hl9] at hc9 ⊢
  have hbf := hB9.blk hbf
  have hFA := Aside0.mk (hFA.out.step (hBs.trans hB9))
  have hS5 := hS5.step hB9
  have hS6 := hS6.step hB9
  have hBz := hBq.trans (hBs.trans hB9)
  have hbsz : base ≤ wz.heap.size := by rw [← hbase.out]; exact (hBs.trans hB9).size
  replace hc9 := Aside0.mk hc9
  have hB9z := Aside0.mk (Bel.refl wz)
  clear z0 z1 z2 z3 z4 hwi hO9 hBs hB9 hBq
  replace hS5 := Aside0.mk hS5
  replace hS6 := Aside0.mk hS6
  replace hl9 := Aside0.mk hl9
  go_wp2
  go_loopw [3, 4, 10] (fun v3 v4 i W => ∃ b : Nat, b ≤ nc ∧ i = .int .i64 b ∧ SomeB v3 ∧ SomeB v4 ∧ Aside0 (∀ c < b, ∀ j < (f.f4.getD c zBlock).f0.length, FitP f ((f.f4.getD c zBlock).f0.getD j zIns)) ∧ Bel wz W) (fun _ _ i _ => nc - (intOf i).toNat)
  case atStart => exact ⟨0, by omega, rfl, ⟨_, rfl⟩, ⟨_, rfl⟩, ⟨fun i hi => by omega⟩, Bel.refl _⟩
  case round =>
   obtain ⟨b, hb, rfl, ⟨b3, rfl⟩, ⟨b4, rfl⟩, hcd, hB1⟩ := hrel
   have hb1 := hB1.blk hbf
   have z4 : wr.cell? ⟨F, 4, none⟩ = some (.slice F4 nc d4) := blk_cell hb1 4
   by_cases hltb : b < nc
   case neg =>
    have p1 : ¬ (b : Int) < (nc : Int) := by omega
    obtain rfl : b = nc := by omega
    go_wp2
    go_roundw
    case rel =>
     refine ⟨n + 1, by omega, by go_num, ⟨_, rfl⟩, ⟨_, rfl⟩, ⟨fun m hm => ?_⟩, hBz.trans hB1⟩
     rcases Nat.lt_or_ge m n with h | h
     ·exact hgd.out m h
     ·obtain rfl : m = n := by omega
      unfold FitF
      rw [hf.out]; intro b hb; exact hcd.out b (by rw [← hnc.out]; exact hb)
    case measure => simp [intOf]; omega
   have p1 : (b : Int) < (nc : Int) := by omega
   have hltf : b < f.f4.length := by rw [hnc.out]; exact hltb
   obtain ⟨ad4, B0, e0, e4, y0, he0, hri⟩ := block_at (hFA.out.step hB1).r4 b hltf
   subst e4
   obtain ⟨l, hl⟩ : ∃ l, (f.f4[b]'hltf).f0 = l := ⟨_, rfl⟩
   rw [hl] at y0 he0 hri
   have hl' : (f.f4.getD b zBlock).f0 = l := by rw [getD_at hltf, hl]
   have hlm := (hfp.out.code b hltf).2
   rw [hl'] at hlm
   have hin := Aside0.mk (fun k hk => And.intro (hfi.out b hltf k hk) (hfl.out b hltf k hk))
   rw [hl'] at hin
   replace hl' := Aside0.mk hl'
   clear hl
   obtain ⟨cl, hcl⟩ : ∃ cl, l.length = cl := ⟨_, rfl⟩
   rw [hcl] at y0 he0 hlm
   replace hcl := Aside0.mk hcl
   replace he0 := Aside0.mk he0
   obtain ⟨S5, k5, c5, y5, _, hv5⟩ := (hS5.out.step hB1).at_ b hltb
   obtain ⟨S6, k6, c6, y6, _, hv6⟩ := (hS6.out.step hB1).at_ b hltb
   go_upto_region 13 with (fail)
   go_quiet (fail)
   have hBd := (Bel.refl wr).drewN nq
   generalize wr.drewN nq = wd at hBd ⊢
   have hBzd := hB1.trans hBd
   have y0 := Bel.cell hBd y0
   have hri := hri.step hBd
   have hv5 := hv5.step hBd
   have hv6 := hv6.step hBd
   clear y5 y6 z4 hB1 hb1 hBd
   go_wp2
   go_loopw [3, 4, 11, 12, 13] (fun v3 v4 v11 v12 i W => ∃ k : Nat, k ≤ cl ∧ i = .int .i64 k ∧ SomeB v3 ∧ SomeB v4 ∧ SetO base W v11 ∧ SetO base W v12 ∧ Aside0 (∀ j < k, FitP f (l.getD j zIns)) ∧ Bel wd W) (fun _ _ _ _ i _ => cl - (intOf i).toNat)
   case atStart => exact ⟨0, by omega, rfl, ⟨_, rfl⟩, ⟨_, rfl⟩, hv5, hv6, ⟨fun i hi => by omega⟩, Bel.refl _⟩
   case round =>
    obtain ⟨k, hk, rfl, ⟨b3, rfl⟩, ⟨b4, rfl⟩, hv11, hv12, hj, hB2⟩ := hrel
    clear hv5 hv6
    obtain ⟨A11, l11, c11, rfl, hR11, h11, _⟩ := hv11.at_
    obtain ⟨A12, l12, c12, rfl, hR12, h12, _⟩ := hv12.at_
    have hB12 := hBzd.trans hB2
    have hb2 := hB12.blk hbf
    have z4 := blk_cell hb2 4
    have y4 := Bel.cell hB2 y0
    by_cases hltk : k < cl
    case neg =>
     have p2 : ¬ (k : Int) < (cl : Int) := by omega
     obtain rfl : k = cl := by omega
     go_wp2
     go_roundw
     case rel =>
      refine ⟨b + 1, by omega, by go_num, ⟨_, rfl⟩, ⟨_, rfl⟩, ⟨fun c hc => ?_⟩, hB12⟩
      rcases Nat.lt_or_ge c b with h | h
      ·exact hcd.out c h
      ·obtain rfl : c = b := by omega
       rw [hl'.out]
       intro j hj2
       exact hj.out j (by rw [← hcl.out]; exact hj2)
     case measure => simp [intOf]; omega
    have p2 : (k : Int) < (cl : Int) := by omega
    have hlk : k < l.length := by rw [hcl.out]; exact hltk
    obtain ⟨ad5, A6, c6, e5, i0, i1, i2, i3, i4, i5, i6, hl6, hR6⟩ := ins_at (hri.step hB2) k hlk
    subst e5
    obtain ⟨x, hx⟩ : ∃ x, l[k]'hlk = x := ⟨_, rfl⟩
    have hx' : l.getD k zIns = x := by rw [getD_at hlk, hx]
    rw [hx] at i0 i1 i2 i3 i4 i5 i6 hl6 hR6
    have hxi := hin.out k hlk
    rw [hx'] at hxi
    replace hx' := Aside0.mk hx'
    clear hx
    obtain ⟨V, hV⟩ : ∃ V, wr.heap.size = V := ⟨_, rfl⟩
    have hBv := (Bel.refl wr).alloc (.cells #[.int .i64 x.f0, .int .i64 x.f1, .int .i64 x.f2, .int .i64 x.f3, .int .i64 x.f4, .int .i64 x.f5, .slice A6 x.f6.length c6] 57)
    have hbv := heap_new' (o := .cells #[.int .i64 x.f0, .int .i64 x.f1, .int .i64 x.f2, .int .i64 x.f3, .int .i64 x.f4, .int .i64 x.f5, .slice A6 x.f6.length c6] 57) hV.symm
    go_upto_region 18 with (fail)
    generalize wr.alloc (.cells #[.int .i64 x.f0, .int .i64 x.f1, .int .i64 x.f2, .int .i64 x.f3, .int .i64 x.f4, .int .i64 x.f5, .slice A6 x.f6.length c6] 57) = wv at hBv hbv ⊢
    replace hV := Aside0.mk hV
    have hBzv := hB12.trans hBv
    have hBwv := hB.trans (hBz.trans hBzv)
    have hBdv := hB2.trans hBv
    have hbg := (hBz.trans hBzv).blk hbp
    have hR6 := hR6.step hBv
    have hv11 := hv11.step hBv
    have hv12 := hv12.step hBv
    have hR11 := hR11.step hBv
    have hR12 := hR12.step hBv
    clear i0 i1 i2 i3 i4 i5 i6 z4 y4 hb2 hB12 hBv
    have hfit := Fits_any p n x PA pc A6 c6 wv (hP.step hBwv) hnp (by rw [hN.out]; exact hp8) hR6 hl6 ⟨hC.out.func⟩ (by rw [hf.out]; exact hxi.1)
    rw [hf.out] at hfit
    have huse := fun (X : World) (q : Bel wv X) => Uses_any x A6 c6 X (hR6.step q) hl6 (by have := hxi.2; omega)
    have hstep := fun (X : World) (q : Bel wv X) => Step_any f F0 d0 F1 d1 (some ad4) d4 x A6 c6 (.slice A11 l11.length c11) (.slice A12 l12.length c12) X (hFA.out.step (hBzv.trans q)) h48 hbl.out (hR6.step q) hl6 hxi.1.d (fun e => hxi.1.a (by rw [e]; decide)) (hv11.step q).at_ (hv12.step q).at_
    simp only [insV, funcV, hN.out, hnc.out] at hfit huse hstep
    have husr := uses_of hxi.1
    have husl := usesL_len hxi.2
    replace hfit := Aside0.mk hfit
    replace huse := Aside0.mk huse
    replace hstep := Aside0.mk hstep
    replace husr := Aside0.mk husr
    have z0 : wv.cell? ⟨g, 0, none⟩ = some (.slice PA N pc) := blk_cell hbg 0
    have i0 := blk_cell hbv 0
    have i1 := blk_cell hbv 1
    have i2 := blk_cell hbv 2
    have i3 := blk_cell hbv 3
    have i4 := blk_cell hbv 4
    have i5 := blk_cell hbv 5
    have i6 := blk_cell hbv 6
    go_wp2_with (first | (go_at_call 32; ((with_reducible refine hfit.out.mono ?_); rintro e wf ⟨gb, rfl, hgb, hBf⟩; have hbvf := hBf.blk hbv; have j0 := blk_cell hbvf 0; have j1 := blk_cell hbvf 1; have j2 := blk_cell hbvf 2; have j3 := blk_cell hbvf 3; have j4 := blk_cell hbvf 4; have j5 := blk_cell hbvf 5; have j6 := blk_cell hbvf 6; have husx := Aside0.mk (huse.out wf hBf); clear i0 i1 i2 i3 i4 i5 i6 hbvf z0; cases gb)) | (go_at_call 33; ((with_reducible refine husx.out.mono ?_); rintro e wu ⟨v15, rfl, hO15, hBu⟩)))
    ·go_ret
     exact .no 6 (by decide) (hBwv.trans hBf)
    have hff : FitP f x := hgb (by first | trivial | rfl)
    have hgb := Aside0.mk hff
    clear hff
    obtain ⟨A15, c15, rfl, hc15, hR15⟩ := (OwnAt.of_own hO15 (Nat.le_refl _)).reads
    have hBu := hBf.trans hBu
    have hBzu := hBzv.trans hBu
    have hBdu := hBdv.trans hBu
    have hR9u := hR9.step (hB9z.out.trans hBzu)
    have hR11 := hR11.step hBu
    have hR12 := hR12.step hBu
    have hR0u := (hFA.out.step hBzu).r0
    clear hBf husx hxi j0 j1 j2 j3 j4 j5 j6
    obtain ⟨us, hus⟩ : ∃ us, usesL x = us := ⟨_, rfl⟩
    rw [hus] at husr husl hc15 hR15 ⊢
    obtain ⟨ul, hul⟩ : ∃ ul, us.length = ul := ⟨_, rfl⟩
    rw [hul] at husl hc15 ⊢
    replace hus := Aside0.mk hus
    replace hul := Aside0.mk hul
    obtain ⟨nf, hnf⟩ : ∃ n, f.f0.length = n := ⟨_, rfl⟩
    replace hnf := Aside0.mk hnf
    go_wp2
    go_loopw [3, 4, 16] (fun v3 v4 i W => ∃ u : Nat, u ≤ ul ∧ i = .int .i64 u ∧ SomeB v3 ∧ SomeB v4 ∧ Bel wu W) (fun _ _ i _ => ul - (intOf i).toNat)
    case atStart => exact ⟨0, by omega, rfl, ⟨_, rfl⟩, ⟨_, rfl⟩, Bel.refl _⟩
    case round =>
     obtain ⟨u, hu, rfl, ⟨b3, rfl⟩, ⟨b4, rfl⟩, hB3⟩ := hrel
     by_cases hltu : u < ul
     case neg =>
      have p3 : ¬ (u : Int) < (ul : Int) := by omega
      have hBs := hBu.trans hB3
      have hbfs := (hBzu.trans hB3).blk hbf
      have hbvs := hBs.blk hbv
      have s0 := blk_cell hbfs 0
      have s1 := blk_cell hbfs 1
      have s2 := blk_cell hbfs 2
      have s3 := blk_cell hbfs 3
      have s4 := blk_cell hbfs 4
      have i0 := blk_cell hbvs 0
      have i1 := blk_cell hbvs 1
      have i2 := blk_cell hbvs 2
      have i3 := blk_cell hbvs 3
      have i4 := blk_cell hbvs 4
      have i5 := blk_cell hbvs 5
      have i6 := blk_cell hbvs 6
      have hst := Aside0.mk (hstep.out wr hBs)
      go_wp2_with (go_at_call 35; ((with_reducible refine hst.out.mono ?_); rintro e wt ⟨v1, l1, v2, l2, rfl, h1, h2, h3, h4, hBt⟩))
      go_roundw
      case rel =>
       have hbs : base ≤ wr.heap.size := Nat.le_trans hbsz (hBzu.trans hB3).size
       refine ⟨k + 1, by omega, by go_num, ⟨_, rfl⟩, ⟨_, rfl⟩, SetO.of h1 h2 hbs, SetO.of h3 h4 hbs, ⟨fun j hj2 => ?_⟩, hBdu.trans (hB3.trans hBt)⟩
       rcases Nat.lt_or_ge j k with h | h
       ·exact hj.out j h
       ·obtain rfl : j = k := by omega
        rw [hx'.out]
        exact hgb.out
      case measure => simp [intOf]; omega
     have p3 : (u : Int) < (ul : Int) := by omega
     have p0 : (0 : Int) ≤ (b : Int) := by omega
     obtain ⟨ad9, e9, hcell⟩ := Kd.at_bool (hR9u.step hB3).out (b : Int) (by omega) (by rw [hl9.out]; omega)
     subst e9
     simp only [Int.toNat_natCast] at hcell
     obtain ⟨mb, hmb⟩ : ∃ m, rdOf false l9 (b : Int) = m := ⟨_, rfl⟩
     rw [hmb] at hcell
     clear hmb
     cases mb with
     | false =>
      have hBs := hBu.trans hB3
      have hbfs := (hBzu.trans hB3).blk hbf
      have hbvs := hBs.blk hbv
      have s0 := blk_cell hbfs 0
      have s1 := blk_cell hbfs 1
      have s2 := blk_cell hbfs 2
      have s3 := blk_cell hbfs 3
      have s4 := blk_cell hbfs 4
      have i0 := blk_cell hbvs 0
      have i1 := blk_cell hbvs 1
      have i2 := blk_cell hbvs 2
      have i3 := blk_cell hbvs 3
      have i4 := blk_cell hbvs 4
      have i5 := blk_cell hbvs 5
      have i6 := blk_cell hbvs 6
      have hst := Aside0.mk (hstep.out wr hBs)
      go_wp2_with (go_at_call 35; ((with_reducible refine hst.out.mono ?_); rintro e wt ⟨v1, l1, v2, l2, rfl, h1, h2, h3, h4, hBt⟩))
      go_roundw
      case rel =>
       have hbs : base ≤ wr.heap.size := Nat.le_trans hbsz (hBzu.trans hB3).size
       refine ⟨k + 1, by omega, by go_num, ⟨_, rfl⟩, ⟨_, rfl⟩, SetO.of h1 h2 hbs, SetO.of h3 h4 hbs, ⟨fun j hj2 => ?_⟩, hBdu.trans (hB3.trans hBt)⟩
       rcases Nat.lt_or_ge j k with h | h
       ·exact hj.out j h
       ·obtain rfl : j = k := by omega
        rw [hx'.out]
        exact hgb.out
      case measure => simp [intOf]; omega
     | true =>
      obtain ⟨ad15, e15, y15⟩ := rd_atN (hR15.step hB3) u (by rw [hul.out]; exact hltu)
      subst e15
      have hU := husr.out (rd us (u : Int)) (by show us.getD u 0 ∈ us; rw [getD_at (by rw [hul.out]; exact hltu)]; exact List.getElem_mem _)
      obtain ⟨U, hUU⟩ : ∃ U : Nat, rd us (u : Int) = (U : Int) := ⟨(rd us (u : Int)).toNat, by omega⟩
      rw [hUU] at y15 hU
      clear hUU
      obtain ⟨a0, ea, yk⟩ := rd_atN (hR0u.step hB3) U (by omega)
      subst ea
      obtain ⟨kU, hkU⟩ : ∃ k, rd f.f0 (U : Int) = k := ⟨_, rfl⟩
      rw [hkU] at yk
      clear hkU
      have qU : (U : Int) < (f.f0.length : Int) := by omega
      have hha := Aside0.mk (fun (X : World) (q : Bel wr X) => Has_any A11 c11 l11 U X (hR11.step (hB3.trans q)) (by omega) h11)
      have hhb := Aside0.mk (fun (X : World) (q : Bel wr X) => Has_any A12 c12 l12 U X (hR12.step (hB3.trans q)) (by omega) h12)
      have hbfr := (hBzu.trans hB3).blk hbf
      have hS := Aside0.mk (fun (X : World) (q : Bel wr X) => And.intro (blk_cell (q.blk hbfr) 0) (And.intro (Bel.cell q y15) (Bel.cell q yk)))
      have hBd : Bel wr wr.drew := (Bel.refl wr).drewN 1
      cases b3 with
      | true =>
       go_upto_region 25 with (fail)
       clear y15 yk hcell
       cases b4 with
       | true =>
        refine wp_region_held_drew (S := fun w' => w'.cell? ⟨F, 0, none⟩ = some (.slice (some a0) f.f0.length d0) ∧ w'.cell? (ad15.add u) = some (.int .i64 U) ∧ w'.cell? (a0.add U) = some (.int .i64 kU)) (by kernel_rfl) (hS.out _ hBd) (fun hHeld => ?_)
        refine takeH [0, 1] (by kernel_rfl) (by kernel_rfl) hHeld ?_
        iterate 2 (refine takeI (v := ?_) rfl rfl (fun _ _ _ h => h) (Or.inl ⟨by kernel_rfl, ?_⟩) ?_; rotate_left 1; focus (intro w hSw; (try dsimp only at hSw); go_simp; (try with_reducible rfl); done); try simp only [Act.put, z1, z2, z3, z4, z5, z6])
        refine takeE ?_
        try dsimp only
        refine takeH [2, 3, 4, 5, 6, 7, 8, 9, 10, 11, 12, 13, 14, 15, 16] (by kernel_rfl) (by kernel_rfl) hHeld ?_
        iterate 15 (refine takeI (v := undef) rfl rfl (fun _ _ _ h => h) (Or.inr ⟨by kernel_rfl, rfl⟩) ?_; try simp only [Act.put, z1, z2, z3, z4, z5, z6])
        refine takeE ?_
        try dsimp only
        refine wpAnyH_ready (rs := [17]) (by kernel_rfl) (by simp) ?_
        refine AllReadyH.cons rfl (fun K hK => ?_) AllReadyH.nil
        rw [if_neg (Bool.eq_false_iff.1 (by kernel_rfl))]
        refine hK.out _ _ hHeld (fun _ => ?_)
        clear hK K
        try simp only [Act.put, z1, z2, z3, z4, z5, z6]
        refine takeH [18, 19] (by kernel_rfl) (by kernel_rfl) hHeld ?_
        iterate 2 (refine takeI (v := undef) rfl rfl (fun _ _ _ h => h) (Or.inr ⟨by kernel_rfl, rfl⟩) ?_; try simp only [Act.put, z1, z2, z3, z4, z5, z6])
        refine takeE ?_
        try dsimp only
        refine takeH [20, 21] (by kernel_rfl) (by kernel_rfl) hHeld ?_
        iterate 2 (refine takeI (v := ?_) rfl rfl (fun _ _ _ h => h) (Or.inl ⟨by kernel_rfl, ?_⟩) ?_; rotate_left 1; focus (intro w hSw; (try dsimp only at hSw); go_simp; (try with_reducible rfl); done); try simp only [Act.put, z1, z2, z3, z4, z5, z6])
        refine takeE ?_
        try dsimp only
        refine wpAnyH_done (by kernel_rfl) ?_ _
        go_wp2
        go_roundw
        case rel => exact ⟨u + 1, by omega, by go_num, ⟨_, rfl⟩, ⟨_, rfl⟩, hB3.trans hBd⟩
        case measure => simp [intOf]; omega
       | false =>
        by_cases hk2 : kU = 2
        ·have bk : (kU == 2) = true := by simp [hk2]
         clear hk2
         refine wp_region_held_drew (S := fun w' => w'.cell? ⟨F, 0, none⟩ = some (.slice (some a0) f.f0.length d0) ∧ w'.cell? (ad15.add u) = some (.int .i64 U) ∧ w'.cell? (a0.add U) = some (.int .i64 kU)) (by kernel_rfl) (hS.out _ hBd) (fun hHeld => ?_)
         refine takeH [0, 1, 2, 3, 4, 5, 6, 7, 8, 9, 10, 11, 12, 13, 14, 15, 16] (by kernel_rfl) (by kernel_rfl) hHeld ?_
         iterate 17 (refine takeI (v := ?_) rfl rfl (fun _ _ _ h => h) (Or.inl ⟨by kernel_rfl, ?_⟩) ?_; rotate_left 1; focus (intro w hSw; (try dsimp only at hSw); go_simp; (try with_reducible rfl); done); try simp only [Act.put, z1, z2, z3, z4, z5, z6])
         refine takeE ?_
         try dsimp only
         refine wpAnyH_ready (rs := [17]) (by kernel_rfl) (by simp) ?_
         refine AllReadyH.cons rfl (fun K hK => ?_) AllReadyH.nil
         go_simp
         (go_at_call 34; refine (hhb.out _ hBd).mono ?_; rintro e w3 ⟨hb, rfl, -, hq3⟩; obtain rfl := hq3.symm)
         refine hK.out _ _ ?_ (fun hHeld => ?_)
         rotate_left 1
         clear hK K
         try simp only [Act.put, z1, z2, z3, z4, z5, z6]
         rotate_left 1
         ·exact hS.out _ hBd
         refine takeH [18, 19, 20, 21] (by kernel_rfl) (by kernel_rfl) hHeld ?_
         iterate 4 (refine takeI (v := ?_) rfl rfl (fun _ _ _ h => h) (Or.inl ⟨by kernel_rfl, ?_⟩) ?_; rotate_left 1; focus (intro w hSw; (try dsimp only at hSw); go_simp; (try with_reducible rfl); done); try simp only [Act.put, z1, z2, z3, z4, z5, z6])
         refine takeE ?_
         try dsimp only
         refine wpAnyH_done (by kernel_rfl) ?_ _
         go_wp2
         go_roundw
         case rel => exact ⟨u + 1, by omega, by go_num, ⟨_, rfl⟩, ⟨_, rfl⟩, hB3.trans hBd⟩
         case measure => simp [intOf]; omega
        ·have bk : (kU == 2) = false := by simp [hk2]
         clear hk2
         refine wp_region_held_drew (S := fun w' => w'.cell? ⟨F, 0, none⟩ = some (.slice (some a0) f.f0.length d0) ∧ w'.cell? (ad15.add u) = some (.int .i64 U) ∧ w'.cell? (a0.add U) = some (.int .i64 kU)) (by kernel_rfl) (hS.out _ hBd) (fun hHeld => ?_)
         refine takeH [0, 1, 2, 3, 4, 5, 6, 7, 8, 9, 10, 11] (by kernel_rfl) (by kernel_rfl) hHeld ?_
         iterate 12 (refine takeI (v := ?_) rfl rfl (fun _ _ _ h => h) (Or.inl ⟨by kernel_rfl, ?_⟩) ?_; rotate_left 1; focus (intro w hSw; (try dsimp only at hSw); go_simp; (try with_reducible rfl); done); try simp only [Act.put, z1, z2, z3, z4, z5, z6])
         refine takeE ?_
         try dsimp only
         refine takeH [12, 13, 14, 15, 16] (by kernel_rfl) (by kernel_rfl) hHeld ?_
         iterate 5 (refine takeI (v := undef) rfl rfl (fun _ _ _ h => h) (Or.inr ⟨by kernel_rfl, rfl⟩) ?_; try simp only [Act.put, z1, z2, z3, z4, z5, z6])
         refine takeE ?_
         try dsimp only
         refine wpAnyH_ready (rs := [17]) (by kernel_rfl) (by simp) ?_
         refine AllReadyH.cons rfl (fun K hK => ?_) AllReadyH.nil
         rw [if_neg (Bool.eq_false_iff.1 (by kernel_rfl))]
         refine hK.out _ _ hHeld (fun _ => ?_)
         clear hK K
         try simp only [Act.put, z1, z2, z3, z4, z5, z6]
         refine takeH [18] (by kernel_rfl) (by kernel_rfl) hHeld ?_
         iterate 1 (refine takeI (v := undef) rfl rfl (fun _ _ _ h => h) (Or.inr ⟨by kernel_rfl, rfl⟩) ?_; try simp only [Act.put, z1, z2, z3, z4, z5, z6])
         refine takeE ?_
         try dsimp only
         refine takeH [19, 20, 21] (by kernel_rfl) (by kernel_rfl) hHeld ?_
         iterate 3 (refine takeI (v := ?_) rfl rfl (fun _ _ _ h => h) (Or.inl ⟨by kernel_rfl, ?_⟩) ?_; rotate_left 1; focus (intro w hSw; (try dsimp only at hSw); go_simp; (try with_reducible rfl); done); try simp only [Act.put, z1, z2, z3, z4, z5, z6])
         refine takeE ?_
         try dsimp only
         refine wpAnyH_done (by kernel_rfl) ?_ _
         go_wp2
         go_roundw
         case rel => exact ⟨u + 1, by omega, by go_num, ⟨_, rfl⟩, ⟨_, rfl⟩, hB3.trans hBd⟩
         case measure => simp [intOf]; omega
      | false =>
       go_upto_region 25 with (go_at_call 34; (with_reducible refine (hha.out _ (Bel.refl wr)).mono ?_); rintro e w3 ⟨hb, rfl, -, hq3⟩; obtain rfl := hq3.symm)
       clear y15 yk hcell
       cases b4 with
       | true =>
        refine wp_region_held_drew (S := fun w' => w'.cell? ⟨F, 0, none⟩ = some (.slice (some a0) f.f0.length d0) ∧ w'.cell? (ad15.add u) = some (.int .i64 U) ∧ w'.cell? (a0.add U) = some (.int .i64 kU)) (by kernel_rfl) (hS.out _ hBd) (fun hHeld => ?_)
        refine takeH [0, 1] (by kernel_rfl) (by kernel_rfl) hHeld ?_
        iterate 2 (refine takeI (v := ?_) rfl rfl (fun _ _ _ h => h) (Or.inl ⟨by kernel_rfl, ?_⟩) ?_; rotate_left 1; focus (intro w hSw; (try dsimp only at hSw); go_simp; (try with_reducible rfl); done); try simp only [Act.put, z1, z2, z3, z4, z5, z6])
        refine takeE ?_
        try dsimp only
        refine takeH [2, 3, 4, 5, 6, 7, 8, 9, 10, 11, 12, 13, 14, 15, 16] (by kernel_rfl) (by kernel_rfl) hHeld ?_
        iterate 15 (refine takeI (v := undef) rfl rfl (fun _ _ _ h => h) (Or.inr ⟨by kernel_rfl, rfl⟩) ?_; try simp only [Act.put, z1, z2, z3, z4, z5, z6])
        refine takeE ?_
        try dsimp only
        refine wpAnyH_ready (rs := [17]) (by kernel_rfl) (by simp) ?_
        refine AllReadyH.cons rfl (fun K hK => ?_) AllReadyH.nil
        rw [if_neg (Bool.eq_false_iff.1 (by kernel_rfl))]
        refine hK.out _ _ hHeld (fun _ => ?_)
        clear hK K
        try simp only [Act.put, z1, z2, z3, z4, z5, z6]
        refine takeH [18, 19] (by kernel_rfl) (by kernel_rfl) hHeld ?_
        iterate 2 (refine takeI (v := undef) rfl rfl (fun _ _ _ h => h) (Or.inr ⟨by kernel_rfl, rfl⟩) ?_; try simp only [Act.put, z1, z2, z3, z4, z5, z6])
        refine takeE ?_
        try dsimp only
        refine takeH [20, 21] (by kernel_rfl) (by kernel_rfl) hHeld ?_
        iterate 2 (refine takeI (v := ?_) rfl rfl (fun _ _ _ h => h) (Or.inl ⟨by kernel_rfl, ?_⟩) ?_; rotate_left 1; focus (intro w hSw; (try dsimp only at hSw); go_simp; (try with_reducible rfl); done); try simp only [Act.put, z1, z2, z3, z4, z5, z6])
        refine takeE ?_
        try dsimp only
        refine wpAnyH_done (by kernel_rfl) ?_ _
        go_wp2
        go_roundw
        case rel => exact ⟨u + 1, by omega, by go_num, ⟨_, rfl⟩, ⟨_, rfl⟩, hB3.trans hBd⟩
        case measure => simp [intOf]; omega
       | false =>
        by_cases hk2 : kU = 2
        ·have bk : (kU == 2) = true := by simp [hk2]
         clear hk2
         refine wp_region_held_drew (S := fun w' => w'.cell? ⟨F, 0, none⟩ = some (.slice (some a0) f.f0.length d0) ∧ w'.cell? (ad15.add u) = some (.int .i64 U) ∧ w'.cell? (a0.add U) = some (.int .i64 kU)) (by kernel_rfl) (hS.out _ hBd) (fun hHeld => ?_)
         refine takeH [0, 1, 2, 3, 4, 5, 6, 7, 8, 9, 10, 11, 12, 13, 14, 15, 16] (by kernel_rfl) (by kernel_rfl) hHeld ?_
         iterate 17 (refine takeI (v := ?_) rfl rfl (fun _ _ _ h => h) (Or.inl ⟨by kernel_rfl, ?_⟩) ?_; rotate_left 1; focus (intro w hSw; (try dsimp only at hSw); go_simp; (try with_reducible rfl); done); try simp only [Act.put, z1, z2, z3, z4, z5, z6])
         refine takeE ?_
         try dsimp only
         refine wpAnyH_ready (rs := [17]) (by kernel_rfl) (by simp) ?_
         refine AllReadyH.cons rfl (fun K hK => ?_) AllReadyH.nil
         go_simp
         (go_at_call 34; refine (hhb.out _ hBd).mono ?_; rintro e w3 ⟨hb, rfl, -, hq3⟩; obtain rfl := hq3.symm)
         refine hK.out _ _ ?_ (fun hHeld => ?_)
         rotate_left 1
         clear hK K
         try simp only [Act.put, z1, z2, z3, z4, z5, z6]
         rotate_left 1
         ·exact hS.out _ hBd
         refine takeH [18, 19, 20, 21] (by kernel_rfl) (by kernel_rfl) hHeld ?_
         iterate 4 (refine takeI (v := ?_) rfl rfl (fun _ _ _ h => h) (Or.inl ⟨by kernel_rfl, ?_⟩) ?_; rotate_left 1; focus (intro w hSw; (try dsimp only at hSw); go_simp; (try with_reducible rfl); done); try simp only [Act.put, z1, z2, z3, z4, z5, z6])
         refine takeE ?_
         try dsimp only
         refine wpAnyH_done (by kernel_rfl) ?_ _
         go_wp2
         go_roundw
         case rel => exact ⟨u + 1, by omega, by go_num, ⟨_, rfl⟩, ⟨_, rfl⟩, hB3.trans hBd⟩
         case measure => simp [intOf]; omega
        ·have bk : (kU == 2) = false := by simp [hk2]
         clear hk2
         refine wp_region_held_drew (S := fun w' => w'.cell? ⟨F, 0, none⟩ = some (.slice (some a0) f.f0.length d0) ∧ w'.cell? (ad15.add u) = some (.int .i64 U) ∧ w'.cell? (a0.add U) = some (.int .i64 kU)) (by kernel_rfl) (hS.out _ hBd) (fun hHeld => ?_)
         refine takeH [0, 1, 2, 3, 4, 5, 6, 7, 8, 9, 10, 11] (by kernel_rfl) (by kernel_rfl) hHeld ?_
         iterate 12 (refine takeI (v := ?_) rfl rfl (fun _ _ _ h => h) (Or.inl ⟨by kernel_rfl, ?_⟩) ?_; rotate_left 1; focus (intro w hSw; (try dsimp only at hSw); go_simp; (try with_reducible rfl); done); try simp only [Act.put, z1, z2, z3, z4, z5, z6])
         refine takeE ?_
         try dsimp only
         refine takeH [12, 13, 14, 15, 16] (by kernel_rfl) (by kernel_rfl) hHeld ?_
         iterate 5 (refine takeI (v := undef) rfl rfl (fun _ _ _ h => h) (Or.inr ⟨by kernel_rfl, rfl⟩) ?_; try simp only [Act.put, z1, z2, z3, z4, z5, z6])
         refine takeE ?_
         try dsimp only
         refine wpAnyH_ready (rs := [17]) (by kernel_rfl) (by simp) ?_
         refine AllReadyH.cons rfl (fun K hK => ?_) AllReadyH.nil
         rw [if_neg (Bool.eq_false_iff.1 (by kernel_rfl))]
         refine hK.out _ _ hHeld (fun _ => ?_)
         clear hK K
         try simp only [Act.put, z1, z2, z3, z4, z5, z6]
         refine takeH [18] (by kernel_rfl) (by kernel_rfl) hHeld ?_
         iterate 1 (refine takeI (v := undef) rfl rfl (fun _ _ _ h => h) (Or.inr ⟨by kernel_rfl, rfl⟩) ?_; try simp only [Act.put, z1, z2, z3, z4, z5, z6])
         refine takeE ?_
         try dsimp only
         refine takeH [19, 20, 21] (by kernel_rfl) (by kernel_rfl) hHeld ?_
         iterate 3 (refine takeI (v := ?_) rfl rfl (fun _ _ _ h => h) (Or.inl ⟨by kernel_rfl, ?_⟩) ?_; rotate_left 1; focus (intro w hSw; (try dsimp only at hSw); go_simp; (try with_reducible rfl); done); try simp only [Act.put, z1, z2, z3, z4, z5, z6])
         refine takeE ?_
         try dsimp only
         refine wpAnyH_done (by kernel_rfl) ?_ _
         go_wp2
         go_roundw
         case rel => exact ⟨u + 1, by omega, by go_num, ⟨_, rfl⟩, ⟨_, rfl⟩, hB3.trans hBd⟩
         case measure => simp [intOf]; omega
attribute [local go_sem] max2_int max_three
def OutIs (p : SProg) (w : World) (e : Ending) (w' : World) : Prop := ∃ b, e = .returned (.bool b) ∧ (b = false → ProgP p) ∧ Bel w w'
theorem OutIs.yes {p : SProg} {w w' : World} (h : Bel w w') : OutIs p w (.returned (.bool true)) w' := ⟨true, rfl, (fun q => by cases q), h⟩
def SomeI (v : Value) : Prop := ∃ s : Int, v = .int .i64 s
set_option maxHeartbeats 8000000 in
theorem out_any (p : SProg) (PA : Option Addr) (pc : Nat) (w : World) (hP : Rd kFunc w PA p.f0) (hA : Aside0 (AProg p.f0)) :
  Calls Try.prog 9 #[.agg #[.slice PA p.f0.length pc]] w (OutIs p w) := by
 obtain ⟨g, hg⟩ : ∃ g, w.heap.size = g := ⟨_, rfl⟩
 have hB := (Bel.refl w).alloc (.cells #[.slice PA p.f0.length pc] 24)
 have hbp := heap_new' (o := .cells #[.slice PA p.f0.length pc] 24) hg.symm
 go_enter Try.func9, Try.ntmps9
 go_upto_region 1 with (fail)
 generalize w.alloc (.cells #[.slice PA p.f0.length pc] 24) = wa at hB hbp ⊢
 replace hg := Aside0.mk hg
 have hgr := Aside0.mk (fun (X : World) (q : Bel wa X) => Great_raw PA pc p.f0 X (hP.step (hB.trans q)) hA)
 have hck := Aside0.mk (fun (hf : ∀ f ∈ p.f0, fewF f) (X : World) (q : Bel wa X) => Check_any p PA pc X (hP.step (hB.trans q)) ⟨hf⟩)
 obtain ⟨N, hN⟩ : ∃ N, p.f0.length = N := ⟨_, rfl⟩
 rw [hN] at hbp ⊢
 replace hN := Aside0.mk hN
 simp only [hN.out] at hgr hck
 go_wp2
 go_loopw [3, 4] (fun v i W => ∃ k : Nat, k ≤ N ∧ k ≤ 9 ∧ i = .int .i64 k ∧ SomeI v ∧ Bel wa W) (fun _ i _ => N - (intOf i).toNat)
 case atStart => exact ⟨0, by omega, by omega, rfl, ⟨_, rfl⟩, Bel.refl _⟩
 case round =>
  obtain ⟨k, hk, hk9, rfl, ⟨s, rfl⟩, hB1⟩ := hrel
  have hb1 := hB1.blk hbp
  have y0 : wr.cell? ⟨g, 0, none⟩ = some (.slice PA N pc) := blk_cell hb1 0
  by_cases hlt : k < N ∧ k < 9
  ·have q1 : (k : Int) < (N : Int) := by omega
   have q2 : (k : Int) < 9 := by omega
   have hkp : k < p.f0.length := by rw [hN.out]; exact hlt.1
   obtain ⟨ad, F0, F1, F4, d0, d1, d4, hPA, u0, u1, u2, u3, u4, -⟩ := func_at (hP.step (hB.trans hB1)) k hkp
   subst hPA
   obtain ⟨n0, hn0⟩ : ∃ n, (p.f0[k]).f0.length = n := ⟨_, rfl⟩
   obtain ⟨n4, hn4⟩ : ∃ n, (p.f0[k]).f4.length = n := ⟨_, rfl⟩
   rw [hn0] at u0
   rw [hn4] at u4
   clear hn0 hn4 u1 u2 u3
   go_upto_region 5 with (fail)
   go_quiet (fail)
   go_wp2
   go_roundw
   case rel => exact ⟨k + 1, by omega, by omega, by go_num, ⟨_, rfl⟩, hB1.drewN _⟩
   case measure => simp [intOf]; omega
  ·by_cases hkN : k < N
   ·have q1 : (k : Int) < (N : Int) := by omega
    have q2 : ¬ (k : Int) < 9 := by omega
    by_cases hs : 14 < s
    ·go_wp2
     go_ret
     exact .yes (hB.trans hB1)
    ·go_wp2_with (first | (go_at_call 20; ((with_reducible refine (hgr.out _ hB1).mono ?_); rintro e w2 ⟨gb, rfl, hgf, hB2⟩; have hb2 := hB2.blk hb1; have y2 := blk_cell hb2 0; cases gb)) | (go_at_call 21; ((with_reducible refine (hck.out (hgf.out (by first | trivial | rfl)) _ (hB1.trans hB2)).mono ?_); rintro e w3 ⟨c, rfl, hc, hB3⟩; rcases ne_or c with bc | rfl)))
     ·go_ret
      exact .yes ((hB.trans hB1).trans (hB2.trans hB3))
     ·go_ret
      exact ⟨false, rfl, fun _ => hc (by first | trivial | rfl), (hB.trans hB1).trans (hB2.trans hB3)⟩
     ·go_ret
      exact .yes ((hB.trans hB1).trans hB2)
   ·have q1 : ¬ (k : Int) < (N : Int) := by omega
    by_cases hs : 14 < s
    ·go_wp2
     go_ret
     exact .yes (hB.trans hB1)
    ·go_wp2_with (first | (go_at_call 20; ((with_reducible refine (hgr.out _ hB1).mono ?_); rintro e w2 ⟨gb, rfl, hgf, hB2⟩; have hb2 := hB2.blk hb1; have y2 := blk_cell hb2 0; cases gb)) | (go_at_call 21; ((with_reducible refine (hck.out (hgf.out (by first | trivial | rfl)) _ (hB1.trans hB2)).mono ?_); rintro e w3 ⟨c, rfl, hc, hB3⟩; rcases ne_or c with bc | rfl)))
     ·go_ret
      exact .yes ((hB.trans hB1).trans (hB2.trans hB3))
     ·go_ret
      exact ⟨false, rfl, fun _ => hc (by first | trivial | rfl), (hB.trans hB1).trans (hB2.trans hB3)⟩
     ·go_ret
      exact .yes ((hB.trans hB1).trans hB2)
end Go.Proofs.Ytodjpbidjldblaa.H
