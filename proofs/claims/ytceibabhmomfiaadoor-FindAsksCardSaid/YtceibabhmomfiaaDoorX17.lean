/- Texts of this work, joined: Pe2. Conditions: each stands with its theorem. -/
import Derived.Test.YtceibabhmomfiaaDoorX15
/- Layer 3, walks: charts' bytes. -/
namespace Go.Proofs.YtceibabhmomfiaaDoor.H
open Go.RowKit Go.Proofs.YtceibabhmomfiaaDoorW.PrintWords Go.Proofs.YtceibabhmomfiaaDoorW.PrintLast
set_option linter.unusedVariables false
set_option linter.unusedSimpArgs false
set_option maxRecDepth 100000

set_option maxHeartbeats 1000000 in
theorem number_any (x : SLoc) (h0 : mayL x = true) (w : World) : Calls Tryd.prog 40 #[.agg #[.int .i64 x.f0, .int .i64 x.f1]] w fun e w' => e = .returned (.int .i64 (nOf x)) ∧ Bel w w' := by
  have hB0 := ((Bel.refl w).alloc (.cells #[.int .i64 x.f0, .int .i64 x.f1] 50))
  obtain ⟨x0, x1⟩ := x
  unfold nOf
  simp only at hB0 ⊢
  have hb : (x0 = 1 ∨ x0 = 2) ∧ 0 ≤ x1 ∧ x1 < 160 := by
    rcases may_cases h0 with ⟨a, b, c⟩ | ⟨a, b, c⟩ <;> simp only at a b c
    · exact ⟨.inl a, b, by omega⟩
    · exact ⟨.inr a, b, c⟩
  have b1 : 1 ≤ x0 := by omega
  have b2 : x0 ≤ 2 := by omega
  have b3 := hb.2.1
  have b4 := hb.2.2
  clear hb h0
  go_enter Tryd.func40, Tryd.ntmps40
  go_wp2
  go_ret
  exact ⟨rfl, hB0⟩
set_option maxHeartbeats 1000000 in
theorem Encode_no (A : Option Addr) (c : Nat) (l : List SChart) (w : World) (HA : Rd kChart w A l) (hs : Aside0 (FewC l)) (hno : ¬ RightP l) :
    Calls Tryd.prog 17 #[.slice A l.length c] w fun e w' => e = .returned (.tuple #[.slice none 0 0, .int .i64 1]) ∧ Bel w w' := by
  have hc := Aside0.mk ((Right_any A c l w HA hs).mono (fun e w' h => h.no hno))
  replace hno := Aside0.mk hno
  go_enter Tryd.func17, Tryd.ntmps17
  go_wp2_with (go_at_call 19; ((with_reducible refine hc.out.mono ?_); rintro e w1 ⟨rfl, hB1⟩))
  go_ret2
  exact ⟨rfl, hB1⟩
theorem List1 (a : Int) (h0 : -9223372036854775808 ≤ a) (h1 : a ≤ 9223372036854775807) (W : World) : Calls Tryd.prog 39 #[.slice (some ⟨W.heap.size, 0, none⟩) 1 1] (W.alloc (.cells #[.int .i64 a] 3)) fun e w' => ∃ v, e = .returned v ∧ OwnB W w' v (putL a) ∧ Bel W w' := by
  have hB : Bel W (W.alloc (.cells #[.int .i64 a] 3)) := (Bel.refl W).alloc _
  refine (List_any (some ⟨W.heap.size, 0, none⟩) 1 [a] _ (Rd.lit .i64 3 W [a] (by simp)) ⟨by simp; omega⟩ (by simp)).mono ?_
  rintro e w' ⟨v, rfl, hv, hB1⟩
  exact ⟨v, rfl, by simpa [listL] using hv.lower hB, hB.trans hB1⟩
theorem List2 (a b : Int) (h0 : -9223372036854775808 ≤ a) (h1 : a ≤ 9223372036854775807) (k0 : -9223372036854775808 ≤ b) (k1 : b ≤ 9223372036854775807) (W : World) : Calls Tryd.prog 39 #[.slice (some ⟨W.heap.size, 0, none⟩) 2 2] (W.alloc (.cells #[.int .i64 a, .int .i64 b] 3)) fun e w' => ∃ v, e = .returned v ∧ OwnB W w' v (putL a ++ putL b) ∧ Bel W w' := by
  have hB : Bel W (W.alloc (.cells #[.int .i64 a, .int .i64 b] 3)) := (Bel.refl W).alloc _
  refine (List_any (some ⟨W.heap.size, 0, none⟩) 2 [a, b] _ (Rd.lit .i64 3 W [a, b] (by simp)) ⟨by simp; omega⟩ (by simp)).mono ?_
  rintro e w' ⟨v, rfl, hv, hB1⟩
  exact ⟨v, rfl, by simpa [listL] using hv.lower hB, hB.trans hB1⟩
theorem List3 (a b d : Int) (h0 : -9223372036854775808 ≤ a) (h1 : a ≤ 9223372036854775807) (k0 : -9223372036854775808 ≤ b) (k1 : b ≤ 9223372036854775807) (j0 : -9223372036854775808 ≤ d) (j1 : d ≤ 9223372036854775807) (W : World) : Calls Tryd.prog 39 #[.slice (some ⟨W.heap.size, 0, none⟩) 3 3] (W.alloc (.cells #[.int .i64 a, .int .i64 b, .int .i64 d] 3)) fun e w' => ∃ v, e = .returned v ∧ OwnB W w' v (putL a ++ (putL b ++ putL d)) ∧ Bel W w' := by
  have hB : Bel W (W.alloc (.cells #[.int .i64 a, .int .i64 b, .int .i64 d] 3)) := (Bel.refl W).alloc _
  refine (List_any (some ⟨W.heap.size, 0, none⟩) 3 [a, b, d] _ (Rd.lit .i64 3 W [a, b, d] (by simp)) ⟨by simp; omega⟩ (by simp)).mono ?_
  rintro e w' ⟨v, rfl, hv, hB1⟩
  exact ⟨v, rfl, by simpa [listL] using hv.lower hB, hB.trans hB1⟩
set_option maxHeartbeats 3000000 in
theorem Encode_yes (A : Option Addr) (c : Nat) (l : List SChart) (w : World) (HA : Rd kChart w A l) (hR : Aside0 (RightP l)) (hmx : Aside0 (∀ c ∈ l, c.f0 ≤ mx)) :
    Calls Tryd.prog 17 #[.slice A l.length c] w fun e w' => ∃ v, e = .returned (.tuple #[v, .int .i64 0]) ∧ OwnB w w' v (encC l) ∧ Bel w w' := by
  have hc := Aside0.mk ((Right_any A c l w HA ⟨few_of hR.out⟩).mono (fun e w' h => h.yes hR.out))
  have hfew := hR.out.few
  go_enter Tryd.func17, Tryd.ntmps17
  go_wp2_with (first | (go_at_call 19; ((with_reducible refine hc.out.mono ?_); rintro e w1 ⟨rfl, hB1⟩)) | (go_at_call 39; ((with_reducible refine (List1 (l.length : Int) (by omega) (by omega) w1).mono ?_); rintro e w2 ⟨v2, rfl, hv2, hB2⟩)))
  obtain ⟨r, hr0⟩ : ∃ r, w.heap.size = r := ⟨_, rfl⟩
  have hO2 : Aside0 (OwnAt (Kd.int .u8) 5 r w2 v2 (putL l.length)) := ⟨by rw [← hr0]; exact hv2.lower hB1⟩
  have hBw := hB1.trans hB2
  have hK0 : Aside0 (Below r w w2) := ⟨by rw [← hr0]; exact hBw.out⟩
  replace hr0 := Aside0.mk hr0
  clear hv2 hB1 hB2 hc hBw
  go_loopw [4, 5, 24] (fun v la i W => ∃ k : Nat, k ≤ l.length ∧ i = .int .i64 k ∧ la = .int .i64 (lastA (l.take k)) ∧ Aside0 (OwnAt (Kd.int .u8) 5 r W v (putL l.length ++ chartsS (l.take k)) ∧ Below r w W)) (fun _ _ i _ => l.length - (intOf i).toNat)
  case atStart => exact ⟨0, by omega, rfl, rfl, ⟨by simpa [chartsS, growS] using hO2.out, hK0.out⟩⟩
  case round =>
    obtain ⟨k, hk, rfl, rfl, hO⟩ := hrel
    have hBr : Bel w wr := ⟨by have := hO.out.2; rwa [← hr0.out] at this⟩
    by_cases hlt : k < l.length
    · obtain ⟨ad, C1, n1, C2, n2, rfl, c0', c1', c2', c3, c4⟩ := chart_at HA k hlt
      have c0 := Bel.cell hBr c0'
      have c1 := Bel.cell hBr c1'
      have c2 := Bel.cell hBr c2'
      clear c0' c1' c2'
      have htk := take_snocL l k hlt
      have hCP := hR.out.all _ (List.getElem_mem hlt)
      have hcmx := hmx.out _ (List.getElem_mem hlt)
      obtain ⟨x, hx⟩ : ∃ x, l[k] = x := ⟨_, rfl⟩
      rw [hx] at c0 c1 c2 c3 c4 htk hCP hcmx
      obtain ⟨x0, xr, xd⟩ := x
      simp only at c0 c1 c2 c3 c4 hcmx
      have hba := heap_alloc_new wr (.cells #[.int .i64 x0, .slice C1 xr.length n1, .slice C2 xd.length n2] 36)
      have hBa := (Bel.refl wr).alloc (.cells #[.int .i64 x0, .slice C1 xr.length n1, .slice C2 xd.length n2] 36)
      have hx0 : 1 ≤ x0 := hCP.addr
      have hxr := hCP.refs.few
      have hxd := hCP.ders.few
      simp only at hxr hxd
      go_upto_region 11 with (fail)
      generalize wr.alloc (.cells #[.int .i64 x0, .slice C1 xr.length n1, .slice C2 xd.length n2] 36) = wa at hba hBa ⊢
      obtain ⟨h, hh⟩ : ∃ h, wr.heap.size = h := ⟨_, rfl⟩
      rw [hh] at hba ⊢
      have hrh : r ≤ h := by rw [← hh, ← hr0.out]; exact hBr.size
      have hP := Aside0.mk hCP
      have hsl0 := Aside0.mk (slots_take hCP.refs)
      have hRf : RefsP xr := hCP.refs
      have hOa := Aside0.mk (hO.out.1.step hBa)
      have hBwa := Aside0.mk (hBr.trans hBa)
      have hrwa : r ≤ wa.heap.size := by rw [← hr0.out]; exact hBwa.out.size
      have hF := Aside0.mk (fun (W : World) (q : Bel wa W) => KT.of_bel q hrwa [5])
      have hBw := Aside0.mk (fun (W : World) (q : KT [5] r wa W) => show Bel w W from ⟨hBwa.out.out.trans (q.below.mono (Nat.le_of_eq hr0.out))⟩)
      have hz := Aside0.mk (fun (W : World) (q : KT [5] r wa W) => show W.cell? ⟨h, 0, none⟩ = some (.int .i64 x0) ∧ W.cell? ⟨h, 1, none⟩ = some (.slice C1 xr.length n1) ∧ W.cell? ⟨h, 2, none⟩ = some (.slice C2 xd.length n2) from ⟨blk_cell (q.blk hba (by decide)) 0, blk_cell (q.blk hba (by decide)) 1, blk_cell (q.blk hba (by decide)) 2⟩)
      have hc3 := Aside0.mk (fun (W : World) (q : KT [5] r wa W) => c3.step (hBw.out W q))
      have hc4 := Aside0.mk (fun (W : World) (q : KT [5] r wa W) => c4.step (hBw.out W q))
      obtain ⟨z0, z1, z2⟩ := hz.out wa (KT.refl _ _ _)
      obtain ⟨q, hq⟩ : ∃ q, wa.heap.size = q := ⟨_, rfl⟩
      replace hq := Aside0.mk hq
      replace hh := Aside0.mk hh
      replace hba := Aside0.mk hba
      replace hRf := Aside0.mk hRf
      clear c0 c1 c2 c3 c4 hCP hO hBa hx hBr hO2 hK0
      go_wp2
      go_loopw [8, 9, 10, 31] (fun mk sl ah i W => ∃ (j : Nat) (M : Nat) (p : Int), j ≤ xr.length ∧ i = .int .i64 j ∧ mk = .int .u32 M ∧ M < 4294967296 ∧ Aside0 (maskOf (xr.take j) = M) ∧ ah = .int .i64 p ∧ -1 ≤ p ∧ p ≤ 159 ∧ Aside0 (lastI (slotsOf (xr.take j)) = p) ∧ Aside0 (OwnAt (Kd.int .i64) 3 q W sl (diffs (-1) (slotsOf (xr.take j))) ∧ Bel wa W)) (fun _ _ _ i _ => xr.length - (intOf i).toNat)
      case atStart => exact ⟨0, 0, -1, by omega, rfl, rfl, by decide, ⟨rfl⟩, rfl, by decide, by decide, ⟨rfl⟩, ⟨OwnAt.nil _ _ _ _, Bel.refl _⟩⟩
      case round =>
        clear z0 z1 z2
        obtain ⟨j, M, p, hj, rfl, rfl, hM, hMe, rfl, hp0, hp1, hpe, hOj⟩ := hrel
        by_cases hjl : j < xr.length
        · have hmb := mask_below hRf.out j hjl
          have hmy := hRf.out.may _ (List.getElem_mem hjl)
          have htj := take_snocL xr j hjl
          obtain ⟨ad1, rfl, u0, u1⟩ := loc_at (hc3.out wr (hF.out wr hOj.out.2)) j hjl
          obtain ⟨y, hy⟩ : ∃ y, xr[j] = y := ⟨_, rfl⟩
          rw [hy] at u0 u1 hmb hmy htj
          rw [hMe.out] at hmb
          obtain ⟨y0, y1⟩ := y
          simp only at u0 u1 hmb
          clear hy
          by_cases h1 : y0 = 1
          · obtain ⟨m0, m1, m2, m3⟩ := hmb h1
            subst h1
            obtain ⟨N, rfl⟩ := Int.eq_ofNat_of_zero_le m2
            have hN : N < 32 := by omega
            have hMN : M < 2 ^ N := by
              have h8 : (M : Int) < ((2 ^ N : Nat) : Int) := by
                rw [show ((2 ^ N : Nat) : Int) = (2 : Int) ^ N by push_cast; rfl]
                simpa using m1
              exact Int.ofNat_lt.1 h8
            have h2N : 2 ^ N ≤ 2147483648 := two_le N hN
            have hor : bits .or .u32 (M : Int) ((2 : Int) ^ N % 4294967296) = ((M + 2 ^ N : Nat) : Int) := by
              have e : (2 : Int) ^ N % 4294967296 = ((2 ^ N : Nat) : Int) := by
                rw [show (2 : Int) ^ N = ((2 ^ N : Nat) : Int) by push_cast; rfl]
                omega
              rw [e]
              exact or_u32 M N hMN hN
            have hM2 : Aside0 (maskOf (xr.take (j + 1)) = ((M + 2 ^ N : Nat) : Int)) := ⟨by
              rw [htj, maskOf_app, hMe.out, maskOf_one, if_pos rfl, Int.toNat_natCast]
              push_cast; rfl⟩
            have hs2 : Aside0 (slotsOf (xr.take (j + 1)) = slotsOf (xr.take j)) := ⟨by rw [htj, slotsOf_app, slotsOf_one, if_pos rfl, List.append_nil]⟩
            obtain ⟨M2, hM2e⟩ : ∃ M2, M + 2 ^ N = M2 := ⟨_, rfl⟩
            rw [hM2e] at hor hM2
            have hM2l : M2 < 4294967296 := by omega
            clear m1 htj hmb hMN h2N
            replace hM2e := Aside0.mk hM2e
            go_wp2
            go_roundw
            case rel => exact ⟨j + 1, M2, p, by omega, by go_num, rfl, hM2l, hM2, rfl, hp0, hp1, ⟨by rw [hs2.out]; exact hpe.out⟩, ⟨by rw [hs2.out]; exact hOj.out.1.step ((Bel.refl _).alloc _), hOj.out.2.alloc _⟩⟩
            case measure => simp [intOf]; omega
          · have hk2 : y0 = 2 ∧ 0 ≤ y1 ∧ y1 < 160 := by
              rcases may_cases hmy with ⟨a, _, _⟩ | ⟨a, b, c⟩
              · exact absurd a h1
              · exact ⟨a, b, c⟩
            obtain ⟨rfl, k1, k2⟩ := hk2
            have hM2 : Aside0 (maskOf (xr.take (j + 1)) = (M : Int)) := ⟨by rw [htj, maskOf_app, hMe.out, maskOf_one, if_neg (show ¬ ((2 : Int) = 1) by decide)]; omega⟩
            have hs2 : Aside0 (slotsOf (xr.take (j + 1)) = slotsOf (xr.take j) ++ [y1]) := ⟨by rw [htj, slotsOf_app, slotsOf_one, if_neg (show ¬ ((2 : Int) = 1) by decide)]⟩
            have hd2 : Aside0 (diffs (-1) (slotsOf (xr.take (j + 1))) = diffs (-1) (slotsOf (xr.take j)) ++ [y1 - p]) := ⟨by rw [hs2.out, diffs_snoc]; rw [← hpe.out]; rfl⟩
            obtain ⟨ds, hds⟩ : ∃ ds, diffs (-1) (slotsOf (xr.take j)) = ds := ⟨_, rfl⟩
            have hdl : ds.length ≤ 192 := by
              rw [← hds, diffs_len]
              have := slots_len (xr.take j)
              rw [List.length_take] at this
              omega
            rw [hds] at hd2 hOj
            replace hds := Aside0.mk hds
            have hwaq : q ≤ wr.heap.size := by rw [← hq.out]; exact hOj.out.2.size
            obtain ⟨A8, c8, rfl, _, _⟩ := hOj.out.1.reads
            have hBo := (Bel.refl wr).alloc (.cells #[.int .i64 2, .int .i64 y1] 50)
            have hbo := heap_alloc_new wr (.cells #[.int .i64 2, .int .i64 y1] 50)
            clear htj hmb h1 hmy
            go_upto_region 16 with (fail)
            generalize wr.alloc (.cells #[.int .i64 2, .int .i64 y1] 50) = wo at hBo hbo ⊢
            have hOo := Aside0.mk (hOj.out.1.step hBo)
            have hBwo := Aside0.mk (hOj.out.2.trans hBo)
            have hqo : q ≤ wo.heap.size := Nat.le_trans hwaq hBo.size
            obtain ⟨g, hg⟩ : ∃ g, wr.heap.size = g := ⟨_, rfl⟩
            rw [hg] at hbo ⊢
            have v0 : wo.cell? ⟨g, 0, none⟩ = some (.int .i64 2) := blk_cell hbo 0
            have v1 : wo.cell? ⟨g, 1, none⟩ = some (.int .i64 y1) := blk_cell hbo 1
            replace hbo := Aside0.mk hbo
            replace hg := Aside0.mk hg
            clear hOj
            go_wp2_with ((with_reducible refine gate_b (b := .append) rfl ?_); (refine app_int_at_ (xs := ds) (y1 - p) [.int .i64 (y1 - p)] hOo.out ⟨rfl⟩ hqo rfl _ _ rfl ?hl1 rfl rfl ?_); (case hl1 => omega); intro v3 w5 hO1 hK1; have v2 := blk_cell (hK1.blk hbo.out (by decide)) 1)
            go_roundw
            case rel =>
              refine ⟨j + 1, M, y1, by omega, by go_num, rfl, hM, hM2, rfl, by omega, by omega, ⟨by rw [hs2.out]; simp [lastI]⟩, ⟨by rw [hd2.out]; exact hO1, ⟨hBwo.out.out.trans (hK1.below.mono (Nat.le_of_eq hq.out))⟩⟩⟩
            case measure => simp [intOf]; omega
        · have hjx : Aside0 (xr.take j = xr) := ⟨List.take_of_length_le (by omega)⟩
          rw [hjx.out] at hMe hOj
          have hmok := mask_ok hRf.out
          have hFr := hF.out wr hOj.out.2
          obtain ⟨z0, z1, z2⟩ := hz.out wr hFr
          replace hFr := Aside0.mk hFr
          have hlst : 0 ≤ lastA (l.take k) ∧ lastA (l.take k) ≤ 9223372036854775807 := lastA_ge (by decide) (fun y hy => ⟨(hR.out.all y (List.mem_of_mem_take hy)).addr, hmx.out y (List.mem_of_mem_take hy)⟩)
          have hlst0 := hlst.1
          have hlst1 := hlst.2
          have hsl := slots_len xr
          obtain ⟨ks, hks⟩ : ∃ ks, slotsOf xr = ks := ⟨_, rfl⟩
          rw [hks] at hOj hsl
          obtain ⟨ds, hds⟩ : ∃ ds, diffs (-1) ks = ds := ⟨_, rfl⟩
          have hdl : ds.length = ks.length := by rw [← hds, diffs_len]
          have hds1 : ∀ x ∈ ds, -9223372036854775808 ≤ x ∧ x ≤ 9223372036854775807 := by
            intro x hx
            rw [← hds, ← hks] at hx
            have := diffs_ok _ (-1) (by decide) (by decide) (slots_ok hRf.out).2 x hx
            omega
          rw [hds] at hOj
          obtain ⟨A8, c8, rfl, _, hRd8⟩ := hOj.out.1.reads
          obtain ⟨la, hla⟩ : ∃ la, lastA (l.take k) = la := ⟨_, rfl⟩
          rw [hla] at hlst0 hlst1 ⊢
          have hcmx' : x0 ≤ 9223372036854775807 := hcmx
          have hOw := Aside0.mk (hOa.out.step hOj.out.2)
          obtain ⟨bs, hbs⟩ : ∃ bs, putL (l.length : Int) ++ chartsS (l.take k) = bs := ⟨_, rfl⟩
          have hbl : bs.length ≤ 13000000 := by rw [← hbs]; exact take_len hR.out k
          rw [hbs] at hOw
          obtain ⟨A9, c9, rfl, _, _⟩ := hOw.out.reads
          have hrw := Aside0.mk (fun (W : World) (k : Bel wa W) => show r ≤ W.heap.size from Nat.le_trans (Nat.le_of_eq hr0.out.symm) (hBwa.out.trans k).size)
          have hl3 := Aside0.mk (fun (W : World) => List3 (x0 - la) (M : Int) (ks.length : Int) (by omega) (by omega) (by omega) (by omega) (by omega) (by omega) W)
          replace hks := Aside0.mk hks
          replace hds := Aside0.mk hds
          replace hla := Aside0.mk hla
          replace hbs := Aside0.mk hbs
          replace hds1 := Aside0.mk hds1
          obtain ⟨y3, hy3⟩ : ∃ y, putL (x0 - la) ++ (putL (M : Int) ++ putL (ks.length : Int)) = y := ⟨_, rfl⟩
          have hy3l : y3.length ≤ 30 := by
            rw [← hy3]
            have h1 := putL_len (x0 - la)
            have h2 := putL_len (M : Int)
            have h3 := putL_len (ks.length : Int)
            simp only [List.length_append]
            omega
          rw [hy3] at hl3
          replace hy3 := Aside0.mk hy3
          clear hlst hOa
          go_upto_region 20 with (first | (go_at_call 39; ((with_reducible refine (hl3.out _).mono ?_); rintro e w6 ⟨v6, rfl, hv6, hB6⟩; obtain ⟨A10, c10, rfl, _, hR10⟩ := hv6.reads)) | ((with_reducible refine gate_b (b := .append) rfl ?_); (refine app_bytes_ (xs := bs) (hOw.out.step hB6) (hrw.out _ (hOj.out.2.trans hB6)) hR10 rfl _ _ rfl ?hl1 rfl rfl ?_); (case hl1 => omega); intro v7 w7 hO7 hK7))
          have hrr : r ≤ wr.heap.size := Nat.le_trans hrwa hOj.out.2.size
          have hF7 := Aside0.mk ((hFr.out.trans (KT.of_bel hB6 hrr _)).trans hK7)
          have hI7 := Aside0.mk ((hOj.out.1.step hB6).keep hK7 (by decide)).rdOf
          have hls := Aside0.mk (by have := List_any A8 c8 ds w7 hI7.out hds1 (by omega); rw [hdl] at this; exact this)
          have hO7' := Aside0.mk hO7
          obtain ⟨A7, c7, rfl, _, _⟩ := hO7.reads
          have hr7 := Nat.le_trans hrwa hF7.out.size
          obtain ⟨z0', z1', z2'⟩ := hz.out w7 hF7.out
          obtain ⟨b7, hb7⟩ : ∃ b, bs ++ y3 = b := ⟨_, rfl⟩
          have hb7l : b7.length ≤ 13000030 := by rw [← hb7, List.length_append]; omega
          rw [hb7] at hO7 hO7' ⊢
          have hyl := listL_len ds
          obtain ⟨y8, hy8⟩ : ∃ y, listL ds = y := ⟨_, rfl⟩
          rw [hy8] at hls hyl
          replace hb7 := Aside0.mk hb7
          replace hy8 := Aside0.mk hy8
          clear z0 z1 z2 hI7 hO7 hK7 hl3 hOj hOw hR10 hv6 hFr
          go_upto_region 21 with (first | (go_at_call 39; ((with_reducible refine hls.out.mono ?_); rintro e w8 ⟨v8, rfl, hv8, hB8⟩; obtain ⟨A11, c11, rfl, _, hR11⟩ := hv8.reads)) | ((with_reducible refine gate_b (b := .append) rfl ?_); (refine app_bytes_ (xs := b7) (hO7'.out.step hB8) (Nat.le_trans hr7 hB8.size) hR11 rfl _ _ rfl ?hl1 rfl rfl ?_); (case hl1 => omega); intro v9 w9 hO9 hK9))
          have hF9 := Aside0.mk ((hF7.out.trans (KT.of_bel hB8 hr7 _)).trans hK9)
          have hO9' := Aside0.mk hO9
          obtain ⟨A12, c12, rfl, _, _⟩ := hO9.reads
          have hr9 := Nat.le_trans hrwa hF9.out.size
          obtain ⟨z0, z1, z2⟩ := hz.out w9 hF9.out
          obtain ⟨b9, hb9⟩ : ∃ b, b7 ++ y8 = b := ⟨_, rfl⟩
          have hb9l : b9.length ≤ 13003000 := by rw [← hb9, List.length_append]; omega
          rw [hb9] at hO9 hO9' ⊢
          have hl1 := Aside0.mk (fun (W : World) => List1 (xd.length : Int) (by omega) (by omega) W)
          have hyl2 := putL_len (xd.length : Int)
          obtain ⟨y10, hy10⟩ : ∃ y, putL (xd.length : Int) = y := ⟨_, rfl⟩
          rw [hy10] at hl1 hyl2
          replace hb9 := Aside0.mk hb9
          replace hy10 := Aside0.mk hy10
          clear z0' z1' z2' hO9 hK9 hls hR11 hv8 hO7' hF7
          go_upto_region 22 with (first | (go_at_call 39; ((with_reducible refine (hl1.out _).mono ?_); rintro e w10 ⟨v10, rfl, hv10, hB10⟩; obtain ⟨A13, c13, rfl, _, hR13⟩ := hv10.reads)) | ((with_reducible refine gate_b (b := .append) rfl ?_); (refine app_bytes_ (xs := b9) (hO9'.out.step hB10) (Nat.le_trans hr9 hB10.size) hR13 rfl _ _ rfl ?hl1 rfl rfl ?_); (case hl1 => omega); intro v11 w11 hO11 hK11))
          have hF11 := Aside0.mk ((hF9.out.trans (KT.of_bel hB10 hr9 _)).trans hK11)
          obtain ⟨z0', z1', z2'⟩ := hz.out w11 hF11.out
          obtain ⟨b11, hb11⟩ : ∃ b, b9 ++ y10 = b := ⟨_, rfl⟩
          have hb11l : b11.length ≤ 13004000 := by rw [← hb11, List.length_append]; omega
          rw [hb11] at hO11
          replace hO11 := Aside0.mk hO11
          replace hb11 := Aside0.mk hb11
          clear z0 z1 z2 hK11 hl1 hR13 hv10 hO9' hF9
          go_wp2
          go_loopw [4, 79] (fun v i W => ∃ j : Nat, j ≤ xd.length ∧ i = .int .i64 j ∧ Aside0 (OwnAt (Kd.int .u8) 5 r W v (b11 ++ (xd.take j).flatMap pairS) ∧ KT [5] r wa W)) (fun _ i _ => xd.length - (intOf i).toNat)
          case atStart => exact ⟨0, by omega, rfl, ⟨by simpa using hO11.out, hF11.out⟩⟩
          case round =>
            clear z0' z1' z2' hO11 hF11
            obtain ⟨j, hj, rfl, hOj⟩ := hrel
            have hrj := Nat.le_trans hrwa hOj.out.2.size
            obtain ⟨bj, hbj⟩ : ∃ b, b11 ++ (xd.take j).flatMap pairS = b := ⟨_, rfl⟩
            rw [hbj] at hOj
            obtain ⟨A14, c14, rfl, _, _⟩ := hOj.out.1.reads
            by_cases hjl : j < xd.length
            · obtain ⟨ad1, rfl, u0, u1, u2, u3⟩ := pair_at (hc4.out wr hOj.out.2) j hjl
              have htj := take_snocL xd j hjl
              have hdm := hP.out.ders.may _ (List.getElem_mem hjl)
              obtain ⟨d, hd⟩ : ∃ d, xd[j] = d := ⟨_, rfl⟩
              rw [hd] at u0 u1 u2 u3 htj hdm
              have hm0 : mayL d.f0 = true := hdm.1
              have hm1 : mayL d.f1 = true := hP.out.refs.may _ hdm.2.2
              have hq0 := (locN_nOf hm0).2
              have hq1 := (locN_nOf hm1).2
              clear hd hdm
              have hn0 := Aside0.mk (fun (W : World) => number_any d.f0 hm0 W)
              have hn1 := Aside0.mk (fun (W : World) => number_any d.f1 hm1 W)
              have hl2 := Aside0.mk (fun (W : World) => List2 (nOf d.f0) (nOf d.f1) (by omega) (by omega) (by omega) (by omega) W)
              obtain ⟨p0, hp0'⟩ : ∃ n, nOf d.f0 = n := ⟨_, rfl⟩
              obtain ⟨p1, hp1'⟩ : ∃ n, nOf d.f1 = n := ⟨_, rfl⟩
              rw [hp0'] at hn0 hl2
              rw [hp1'] at hn1 hl2
              have hyl0 := putL_len p0
              have hyl1 := putL_len p1
              obtain ⟨y, hy⟩ : ∃ y, putL p0 ++ putL p1 = y := ⟨_, rfl⟩
              have hyl : y.length ≤ 20 := by rw [← hy, List.length_append]; omega
              rw [hy] at hl2
              have hbjl : bj.length ≤ 13010000 := by
                rw [← hbj, List.length_append]
                have h8 := flat_len (s := pairS) (K := 20) (l := xd.take j) (fun d _ => by have h1 := putL_len (nOf d.f0); have h2 := putL_len (nOf d.f1); unfold pairS; simp only [List.length_append]; omega)
                rw [List.length_take] at h8
                omega
              have hnx : Aside0 (b11 ++ (xd.take (j + 1)).flatMap pairS = bj ++ y) := ⟨by
                rw [htj, List.flatMap_append, ← List.append_assoc, hbj, ← hy, ← hp0', ← hp1']
                simp [pairS]⟩
              clear htj hm0 hm1 hq0 hq1 hyl0 hyl1
              replace hbj := Aside0.mk hbj
              replace hy := Aside0.mk hy
              replace hp0' := Aside0.mk hp0'
              replace hp1' := Aside0.mk hp1'
              have hBo := (Bel.refl wr).alloc (.cells #[.int .i64 d.f0.f0, .int .i64 d.f0.f1, .int .i64 d.f1.f0, .int .i64 d.f1.f1] 73)
              have hbo := heap_alloc_new wr (.cells #[.int .i64 d.f0.f0, .int .i64 d.f0.f1, .int .i64 d.f1.f0, .int .i64 d.f1.f1] 73)
              go_upto_region 25 with (fail)
              generalize wr.alloc (.cells #[.int .i64 d.f0.f0, .int .i64 d.f0.f1, .int .i64 d.f1.f0, .int .i64 d.f1.f1] 73) = wo at hBo hbo ⊢
              obtain ⟨g, hg⟩ : ∃ g, wr.heap.size = g := ⟨_, rfl⟩
              rw [hg] at hbo ⊢
              have hOo := Aside0.mk (hOj.out.1.step hBo)
              have hFo := Aside0.mk (hOj.out.2.trans (KT.of_bel hBo hrj _))
              have hro := Nat.le_trans hrj hBo.size
              replace hg := Aside0.mk hg
              clear hOj u0 u1 u2 u3
              have hS := Aside0.mk (fun (W : World) (q : KT [5] r wo W) => show KT [5] r wo W ∧ W.cell? ⟨g, 0, none⟩ = some (.int .i64 d.f0.f0) ∧ W.cell? ⟨g, 1, none⟩ = some (.int .i64 d.f0.f1) ∧ W.cell? ⟨g, 2, none⟩ = some (.int .i64 d.f1.f0) ∧ W.cell? ⟨g, 3, none⟩ = some (.int .i64 d.f1.f1) from ⟨q, blk_cell (q.blk hbo (by decide)) 0, blk_cell (q.blk hbo (by decide)) 1, blk_cell (q.blk hbo (by decide)) 2, blk_cell (q.blk hbo (by decide)) 3⟩)
              have hB : ∀ W, Bel wo W → KT [5] r wo W := fun W q => KT.of_bel q hro _
              replace hB := Aside0.mk hB
              replace hbo := Aside0.mk hbo
              have hBd : Bel wo wo.drew := (Bel.refl wo).drewN 1
              refine wp_region_held_drew (S := fun w' => KT [5] r wo w' ∧ w'.cell? ⟨g, 0, none⟩ = some (.int .i64 d.f0.f0) ∧ w'.cell? ⟨g, 1, none⟩ = some (.int .i64 d.f0.f1) ∧ w'.cell? ⟨g, 2, none⟩ = some (.int .i64 d.f1.f0) ∧ w'.cell? ⟨g, 3, none⟩ = some (.int .i64 d.f1.f1)) (by kernel_rfl) (hS.out _ (hB.out _ hBd)) (fun hHeld => ?_)
              refine wpAnyH_take (i := 0) (v := ?_) rfl (by kernel_rfl) (by kernel_rfl) (by kernel_rfl) (fun _ _ _ h => h) (Or.inl ⟨by kernel_rfl, ?_⟩) hHeld ?_
              rotate_left 1
              focus (intro w hSw; (try dsimp only at hSw); go_simp; (try with_reducible rfl); done)
              try simp only [Act.put, List.getElem_toArray, List.getElem_cons_zero, List.getElem_cons_succ, List.setIfInBounds_toArray, List.set_cons_zero, List.set_cons_succ]
              refine wpAnyH_take (i := 1) (v := ?_) rfl (by kernel_rfl) (by kernel_rfl) (by kernel_rfl) (fun _ _ _ h => h) (Or.inl ⟨by kernel_rfl, ?_⟩) hHeld ?_
              rotate_left 1
              focus (intro w hSw; (try dsimp only at hSw); go_simp; (try with_reducible rfl); done)
              try simp only [Act.put, List.getElem_toArray, List.getElem_cons_zero, List.getElem_cons_succ, List.setIfInBounds_toArray, List.set_cons_zero, List.set_cons_succ]
              refine wpAnyH_take (i := 2) (v := ?_) rfl (by kernel_rfl) (by kernel_rfl) (by kernel_rfl) (fun _ _ _ h => h) (Or.inl ⟨by kernel_rfl, ?_⟩) hHeld ?_
              rotate_left 1
              focus (intro w hSw; (try dsimp only at hSw); go_simp; (try with_reducible rfl); done)
              try simp only [Act.put, List.getElem_toArray, List.getElem_cons_zero, List.getElem_cons_succ, List.setIfInBounds_toArray, List.set_cons_zero, List.set_cons_succ]
              refine wpAnyH_take (i := 4) (v := ?_) rfl (by kernel_rfl) (by kernel_rfl) (by kernel_rfl) (fun _ _ _ h => h) (Or.inl ⟨by kernel_rfl, ?_⟩) hHeld ?_
              rotate_left 1
              focus (intro w hSw; (try dsimp only at hSw); go_simp; (try with_reducible rfl); done)
              try simp only [Act.put, List.getElem_toArray, List.getElem_cons_zero, List.getElem_cons_succ, List.setIfInBounds_toArray, List.set_cons_zero, List.set_cons_succ]
              refine wpAnyH_take (i := 5) (v := ?_) rfl (by kernel_rfl) (by kernel_rfl) (by kernel_rfl) (fun _ _ _ h => h) (Or.inl ⟨by kernel_rfl, ?_⟩) hHeld ?_
              rotate_left 1
              focus (intro w hSw; (try dsimp only at hSw); go_simp; (try with_reducible rfl); done)
              try simp only [Act.put, List.getElem_toArray, List.getElem_cons_zero, List.getElem_cons_succ, List.setIfInBounds_toArray, List.set_cons_zero, List.set_cons_succ]
              refine wpAnyH_ready (rs := [3]) (by kernel_rfl) (by simp) ?_
              refine AllReadyH.cons rfl (fun K hK => ?_) AllReadyH.nil
              go_simp
              (go_at_call 40; refine (hn0.out _).mono ?_; rintro ex w3 ⟨rfl, hB3⟩; have hB3 := hBd.trans hB3)
              refine hK.out _ _ ?_ (fun hHeld => ?_)
              rotate_left 1
              clear hK K
              try simp only [Act.put, List.getElem_toArray, List.getElem_cons_zero, List.getElem_cons_succ, List.setIfInBounds_toArray, List.set_cons_zero, List.set_cons_succ]
              rotate_left 1
              · exact hS.out _ (hB.out _ hB3)
              refine wpAnyH_ready (rs := [6]) (by kernel_rfl) (by simp) ?_
              refine AllReadyH.cons rfl (fun K hK => ?_) AllReadyH.nil
              go_simp
              (go_at_call 40; refine (hn1.out _).mono ?_; rintro ex w4 ⟨rfl, hB4⟩; have hB4 := hB3.trans hB4)
              refine hK.out _ _ ?_ (fun hHeld => ?_)
              rotate_left 1
              clear hK K
              try simp only [Act.put, List.getElem_toArray, List.getElem_cons_zero, List.getElem_cons_succ, List.setIfInBounds_toArray, List.set_cons_zero, List.set_cons_succ]
              rotate_left 1
              · exact hS.out _ (hB.out _ hB4)
              refine wpAnyH_ready (rs := [7]) (by kernel_rfl) (by simp) ?_
              refine AllReadyH.cons rfl (fun K hK => ?_) AllReadyH.nil
              go_simp
              refine hK.out _ _ ?_ (fun hHeld => ?_)
              rotate_left 1
              clear hK K
              try simp only [Act.put, List.getElem_toArray, List.getElem_cons_zero, List.getElem_cons_succ, List.setIfInBounds_toArray, List.set_cons_zero, List.set_cons_succ]
              rotate_left 1
              · exact hS.out _ (hB.out _ (hB4.alloc _))
              refine wpAnyH_ready (rs := [8]) (by kernel_rfl) (by simp) ?_
              refine AllReadyH.cons rfl (fun K hK => ?_) AllReadyH.nil
              go_simp
              (go_at_call 39; refine (hl2.out _).mono ?_; rintro ex w5 ⟨v5, rfl, hv5, hB5⟩; have hB5 := hB4.trans hB5; obtain ⟨A15, c15, rfl, _, hR15⟩ := hv5.reads)
              refine hK.out _ _ ?_ (fun hHeld => ?_)
              rotate_left 1
              clear hK K
              try simp only [Act.put, List.getElem_toArray, List.getElem_cons_zero, List.getElem_cons_succ, List.setIfInBounds_toArray, List.set_cons_zero, List.set_cons_succ]
              rotate_left 1
              · exact hS.out _ (hB.out _ hB5)
              refine wpAnyH_ready (rs := [9]) (by kernel_rfl) (by simp) ?_
              refine AllReadyH.cons rfl (fun K hK => ?_) AllReadyH.nil
              refine app_bytes_step (xs := bj) (hOo.out.step hB5) (Nat.le_trans hro hB5.size) hR15 rfl _ _ rfl (by omega) rfl rfl ?_
              intro v6 w6 hO6 hK6
              refine hK.out _ _ ?_ (fun hHeld => ?_)
              rotate_left 1
              clear hK K
              try simp only [Act.put, List.getElem_toArray, List.getElem_cons_zero, List.getElem_cons_succ, List.setIfInBounds_toArray, List.set_cons_zero, List.set_cons_succ]
              rotate_left 1
              · exact hS.out _ ((hB.out _ hB5).trans hK6)
              refine wpAnyH_take (i := 10) (v := ?_) rfl (by kernel_rfl) (by kernel_rfl) (by kernel_rfl) (fun _ _ _ h => h) (Or.inl ⟨by kernel_rfl, ?_⟩) hHeld ?_
              rotate_left 1
              focus (intro w hSw; (try dsimp only at hSw); go_simp; (try with_reducible rfl); done)
              try simp only [Act.put, List.getElem_toArray, List.getElem_cons_zero, List.getElem_cons_succ, List.setIfInBounds_toArray, List.set_cons_zero, List.set_cons_succ]
              refine wpAnyH_done (by kernel_rfl) ?_ _
              have hF6 := Aside0.mk (hFo.out.trans ((hB.out _ hB5).trans hK6))
              replace hO6 := Aside0.mk hO6
              go_wp2
              go_roundw
              case rel => exact ⟨j + 1, by omega, by go_num, ⟨by rw [hnx.out]; exact hO6.out, hF6.out⟩⟩
              case measure => simp [intOf]; omega
            · have hjx : Aside0 (xd.take j = xd) := ⟨List.take_of_length_le (by omega)⟩
              obtain ⟨z0, z1, z2⟩ := hz.out wr hOj.out.2
              have hfin : Aside0 (bj = putL (l.length : Int) ++ chartsS (l.take (k + 1))) := ⟨by
                rw [htk, ← hbj, hjx.out]
                unfold chartsS
                rw [growS_snoc, List.nil_append, ← List.append_assoc]
                show _ = (putL (l.length : Int) ++ chartsS (l.take k)) ++ chartS (lastA (l.take k)) ⟨x0, xr, xd⟩
                rw [hbs.out, hla.out, ← hb11.out, ← hb9.out, ← hb7.out, ← hy3.out, ← hy8.out, ← hy10.out, ← hds.out, ← diffs_steps, ← hks.out, ← hMe.out]
                unfold chartS refsS dersS
                simp only [List.append_assoc]⟩
              have hlx : Aside0 (lastA (l.take (k + 1)) = x0) := ⟨by rw [htk]; simp [lastA]⟩
              go_wp2
              go_roundw
              case rel => exact ⟨k + 1, by omega, by go_num, by rw [hlx.out], ⟨by rw [← hfin.out]; exact hOj.out.1, hBwa.out.out.mono (Nat.le_of_eq hr0.out.symm) |>.trans hOj.out.2.below⟩⟩
              case measure => simp [intOf]; omega
    · have htl : Aside0 (l.take k = l) := ⟨List.take_of_length_le (by omega)⟩
      rw [htl.out] at hO
      obtain ⟨A8, c8, rfl, _, _⟩ := hO.out.1.reads
      go_wp2
      go_ret2
      exact ⟨_, rfl, ⟨by rw [hr0.out]; exact hO.out.1.out⟩, hBr⟩
end Go.Proofs.YtceibabhmomfiaaDoor.H
