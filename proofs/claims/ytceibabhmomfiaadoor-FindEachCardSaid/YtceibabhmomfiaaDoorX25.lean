/- Texts of this work, joined: Rb2. Conditions: each stands with its theorem. -/
import Derived.Test.YtceibabhmomfiaaDoorX23
import Derived.Test.YtceibabhmomfiaaDoorX24
/- Layer 3, the reference: charts' bytes. -/
namespace Go.Proofs.YtceibabhmomfiaaDoor.H
open Go.RowKit Go.Proofs.YtceibabhmomfiaaDoorW.PrintWords Go.Proofs.YtceibabhmomfiaaDoorW.PrintLast
set_option linter.unusedVariables false
set_option linter.unusedSimpArgs false
set_option maxRecDepth 100000

set_option maxHeartbeats 1000000 in
theorem rEncode_no (A : Option Addr) (c : Nat) (l : List SChart) (w : World) (HA : Rd kChart w A l) (hs : Aside0 (FewC l)) (hno : ¬ RightP l) :
    Calls Tryd.prog 20 #[.slice A l.length c] w fun e w' => e = .returned (.tuple #[.slice none 0 0, .int .i64 1]) ∧ Bel w w' := by
  have hc := Aside0.mk ((rRight_any A c l w HA hs).mono (fun e w' h => h.no hno))
  replace hno := Aside0.mk hno
  go_enter Tryd.func20, Tryd.ntmps20
  go_wp2_with (go_at_call 23; ((with_reducible refine hc.out.mono ?_); rintro e w1 ⟨rfl, hB1⟩))
  go_ret2
  exact ⟨rfl, hB1⟩
set_option maxHeartbeats 3000000 in
theorem rEncode_yes (A : Option Addr) (c : Nat) (l : List SChart) (w : World) (HA : Rd kChart w A l) (hR : Aside0 (RightP l)) (hmx : Aside0 (∀ c ∈ l, c.f0 ≤ mx)) :
    Calls Tryd.prog 20 #[.slice A l.length c] w fun e w' => ∃ v, e = .returned (.tuple #[v, .int .i64 0]) ∧ OwnB w w' v (encC l) ∧ Bel w w' := by
  have hc := Aside0.mk ((rRight_any A c l w HA ⟨few_of hR.out⟩).mono (fun e w' h => h.yes hR.out))
  have hfew := hR.out.few
  go_enter Tryd.func20, Tryd.ntmps20
  go_wp2_with (first | (go_at_call 23; ((with_reducible refine hc.out.mono ?_); rintro e w1 ⟨rfl, hB1⟩)) | (go_at_call 47; ((with_reducible refine (rList1 (l.length : Int) (by omega) (by omega) w1).mono ?_); rintro e w2 ⟨v2, rfl, hv2, hB2⟩)))
  obtain ⟨r, hr0⟩ : ∃ r, w.heap.size = r := ⟨_, rfl⟩
  have hO2 : Aside0 (OwnAt (Kd.int .u8) 5 r w2 v2 (putL l.length)) := ⟨by rw [← hr0]; exact hv2.lower hB1⟩
  have hBw := hB1.trans hB2
  have hK0 : Aside0 (Below r w w2) := ⟨by rw [← hr0]; exact hBw.out⟩
  replace hr0 := Aside0.mk hr0
  clear hv2 hB1 hB2 hc hBw
  go_loopw [4, 5, 6] (fun v la i W => ∃ k : Nat, k ≤ l.length ∧ i = .int .i64 k ∧ la = .int .i64 (lastA (l.take k)) ∧ Aside0 (OwnAt (Kd.int .u8) 5 r W v (putL l.length ++ chartsS (l.take k)) ∧ Below r w W)) (fun _ _ i _ => l.length - (intOf i).toNat)
  case atStart => exact ⟨0, by omega, rfl, rfl, ⟨by simpa [chartsS, growS] using hO2.out, hK0.out⟩⟩
  case round =>
    obtain ⟨k, hk, rfl, rfl, hO⟩ := hrel
    have hBr : Bel w wr := ⟨by have := hO.out.2; rwa [← hr0.out] at this⟩
    by_cases hlt : k < l.length
    · obtain ⟨ad, C1, n1, C2, n2, rfl, c0', c1', c2', c3, c4⟩ := chart_at HA k hlt
      have c0 := Bel.cell hBr c0'
      have c1 := Bel.cell hBr c1'
      have c2 := Bel.cell hBr c2'
      clear c0' c1' c2'
      have htk := take_snocL l k hlt
      have hCP := hR.out.all _ (List.getElem_mem hlt)
      have hcmx := hmx.out _ (List.getElem_mem hlt)
      obtain ⟨x, hx⟩ : ∃ x, l[k] = x := ⟨_, rfl⟩
      rw [hx] at c0 c1 c2 c3 c4 htk hCP hcmx
      obtain ⟨x0, xr, xd⟩ := x
      simp only at c0 c1 c2 c3 c4 hcmx
      have hba := heap_alloc_new wr (.cells #[.int .i64 x0, .slice C1 xr.length n1, .slice C2 xd.length n2] 36)
      have hBa := (Bel.refl wr).alloc (.cells #[.int .i64 x0, .slice C1 xr.length n1, .slice C2 xd.length n2] 36)
      have hx0 : 1 ≤ x0 := hCP.addr
      have hxr := hCP.refs.few
      have hxd := hCP.ders.few
      simp only at hxr hxd
      go_upto_region 9 with (fail)
      generalize wr.alloc (.cells #[.int .i64 x0, .slice C1 xr.length n1, .slice C2 xd.length n2] 36) = wa at hba hBa ⊢
      obtain ⟨h, hh⟩ : ∃ h, wr.heap.size = h := ⟨_, rfl⟩
      rw [hh] at hba ⊢
      have hP := Aside0.mk hCP
      have hRf : RefsP xr := hCP.refs
      have hOa := Aside0.mk (hO.out.1.step hBa)
      have hBwa := Aside0.mk (hBr.trans hBa)
      have hrwa : r ≤ wa.heap.size := by rw [← hr0.out]; exact hBwa.out.size
      have hBw := Aside0.mk (fun (W : World) (q : KT [5] r wa W) => show Bel w W from ⟨hBwa.out.out.trans (q.below.mono (Nat.le_of_eq hr0.out))⟩)
      have hz := Aside0.mk (fun (W : World) (q : KT [5] r wa W) => show W.cell? ⟨h, 0, none⟩ = some (.int .i64 x0) ∧ W.cell? ⟨h, 1, none⟩ = some (.slice C1 xr.length n1) ∧ W.cell? ⟨h, 2, none⟩ = some (.slice C2 xd.length n2) from ⟨blk_cell (q.blk hba (by decide)) 0, blk_cell (q.blk hba (by decide)) 1, blk_cell (q.blk hba (by decide)) 2⟩)
      have hc3 := Aside0.mk (fun (W : World) (q : KT [5] r wa W) => c3.step (hBw.out W q))
      have hc4 := Aside0.mk (fun (W : World) (q : KT [5] r wa W) => c4.step (hBw.out W q))
      obtain ⟨z0, z1, z2⟩ := hz.out wa (KT.refl _ _ _)
      replace hh := Aside0.mk hh
      replace hba := Aside0.mk hba
      replace hRf := Aside0.mk hRf
      clear c0 c1 c2 c3 c4 hCP hO hBa hx hBr hO2 hK0
      go_wp2
      go_loopw [8, 9, 10] (fun mk sc i W => ∃ (j M s : Nat), j ≤ xr.length ∧ i = .int .i64 j ∧ mk = .int .i64 M ∧ M < 4294967296 ∧ Aside0 (maskOf (xr.take j) = M) ∧ sc = .int .i64 s ∧ s ≤ j ∧ Aside0 ((slotsOf (xr.take j)).length = s) ∧ wa = W) (fun _ _ i _ => xr.length - (intOf i).toNat)
      case atStart => exact ⟨0, 0, 0, by omega, rfl, rfl, by decide, ⟨rfl⟩, rfl, by decide, ⟨rfl⟩, rfl⟩
      case round =>
        obtain ⟨j, M, s, hj, rfl, rfl, hM, hMe, rfl, hsj, hse, rfl⟩ := hrel
        by_cases hjl : j < xr.length
        · have hmb := mask_below hRf.out j hjl
          have hmy := hRf.out.may _ (List.getElem_mem hjl)
          have htj := take_snocL xr j hjl
          obtain ⟨ad1, rfl, u0, u1⟩ := loc_at (hc3.out wa (KT.refl _ _ _)) j hjl
          obtain ⟨y, hy⟩ : ∃ y, xr[j] = y := ⟨_, rfl⟩
          rw [hy] at u0 u1 hmb hmy htj
          rw [hMe.out] at hmb
          obtain ⟨y0, y1⟩ := y
          simp only at u0 u1 hmb
          clear hy
          by_cases h1 : y0 = 1
          · obtain ⟨m0, m1, m2, m3⟩ := hmb h1
            subst h1
            obtain ⟨N, rfl⟩ := Int.eq_ofNat_of_zero_le m2
            have hN : N < 32 := by omega
            have hMN : M < 2 ^ N := by
              have h8 : (M : Int) < ((2 ^ N : Nat) : Int) := by
                rw [show ((2 ^ N : Nat) : Int) = (2 : Int) ^ N by push_cast; rfl]
                simpa using m1
              exact Int.ofNat_lt.1 h8
            have h2N : 2 ^ N ≤ 2147483648 := two_le N hN
            have hM2 : Aside0 (maskOf (xr.take (j + 1)) = ((M + 2 ^ N : Nat) : Int)) := ⟨by
              rw [htj, maskOf_app, hMe.out, maskOf_one, if_pos rfl, Int.toNat_natCast]
              push_cast; rfl⟩
            have hs2 : Aside0 (slotsOf (xr.take (j + 1)) = slotsOf (xr.take j)) := ⟨by rw [htj, slotsOf_app, slotsOf_one, if_pos rfl, List.append_nil]⟩
            have e2 : (2 : Int) ^ N = ((2 ^ N : Nat) : Int) := by push_cast; rfl
            obtain ⟨P2, hP2⟩ : ∃ P2, 2 ^ N = P2 := ⟨_, rfl⟩
            rw [hP2] at hM2 h2N hMN e2
            have e3 : IntKind.i64.wrap ((2 : Int) ^ N) = (P2 : Int) := by rw [e2, IntKind.wrap_i64]; omega
            clear m1 htj hmb
            replace hP2 := Aside0.mk hP2
            go_wp2
            go_roundw
            case rel => exact ⟨j + 1, M + P2, s, by omega, by go_num, by go_num, by omega, hM2, rfl, by omega, ⟨by rw [hs2.out]; exact hse.out⟩, by trivial⟩
            case measure => simp [intOf]; omega
          · have hk2 : y0 = 2 ∧ 0 ≤ y1 ∧ y1 < 160 := by
              rcases may_cases hmy with ⟨a, _, _⟩ | ⟨a, b, c⟩
              · exact absurd a h1
              · exact ⟨a, b, c⟩
            obtain ⟨rfl, k1, k2⟩ := hk2
            have hM2 : Aside0 (maskOf (xr.take (j + 1)) = (M : Int)) := ⟨by rw [htj, maskOf_app, hMe.out, maskOf_one, if_neg (show ¬ ((2 : Int) = 1) by decide)]; omega⟩
            have hs2 : Aside0 ((slotsOf (xr.take (j + 1))).length = s + 1) := ⟨by rw [htj, slotsOf_app, slotsOf_one, if_neg (show ¬ ((2 : Int) = 1) by decide), List.length_append, hse.out]; rfl⟩
            clear htj hmb h1 hmy
            go_wp2
            go_roundw
            case rel => exact ⟨j + 1, M, s + 1, by omega, by go_num, rfl, hM, hM2, by go_num, by omega, hs2, by trivial⟩
            case measure => simp [intOf]; omega
        · have hjx : Aside0 (xr.take j = xr) := ⟨List.take_of_length_le (by omega)⟩
          rw [hjx.out] at hMe hse
          have hmok := mask_ok hRf.out
          have hlst : 0 ≤ lastA (l.take k) ∧ lastA (l.take k) ≤ 9223372036854775807 := lastA_ge (by decide) (fun y hy => ⟨(hR.out.all y (List.mem_of_mem_take hy)).addr, hmx.out y (List.mem_of_mem_take hy)⟩)
          have hlst0 := hlst.1
          have hlst1 := hlst.2
          have hsl := slots_len xr
          have hs192 : s ≤ 192 := by have := hse.out; omega
          obtain ⟨la, hla⟩ : ∃ la, lastA (l.take k) = la := ⟨_, rfl⟩
          rw [hla] at hlst0 hlst1 ⊢
          have hcmx' : x0 ≤ 9223372036854775807 := hcmx
          obtain ⟨bs, hbs⟩ : ∃ bs, putL (l.length : Int) ++ chartsS (l.take k) = bs := ⟨_, rfl⟩
          have hbl : bs.length ≤ 13000000 := by rw [← hbs]; exact take_len hR.out k
          rw [hbs] at hOa
          obtain ⟨A9, c9, rfl, _, _⟩ := hOa.out.reads
          have hl3 := Aside0.mk (fun (W : World) => rList3 (x0 - la) (M : Int) (s : Int) (by omega) (by omega) (by omega) (by omega) (by omega) (by omega) W)
          replace hla := Aside0.mk hla
          replace hbs := Aside0.mk hbs
          obtain ⟨y3, hy3⟩ : ∃ y, putL (x0 - la) ++ (putL (M : Int) ++ putL (s : Int)) = y := ⟨_, rfl⟩
          have hy3l : y3.length ≤ 30 := by
            rw [← hy3]
            have h1 := putL_len (x0 - la)
            have h2 := putL_len (M : Int)
            have h3 := putL_len (s : Int)
            simp only [List.length_append]
            omega
          rw [hy3] at hl3
          replace hy3 := Aside0.mk hy3
          clear hlst
          go_upto_region 17 with (first | (go_at_call 47; ((with_reducible refine (hl3.out _).mono ?_); rintro e w6 ⟨v6, rfl, hv6, hB6⟩; obtain ⟨A10, c10, rfl, _, hR10⟩ := hv6.reads)) | ((with_reducible refine gate_b (b := .append) rfl ?_); (refine app_bytes_ (xs := bs) (hOa.out.step hB6) (Nat.le_trans hrwa hB6.size) hR10 rfl _ _ rfl ?hl1 rfl rfl ?_); (case hl1 => omega); intro v7 w7 hO7 hK7))
          have hF7 := Aside0.mk ((KT.of_bel hB6 hrwa _).trans hK7)
          obtain ⟨z0', z1', z2'⟩ := hz.out w7 hF7.out
          obtain ⟨b7, hb7⟩ : ∃ b, bs ++ y3 = b := ⟨_, rfl⟩
          have hb7l : b7.length ≤ 13000030 := by rw [← hb7, List.length_append]; omega
          rw [hb7] at hO7
          replace hO7 := Aside0.mk hO7
          replace hb7 := Aside0.mk hb7
          clear z0 z1 z2 hK7 hl3 hR10 hv6 hj hjl
          go_wp2
          go_loopw [4, 11, 12] (fun v ah i W => ∃ (j : Nat) (p : Int), j ≤ xr.length ∧ i = .int .i64 j ∧ ah = .int .i64 p ∧ -1 ≤ p ∧ p ≤ 159 ∧ Aside0 (lastI (slotsOf (xr.take j)) = p) ∧ Aside0 (OwnAt (Kd.int .u8) 5 r W v (b7 ++ stepsL (slotsOf (xr.take j))) ∧ KT [5] r wa W)) (fun _ _ i _ => xr.length - (intOf i).toNat)
          case atStart => exact ⟨0, -1, by omega, rfl, rfl, by decide, by decide, ⟨rfl⟩, ⟨by simpa [slotsOf, stepsL, growS] using hO7.out, hF7.out⟩⟩
          case round =>
            clear z0' z1' z2' hO7 hF7
            obtain ⟨j, p, hj, rfl, rfl, hp0, hp1, hpe, hOj⟩ := hrel
            have hrj := Nat.le_trans hrwa hOj.out.2.size
            obtain ⟨z0, z1, z2⟩ := hz.out wr hOj.out.2
            have hslj := slots_len (xr.take j)
            obtain ⟨bj, hbj⟩ : ∃ b, b7 ++ stepsL (slotsOf (xr.take j)) = b := ⟨_, rfl⟩
            have hbjl : bj.length ≤ 13003000 := by
              rw [← hbj, List.length_append, diffs_steps]
              have h8 := listL_len (diffs (-1) (slotsOf (xr.take j)))
              rw [diffs_len] at h8
              rw [List.length_take] at hslj
              omega
            rw [hbj] at hOj
            obtain ⟨A14, c14, rfl, _, _⟩ := hOj.out.1.reads
            by_cases hjl : j < xr.length
            · have hmy := hRf.out.may _ (List.getElem_mem hjl)
              have htj := take_snocL xr j hjl
              obtain ⟨ad1, rfl, u0, u1⟩ := loc_at (hc3.out wr hOj.out.2) j hjl
              obtain ⟨y, hy⟩ : ∃ y, xr[j] = y := ⟨_, rfl⟩
              rw [hy] at u0 u1 hmy htj
              obtain ⟨y0, y1⟩ := y
              simp only at u0 u1
              have hye := Aside0.mk hy
              clear hy
              rcases may_cases hmy with ⟨a, k1, k2⟩ | ⟨a, k1, k2⟩ <;> simp only at a k1 k2 <;> subst a
              · have hs2 : Aside0 (slotsOf (xr.take (j + 1)) = slotsOf (xr.take j)) := ⟨by rw [htj, slotsOf_app, slotsOf_one, if_pos rfl, List.append_nil]⟩
                clear htj hmy
                replace hbj := Aside0.mk hbj
                go_wp2
                go_roundw
                case rel => exact ⟨j + 1, p, by omega, by go_num, rfl, hp0, hp1, ⟨by rw [hs2.out]; exact hpe.out⟩, ⟨by rw [hs2.out, hbj.out]; exact hOj.out.1, hOj.out.2⟩⟩
                case measure => simp [intOf]; omega
              · have hs2 : slotsOf (xr.take (j + 1)) = slotsOf (xr.take j) ++ [y1] := by rw [htj, slotsOf_app, slotsOf_one, if_neg (show ¬ ((2 : Int) = 1) by decide)]
                have hl1 := Aside0.mk (fun (W : World) => rList1 (y1 - p) (by omega) (by omega) W)
                have hyl := putL_len (y1 - p)
                obtain ⟨y, hy⟩ : ∃ y, putL (y1 - p) = y := ⟨_, rfl⟩
                rw [hy] at hl1 hyl
                have hnx : Aside0 (b7 ++ stepsL (slotsOf (xr.take (j + 1))) = bj ++ y) := ⟨by
                  rw [hs2]
                  unfold stepsL
                  rw [growS_snoc, ← List.append_assoc, ← hy, ← hpe.out]
                  show (b7 ++ stepsL (slotsOf (xr.take j))) ++ _ = _
                  rw [hbj]
                  rfl⟩
                have hlx : Aside0 (lastI (slotsOf (xr.take (j + 1))) = y1) := ⟨by rw [hs2]; simp [lastI]⟩
                clear htj hmy hs2
                replace hbj := Aside0.mk hbj
                replace hy := Aside0.mk hy
                go_upto_region 24 with (first | (go_at_call 47; ((with_reducible refine (hl1.out _).mono ?_); rintro e w8 ⟨v8, rfl, hv8, hB8⟩; obtain ⟨A11, c11, rfl, _, hR11⟩ := hv8.reads)) | ((with_reducible refine gate_b (b := .append) rfl ?_); (refine app_bytes_ (xs := bj) (hOj.out.1.step hB8) (Nat.le_trans hrj hB8.size) hR11 rfl _ _ rfl ?hl1 rfl rfl ?_); (case hl1 => omega); intro v9 w9 hO9 hK9))
                have hF9 := Aside0.mk ((hOj.out.2.trans (KT.of_bel hB8 hrj _)).trans hK9)
                obtain ⟨z0', z1', z2'⟩ := hz.out w9 hF9.out
                obtain ⟨ad', e', t0, t1⟩ := loc_at (hc3.out w9 hF9.out) j hjl
                injection e' with e'
                subst e'
                rw [hye.out] at t0 t1
                simp only at t0 t1
                replace hO9 := Aside0.mk hO9
                clear hK9 hR11 hv8 hl1 z0 z1 z2 u0 u1 hOj
                go_wp2
                go_roundw
                case rel => exact ⟨j + 1, y1, by omega, by go_num, rfl, by omega, by omega, hlx, ⟨by rw [hnx.out]; exact hO9.out, hF9.out⟩⟩
                case measure => simp [intOf]; omega
            · have hjx : Aside0 (xr.take j = xr) := ⟨List.take_of_length_le (by omega)⟩
              rw [hjx.out] at hbj
              have hl1 := Aside0.mk (fun (W : World) => rList1 (xd.length : Int) (by omega) (by omega) W)
              have hyl2 := putL_len (xd.length : Int)
              obtain ⟨y10, hy10⟩ : ∃ y, putL (xd.length : Int) = y := ⟨_, rfl⟩
              rw [hy10] at hl1 hyl2
              replace hbj := Aside0.mk hbj
              replace hy10 := Aside0.mk hy10
              go_upto_region 26 with (first | (go_at_call 47; ((with_reducible refine (hl1.out _).mono ?_); rintro e w10 ⟨v10, rfl, hv10, hB10⟩; obtain ⟨A13, c13, rfl, _, hR13⟩ := hv10.reads)) | ((with_reducible refine gate_b (b := .append) rfl ?_); (refine app_bytes_ (xs := bj) (hOj.out.1.step hB10) (Nat.le_trans hrj hB10.size) hR13 rfl _ _ rfl ?hl1 rfl rfl ?_); (case hl1 => omega); intro v11 w11 hO11 hK11))
              have hF11 := Aside0.mk ((hOj.out.2.trans (KT.of_bel hB10 hrj _)).trans hK11)
              obtain ⟨z0', z1', z2'⟩ := hz.out w11 hF11.out
              obtain ⟨b11, hb11⟩ : ∃ b, bj ++ y10 = b := ⟨_, rfl⟩
              have hb11l : b11.length ≤ 13004000 := by rw [← hb11, List.length_append]; omega
              rw [hb11] at hO11
              replace hO11 := Aside0.mk hO11
              replace hb11 := Aside0.mk hb11
              clear z0 z1 z2 hK11 hl1 hR13 hv10 hOj hj hjl
              go_wp2
              go_loopw [4, 13] (fun v i W => ∃ j : Nat, j ≤ xd.length ∧ i = .int .i64 j ∧ Aside0 (OwnAt (Kd.int .u8) 5 r W v (b11 ++ (xd.take j).flatMap pairS) ∧ KT [5] r wa W)) (fun _ i _ => xd.length - (intOf i).toNat)
              case atStart => exact ⟨0, by omega, rfl, ⟨by simpa using hO11.out, hF11.out⟩⟩
              case round =>
                clear z0' z1' z2' hO11 hF11
                obtain ⟨j, hj, rfl, hOj⟩ := hrel
                rename World => wd
                have hrj := Nat.le_trans hrwa hOj.out.2.size
                obtain ⟨z0, z1, z2⟩ := hz.out wd hOj.out.2
                obtain ⟨bq, hbq⟩ : ∃ b, b11 ++ (xd.take j).flatMap pairS = b := ⟨_, rfl⟩
                have hbql : bq.length ≤ 13010000 := by
                  rw [← hbq, List.length_append]
                  have h8 := flat_len (s := pairS) (K := 20) (l := xd.take j) (fun d _ => by have h1 := putL_len (nOf d.f0); have h2 := putL_len (nOf d.f1); unfold pairS; simp only [List.length_append]; omega)
                  rw [List.length_take] at h8
                  omega
                rw [hbq] at hOj
                obtain ⟨A14, c14, rfl, _, _⟩ := hOj.out.1.reads
                by_cases hjl : j < xd.length
                · obtain ⟨ad1, rfl, u0, u1, u2, u3⟩ := pair_at (hc4.out wd hOj.out.2) j hjl
                  have htj := take_snocL xd j hjl
                  have hdm := hP.out.ders.may _ (List.getElem_mem hjl)
                  have hu := Aside0.mk (fun (W : World) (q : KT [5] r wa W) => pair_at (hc4.out W q) j hjl)
                  obtain ⟨d, hd⟩ : ∃ d, xd[j] = d := ⟨_, rfl⟩
                  rw [hd] at u0 u1 u2 u3 htj hdm
                  have hde := Aside0.mk hd
                  have hm0 : mayL d.f0 = true := hdm.1
                  have hm1 : mayL d.f1 = true := hP.out.refs.may _ hdm.2.2
                  have hq0 := (locN_nOf hm0).2
                  have hq1 := (locN_nOf hm1).2
                  clear hd hdm
                  have hn0 := Aside0.mk (fun (W : World) => Code_any d.f0 hm0 W)
                  have hn1 := Aside0.mk (fun (W : World) => Code_any d.f1 hm1 W)
                  have hl2 := Aside0.mk (fun (W : World) => rList2 (nOf d.f0) (nOf d.f1) (by omega) (by omega) (by omega) (by omega) W)
                  obtain ⟨p0, hp0'⟩ : ∃ n, nOf d.f0 = n := ⟨_, rfl⟩
                  obtain ⟨p1, hp1'⟩ : ∃ n, nOf d.f1 = n := ⟨_, rfl⟩
                  rw [hp0'] at hn0 hl2
                  rw [hp1'] at hn1 hl2
                  have hyl0 := putL_len p0
                  have hyl1 := putL_len p1
                  obtain ⟨y, hy⟩ : ∃ y, putL p0 ++ putL p1 = y := ⟨_, rfl⟩
                  have hyl : y.length ≤ 20 := by rw [← hy, List.length_append]; omega
                  rw [hy] at hl2
                  have hnx : Aside0 (b11 ++ (xd.take (j + 1)).flatMap pairS = bq ++ y) := ⟨by
                    rw [htj, List.flatMap_append, ← List.append_assoc, hbq, ← hy, ← hp0', ← hp1']
                    simp [pairS]⟩
                  clear htj hm0 hm1 hq0 hq1 hyl0 hyl1
                  replace hbq := Aside0.mk hbq
                  replace hy := Aside0.mk hy
                  replace hp0' := Aside0.mk hp0'
                  replace hp1' := Aside0.mk hp1'
                  go_upto_region 29 with (fail)
                  have hOo := Aside0.mk hOj.out.1
                  have hFo := Aside0.mk hOj.out.2
                  clear hOj u0 u1 u2 u3
                  have hS := Aside0.mk (fun (W : World) (q : KT [5] r wd W) => show KT [5] r wd W ∧ W.cell? ⟨h, 2, none⟩ = some (.slice (some ad1) xd.length n2) ∧ W.cell? (ad1.add (j * 4)) = some (.int .i64 d.f0.f0) ∧ W.cell? ⟨(ad1.add (j * 4)).block, (ad1.add (j * 4)).off + 1, none⟩ = some (.int .i64 d.f0.f1) ∧ W.cell? ⟨(ad1.add (j * 4)).block, (ad1.add (j * 4)).off + 2, none⟩ = some (.int .i64 d.f1.f0) ∧ W.cell? ⟨(ad1.add (j * 4)).block, (ad1.add (j * 4)).off + 3, none⟩ = some (.int .i64 d.f1.f1) from by
                    obtain ⟨ad', e', t0, t1, t2, t3⟩ := hu.out W (hFo.out.trans q)
                    injection e' with e'
                    subst e'
                    rw [hde.out] at t0 t1 t2 t3
                    exact ⟨q, (hz.out W (hFo.out.trans q)).2.2, t0, t1, t2, t3⟩)
                  have hB := Aside0.mk (show ∀ W, Bel wd W → KT [5] r wd W from fun W q => KT.of_bel q hrj _)
                  have hBd : Bel wd wd.drew := (Bel.refl wd).drewN 1
                  clear z0 z1 z2
                  refine wp_region_held_drew (S := fun w' => KT [5] r wd w' ∧ w'.cell? ⟨h, 2, none⟩ = some (.slice (some ad1) xd.length n2) ∧ w'.cell? (ad1.add (j * 4)) = some (.int .i64 d.f0.f0) ∧ w'.cell? ⟨(ad1.add (j * 4)).block, (ad1.add (j * 4)).off + 1, none⟩ = some (.int .i64 d.f0.f1) ∧ w'.cell? ⟨(ad1.add (j * 4)).block, (ad1.add (j * 4)).off + 2, none⟩ = some (.int .i64 d.f1.f0) ∧ w'.cell? ⟨(ad1.add (j * 4)).block, (ad1.add (j * 4)).off + 3, none⟩ = some (.int .i64 d.f1.f1)) (by kernel_rfl) (hS.out _ (hB.out _ hBd)) (fun hHeld => ?_)
                  refine wpAnyH_take (i := 0) (v := ?_) rfl (by kernel_rfl) (by kernel_rfl) (by kernel_rfl) (fun _ _ _ h => h) (Or.inl ⟨by kernel_rfl, ?_⟩) hHeld ?_
                  rotate_left 1
                  focus (intro w hSw; (try dsimp only at hSw); go_simp; (try with_reducible rfl); done)
                  try simp only [Act.put, List.getElem_toArray, List.getElem_cons_zero, List.getElem_cons_succ, List.setIfInBounds_toArray, List.set_cons_zero, List.set_cons_succ]
                  refine wpAnyH_take (i := 1) (v := ?_) rfl (by kernel_rfl) (by kernel_rfl) (by kernel_rfl) (fun _ _ _ h => h) (Or.inl ⟨by kernel_rfl, ?_⟩) hHeld ?_
                  rotate_left 1
                  focus (intro w hSw; (try dsimp only at hSw); go_simp; (try with_reducible rfl); done)
                  try simp only [Act.put, List.getElem_toArray, List.getElem_cons_zero, List.getElem_cons_succ, List.setIfInBounds_toArray, List.set_cons_zero, List.set_cons_succ]
                  refine wpAnyH_take (i := 2) (v := ?_) rfl (by kernel_rfl) (by kernel_rfl) (by kernel_rfl) (fun _ _ _ h => h) (Or.inl ⟨by kernel_rfl, ?_⟩) hHeld ?_
                  rotate_left 1
                  focus (intro w hSw; (try dsimp only at hSw); go_simp; (try with_reducible rfl); done)
                  try simp only [Act.put, List.getElem_toArray, List.getElem_cons_zero, List.getElem_cons_succ, List.setIfInBounds_toArray, List.set_cons_zero, List.set_cons_succ]
                  refine wpAnyH_take (i := 3) (v := ?_) rfl (by kernel_rfl) (by kernel_rfl) (by kernel_rfl) (fun _ _ _ h => h) (Or.inl ⟨by kernel_rfl, ?_⟩) hHeld ?_
                  rotate_left 1
                  focus (intro w hSw; (try dsimp only at hSw); go_simp; (try with_reducible rfl); done)
                  try simp only [Act.put, List.getElem_toArray, List.getElem_cons_zero, List.getElem_cons_succ, List.setIfInBounds_toArray, List.set_cons_zero, List.set_cons_succ]
                  refine wpAnyH_take (i := 4) (v := ?_) rfl (by kernel_rfl) (by kernel_rfl) (by kernel_rfl) (fun _ _ _ h => h) (Or.inl ⟨by kernel_rfl, ?_⟩) hHeld ?_
                  rotate_left 1
                  focus (intro w hSw; (try dsimp only at hSw); go_simp; (try with_reducible rfl); done)
                  try simp only [Act.put, List.getElem_toArray, List.getElem_cons_zero, List.getElem_cons_succ, List.setIfInBounds_toArray, List.set_cons_zero, List.set_cons_succ]
                  refine wpAnyH_take (i := 5) (v := ?_) rfl (by kernel_rfl) (by kernel_rfl) (by kernel_rfl) (fun _ _ _ h => h) (Or.inl ⟨by kernel_rfl, ?_⟩) hHeld ?_
                  rotate_left 1
                  focus (intro w hSw; (try dsimp only at hSw); go_simp; (try with_reducible rfl); done)
                  try simp only [Act.put, List.getElem_toArray, List.getElem_cons_zero, List.getElem_cons_succ, List.setIfInBounds_toArray, List.set_cons_zero, List.set_cons_succ]
                  refine wpAnyH_take (i := 6) (v := ?_) rfl (by kernel_rfl) (by kernel_rfl) (by kernel_rfl) (fun _ _ _ h => h) (Or.inl ⟨by kernel_rfl, ?_⟩) hHeld ?_
                  rotate_left 1
                  focus (intro w hSw; (try dsimp only at hSw); go_simp; (try with_reducible rfl); done)
                  try simp only [Act.put, List.getElem_toArray, List.getElem_cons_zero, List.getElem_cons_succ, List.setIfInBounds_toArray, List.set_cons_zero, List.set_cons_succ]
                  refine wpAnyH_take (i := 8) (v := ?_) rfl (by kernel_rfl) (by kernel_rfl) (by kernel_rfl) (fun _ _ _ h => h) (Or.inl ⟨by kernel_rfl, ?_⟩) hHeld ?_
                  rotate_left 1
                  focus (intro w hSw; (try dsimp only at hSw); go_simp; (try with_reducible rfl); done)
                  try simp only [Act.put, List.getElem_toArray, List.getElem_cons_zero, List.getElem_cons_succ, List.setIfInBounds_toArray, List.set_cons_zero, List.set_cons_succ]
                  refine wpAnyH_take (i := 9) (v := ?_) rfl (by kernel_rfl) (by kernel_rfl) (by kernel_rfl) (fun _ _ _ h => h) (Or.inl ⟨by kernel_rfl, ?_⟩) hHeld ?_
                  rotate_left 1
                  focus (intro w hSw; (try dsimp only at hSw); go_simp; (try with_reducible rfl); done)
                  try simp only [Act.put, List.getElem_toArray, List.getElem_cons_zero, List.getElem_cons_succ, List.setIfInBounds_toArray, List.set_cons_zero, List.set_cons_succ]
                  refine wpAnyH_take (i := 10) (v := ?_) rfl (by kernel_rfl) (by kernel_rfl) (by kernel_rfl) (fun _ _ _ h => h) (Or.inl ⟨by kernel_rfl, ?_⟩) hHeld ?_
                  rotate_left 1
                  focus (intro w hSw; (try dsimp only at hSw); go_simp; (try with_reducible rfl); done)
                  try simp only [Act.put, List.getElem_toArray, List.getElem_cons_zero, List.getElem_cons_succ, List.setIfInBounds_toArray, List.set_cons_zero, List.set_cons_succ]
                  refine wpAnyH_take (i := 11) (v := ?_) rfl (by kernel_rfl) (by kernel_rfl) (by kernel_rfl) (fun _ _ _ h => h) (Or.inl ⟨by kernel_rfl, ?_⟩) hHeld ?_
                  rotate_left 1
                  focus (intro w hSw; (try dsimp only at hSw); go_simp; (try with_reducible rfl); done)
                  try simp only [Act.put, List.getElem_toArray, List.getElem_cons_zero, List.getElem_cons_succ, List.setIfInBounds_toArray, List.set_cons_zero, List.set_cons_succ]
                  refine wpAnyH_take (i := 12) (v := ?_) rfl (by kernel_rfl) (by kernel_rfl) (by kernel_rfl) (fun _ _ _ h => h) (Or.inl ⟨by kernel_rfl, ?_⟩) hHeld ?_
                  rotate_left 1
                  focus (intro w hSw; (try dsimp only at hSw); go_simp; (try with_reducible rfl); done)
                  try simp only [Act.put, List.getElem_toArray, List.getElem_cons_zero, List.getElem_cons_succ, List.setIfInBounds_toArray, List.set_cons_zero, List.set_cons_succ]
                  refine wpAnyH_take (i := 13) (v := ?_) rfl (by kernel_rfl) (by kernel_rfl) (by kernel_rfl) (fun _ _ _ h => h) (Or.inl ⟨by kernel_rfl, ?_⟩) hHeld ?_
                  rotate_left 1
                  focus (intro w hSw; (try dsimp only at hSw); go_simp; (try with_reducible rfl); done)
                  try simp only [Act.put, List.getElem_toArray, List.getElem_cons_zero, List.getElem_cons_succ, List.setIfInBounds_toArray, List.set_cons_zero, List.set_cons_succ]
                  refine wpAnyH_ready (rs := [7]) (by kernel_rfl) (by simp) ?_
                  refine AllReadyH.cons rfl (fun K hK => ?_) AllReadyH.nil
                  go_simp
                  (go_at_call 48; refine (hn0.out _).mono ?_; rintro ex w3 ⟨rfl, hB3⟩; have hB3 := hBd.trans hB3)
                  refine hK.out _ _ ?_ (fun hHeld => ?_)
                  rotate_left 1
                  clear hK K
                  try simp only [Act.put, List.getElem_toArray, List.getElem_cons_zero, List.getElem_cons_succ, List.setIfInBounds_toArray, List.set_cons_zero, List.set_cons_succ]
                  rotate_left 1
                  focus exact hS.out _ (hB.out _ hB3)
                  refine wpAnyH_ready (rs := [14]) (by kernel_rfl) (by simp) ?_
                  refine AllReadyH.cons rfl (fun K hK => ?_) AllReadyH.nil
                  go_simp
                  (go_at_call 48; refine (hn1.out _).mono ?_; rintro ex w4 ⟨rfl, hB4⟩; have hB4 := hB3.trans hB4)
                  refine hK.out _ _ ?_ (fun hHeld => ?_)
                  rotate_left 1
                  clear hK K
                  try simp only [Act.put, List.getElem_toArray, List.getElem_cons_zero, List.getElem_cons_succ, List.setIfInBounds_toArray, List.set_cons_zero, List.set_cons_succ]
                  rotate_left 1
                  focus exact hS.out _ (hB.out _ hB4)
                  refine wpAnyH_ready (rs := [15]) (by kernel_rfl) (by simp) ?_
                  refine AllReadyH.cons rfl (fun K hK => ?_) AllReadyH.nil
                  go_simp
                  refine hK.out _ _ ?_ (fun hHeld => ?_)
                  rotate_left 1
                  clear hK K
                  try simp only [Act.put, List.getElem_toArray, List.getElem_cons_zero, List.getElem_cons_succ, List.setIfInBounds_toArray, List.set_cons_zero, List.set_cons_succ]
                  rotate_left 1
                  focus exact hS.out _ (hB.out _ (hB4.alloc _))
                  refine wpAnyH_ready (rs := [16]) (by kernel_rfl) (by simp) ?_
                  refine AllReadyH.cons rfl (fun K hK => ?_) AllReadyH.nil
                  go_simp
                  (go_at_call 47; refine (hl2.out _).mono ?_; rintro ex w5 ⟨v5, rfl, hv5, hB5⟩; have hB5 := hB4.trans hB5; obtain ⟨A15, c15, rfl, _, hR15⟩ := hv5.reads)
                  refine hK.out _ _ ?_ (fun hHeld => ?_)
                  rotate_left 1
                  clear hK K
                  try simp only [Act.put, List.getElem_toArray, List.getElem_cons_zero, List.getElem_cons_succ, List.setIfInBounds_toArray, List.set_cons_zero, List.set_cons_succ]
                  rotate_left 1
                  focus exact hS.out _ (hB.out _ hB5)
                  refine wpAnyH_ready (rs := [17]) (by kernel_rfl) (by simp) ?_
                  refine AllReadyH.cons rfl (fun K hK => ?_) AllReadyH.nil
                  refine app_bytes_step (xs := bq) (hOo.out.step hB5) (Nat.le_trans hrj hB5.size) hR15 rfl _ _ rfl (by omega) rfl rfl ?_
                  intro v6 w6 hO6 hK6
                  refine hK.out _ _ ?_ (fun hHeld => ?_)
                  rotate_left 1
                  clear hK K
                  try simp only [Act.put, List.getElem_toArray, List.getElem_cons_zero, List.getElem_cons_succ, List.setIfInBounds_toArray, List.set_cons_zero, List.set_cons_succ]
                  rotate_left 1
                  focus exact hS.out _ ((hB.out _ hB5).trans hK6)
                  refine wpAnyH_take (i := 18) (v := ?_) rfl (by kernel_rfl) (by kernel_rfl) (by kernel_rfl) (fun _ _ _ h => h) (Or.inl ⟨by kernel_rfl, ?_⟩) hHeld ?_
                  rotate_left 1
                  focus (intro w hSw; (try dsimp only at hSw); go_simp; (try with_reducible rfl); done)
                  try simp only [Act.put, List.getElem_toArray, List.getElem_cons_zero, List.getElem_cons_succ, List.setIfInBounds_toArray, List.set_cons_zero, List.set_cons_succ]
                  refine wpAnyH_done (by kernel_rfl) ?_ _
                  have hF6 := Aside0.mk (hFo.out.trans ((hB.out _ hB5).trans hK6))
                  replace hO6 := Aside0.mk hO6
                  go_wp2
                  go_roundw
                  case rel => exact ⟨j + 1, by omega, by go_num, ⟨by rw [hnx.out]; exact hO6.out, hF6.out⟩⟩
                  case measure => simp [intOf]; omega
                · have hjx2 : Aside0 (xd.take j = xd) := ⟨List.take_of_length_le (by omega)⟩
                  have hfin : Aside0 (bq = putL (l.length : Int) ++ chartsS (l.take (k + 1))) := ⟨by
                    rw [htk, ← hbq, hjx2.out]
                    unfold chartsS
                    rw [growS_snoc, List.nil_append, ← List.append_assoc]
                    show _ = (putL (l.length : Int) ++ chartsS (l.take k)) ++ chartS (lastA (l.take k)) ⟨x0, xr, xd⟩
                    rw [hbs.out, hla.out, ← hb11.out, ← hbj.out, ← hb7.out, ← hy3.out, ← hy10.out]
                    unfold chartS refsS dersS
                    simp only
                    rw [hMe.out, hse.out]
                    simp only [List.append_assoc]⟩
                  have hlx : Aside0 (lastA (l.take (k + 1)) = x0) := ⟨by rw [htk]; simp [lastA]⟩
                  go_wp2
                  go_roundw
                  case rel => exact ⟨k + 1, by omega, by go_num, by rw [hlx.out], ⟨by rw [← hfin.out]; exact hOj.out.1, hBwa.out.out.mono (Nat.le_of_eq hr0.out.symm) |>.trans hOj.out.2.below⟩⟩
                  case measure => simp [intOf]; omega
    · have htl : Aside0 (l.take k = l) := ⟨List.take_of_length_le (by omega)⟩
      rw [htl.out] at hO
      obtain ⟨A8, c8, rfl, _, _⟩ := hO.out.1.reads
      go_wp2
      go_ret2
      exact ⟨_, rfl, ⟨by rw [hr0.out]; exact hO.out.1.out⟩, hBr⟩
end Go.Proofs.YtceibabhmomfiaaDoor.H
