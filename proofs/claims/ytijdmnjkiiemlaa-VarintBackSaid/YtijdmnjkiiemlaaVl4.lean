/- The law VarintBack, walked. -/
import Derived.Test.YtijdmnjkiiemlaaVl1
import Derived.Test.YtijdmnjkiiemlaaVq2
import Derived.Deep.RegionWith
namespace Go.Proofs.Ytijdmnjkiiemlaa.H
open Go.RowKit Go.Proofs.YtijdmnjkiiemlaaW.PrintWords
set_option linter.unusedVariables false
set_option linter.unusedSimpArgs false

theorem Rd.none {α : Type} (d : Kd α) (W : World) : Rd d W Option.none [] := ⟨rfl, by simp, fun h => by simp at h⟩
theorem PutSigned_nil (n : Int) (w : World) (h0 : -9223372036854775808 ≤ n) (h1 : n ≤ 9223372036854775807) :
    Calls Try.prog 14 #[.slice none 0 0, .int .i64 n] w fun e w' => ∃ v : Value, e = .returned v ∧ OwnB w w' v (digs 9 (zz n)) ∧ Bel w w' :=
  PutSigned_any none 0 [] n w (Nat.le_refl _) (fun _ => rfl) (Rd.none _ _) (by decide) h0 h1
theorem Put_nil (n : Int) (w : World) (h1 : n ≤ 9223372036854775807) :
    Calls Try.prog 12 #[.slice none 0 0, .int .i64 n] w fun e w' => ∃ v : Value, e = .returned v ∧ OwnB w w' v (putL n) ∧ Bel w w' :=
  Put_any none 0 [] n w (Nat.le_refl _) (fun _ => rfl) (Rd.none _ _) (by decide) h1
theorem take_u8 (A : Option Addr) (c : Nat) (xs : List Int) (m : Nat) (hm : m ≤ xs.length) (hc : xs.length ≤ c) :
    (∀ W : World, (Instr.slice 27 (.slice A xs.length c) none (some (.int .i64 (m : Int))) none).run Try.prog W = .ok (.slice A (xs.take m).length c) W) ∧
      (∀ W : World, RdB W A xs → RdB W A (xs.take m)) := by
  obtain ⟨i0, hi, _, hsz, _⟩ := info_parts info_u8
  obtain ⟨h1, h2, h3⟩ := print_take_of (P := Try.prog) (Value.int .u8) 0 27 5 .i64 Try.underlying27 hi hsz A c xs (m : Int) (by omega) (by omega) hc
  simp only [Int.toNat_natCast] at h1 h2
  exact ⟨h1, fun W h => ⟨Kd.C_of_reads (h1 := fun _ => rfl) (h2 W (Kd.reads_of_C h.out))⟩⟩

set_option maxHeartbeats 4000000 in
set_option maxRecDepth 100000 in
theorem VarintBack_walk (n m : Int) (A : Option Addr) (c : Nat) (l : List Int) (w : World) (hn0 : -9223372036854775808 ≤ n) (hn1 : n ≤ 9223372036854775807) (hm0 : -9223372036854775808 ≤ m) (hm1 : m ≤ 9223372036854775807)
    (hc : l.length ≤ c) (HR : RdB w A l) (hby : Bytes l) (hm : l.length ≤ 9223372036854775807) (_hy : l.length * 1 ≤ 140737488351232) :
    Calls Try.prog 5 #[.int .i64 n, .int .i64 m, .slice A l.length c] w fun e w' => e = .returned (.bool true) ∧ Bel w w' := by
  by_cases hl : 2000 < l.length
  · go_enter Try.func5, Try.ntmps5
    go_wp2_with (go_at_call 7; ((with_reducible refine (alive_any _).mono ?_); rintro e w' ⟨rfl, hB⟩))
    go_ret
    exact ⟨rfl, hB⟩
  · obtain ⟨x1, hx1⟩ : ∃ x1, Aside0 (x1 = digs 9 (zz n)) := ⟨_, ⟨rfl⟩⟩
    obtain ⟨y1, hy1⟩ : ∃ y1, Aside0 (y1 = x1 ++ l) := ⟨_, ⟨rfl⟩⟩
    have hb1 : x1.length ≤ 10 := by have := digs_len 9 (zz n); rw [hx1.out]; omega
    have hbb1 : y1.length ≤ 2010 := by rw [hy1.out]; simp; omega
    have hyb : Bytes y1 := ⟨fun x hx => by rw [hy1.out] at hx; rcases List.mem_append.1 hx with h | h; exact digs_bytes 9 (zz n) (zz_ge n) (by have := zz_le n hn0 hn1; omega) x (by rwa [← hx1.out]); exact hby.out x h⟩
    have hg1 : Aside0 ((unzz (getL 10 y1).1, (getL 10 y1).2) = (n, (x1.length : Int), 0)) := ⟨by rw [hy1.out, hx1.out, getSigned_put (zz n) l (zz_ge n) (zz_le n hn0 hn1), unzz_zz]⟩
    obtain ⟨x2, hx2⟩ : ∃ x2, Aside0 (x2 = putL m) := ⟨_, ⟨rfl⟩⟩
    obtain ⟨y2, hy2⟩ : ∃ y2, Aside0 (y2 = x2 ++ l) := ⟨_, ⟨rfl⟩⟩
    have hb2 : x2.length ≤ 10 := by have := putL_len m; rw [hx2.out]; omega
    have hbb2 : y2.length ≤ 2010 := by rw [hy2.out]; simp; omega
    have hyb2 : Bytes y2 := ⟨fun x hx => by rw [hy2.out] at hx; rcases List.mem_append.1 hx with h | h; exact putL_bytes m hm1 x (by rwa [← hx2.out]); exact hby.out x h⟩
    have hg2 : Aside0 (0 ≤ m → getL 9 y2 = (m, (x2.length : Int), 0)) := ⟨fun h => by rw [hy2.out, hx2.out, putL, if_neg (by omega), get_put m l h hm1]⟩
    have hsz : Aside0 (∀ W, Calls Try.prog 16 #[.int .i64 m] W fun e w' => e = .returned (.int .i64 x2.length) ∧ W = w') := ⟨fun W => by rw [hx2.out]; exact Size_any m W hm1⟩
    -- what the bytes behind begin with
    obtain ⟨p, hp⟩ : ∃ p, getL 9 l = p := ⟨_, rfl⟩
    obtain ⟨z, s, f⟩ := p
    have gp := getL_got 9 (by decide) l hby.out
    rw [hp] at gp
    obtain ⟨q, hq⟩ : ∃ q, getL 10 l = q := ⟨_, rfl⟩
    obtain ⟨v, j, g⟩ := q
    have gq := getL_got 10 (by decide) l hby.out
    rw [hq] at gq
    have hz0 : 0 ≤ z := gp.ge
    have hz1 : z ≤ 9223372036854775807 := gp.le9 (by decide)
    have hv0 : 0 ≤ v := gq.ge
    have hv1 : v ≤ 18446744073709551615 := gq.le
    have hu0 : -9223372036854775808 ≤ unzz v := by unfold unzz; split <;> omega
    have hu1 : unzz v ≤ 9223372036854775807 := by unfold unzz; split <;> omega
    have hzu := Aside0.mk (zz_unzz v hv0)
    obtain ⟨u, hu⟩ : ∃ u, unzz v = u := ⟨_, rfl⟩
    rw [hu] at hu0 hu1 hzu
    have hp9 := Aside0.mk (fun h : f = 0 => put_get 9 (by decide) l z s hby.out (by rw [hp, h]))
    have hq9 := Aside0.mk (fun h : g = 0 => put_get 10 (by decide) l v j hby.out (by rw [hq, h]))
    replace hp := Aside0.mk hp
    have hq' := Aside0.mk (show (unzz (getL 10 l).1, (getL 10 l).2) = (u, j, g) by rw [hq, hu])
    clear gp gq hq hu
    go_enter Try.func5, Try.ntmps5
    go_upto_if 42 with (first | (go_at_call 7; ((with_reducible refine (alive_any _).mono ?_); rintro e w' ⟨rfl, hB⟩)) | (go_at_call 14; ((with_reducible refine (PutSigned_nil n _ hn0 hn1).mono ?_); rintro e w' ⟨v1, rfl, hR1, hB1⟩; rw [← hx1.out] at hR1)) | ((with_reducible refine gate_b (b := .append) (xs := #[.tmp 23, .tmp 24]) rfl ?_); (refine app_bytes (hR1.lower hB) (hB.trans hB1) ((HR.step hB).step hB1) rfl _ _ rfl ?hl1 rfl rfl ?_); (case hl1 => omega); clear hR1 hB hB1; intro v1 w1 hR hB; rw [← hy1.out] at hR; obtain ⟨A1, c1, rfl, hc1, hD1⟩ := hR.reads; clear hR) | (go_at_call 18; ((with_reducible refine (GetSigned_eq hc1 hD1 hyb (by omega) hg1.out).mono ?_); rintro e w' ⟨rfl, rfl⟩; clear hD1 hc1)))
    go_cut [10] (fun _ W => Bel w W)
    case first =>
      by_cases hm2 : 0 ≤ m
      all_goals
        go_wp2_with (first | (go_at_call 12; ((with_reducible refine (Put_nil m _ hm1).mono ?_); rintro e w' ⟨v1, rfl, hR1, hB1⟩; rw [← hx2.out] at hR1)) | ((with_reducible refine gate_b (b := .append) (xs := #[.tmp 45, .tmp 46]) rfl ?_); (refine app_bytes (hR1.lower hB) (hB.trans hB1) ((HR.step hB).step hB1) rfl _ _ rfl ?hl2 rfl rfl ?_); (case hl2 => omega); clear hR1 hB hB1; intro v1 w1 hR hB; rw [← hy2.out] at hR; obtain ⟨A1, c1, rfl, hc1, hD1⟩ := hR.reads; clear hR) | (go_at_call 19; ((with_reducible refine (Get_eq hc1 hD1 hyb2 (by omega) (hg2.out (by assumption))).mono ?_); rintro e w' ⟨rfl, rfl⟩; clear hD1 hc1)) | (go_at_call 16; ((with_reducible refine (hsz.out _).mono ?_); rintro e w' ⟨rfl, rfl⟩)))
        go_meet
        case rel => exact hB
    case rest =>
      clear hB
      have hB : Bel w wc := hcut
      clear hcut
      go_upto_region 13 with (go_at_call 19; ((with_reducible refine (Get_eq hc (HR.step hB) hby hm hp.out).mono ?_); rintro e w' ⟨rfl, rfl⟩))
      go_cut [81] (fun b W => b = .bool false ∧ Bel w W)
      case first =>
        by_cases hf : f = 0
        · subst hf
          obtain ⟨_, hs1, hs2, hs3⟩ := hp9.out rfl
          obtain ⟨s, rfl⟩ := Int.eq_ofNat_of_zero_le (show 0 ≤ s by omega)
          have hs4 : s ≤ l.length := by omega
          obtain ⟨hcut1, hRt1⟩ := take_u8 A c l s hs4 hc
          obtain ⟨t1, ht1⟩ : ∃ t1, Aside0 (t1 = l.take s) := ⟨_, ⟨rfl⟩⟩
          rw [← ht1.out] at hcut1 hRt1
          rw [Int.toNat_natCast] at hs3
          have hs5 := Aside0.mk (show putL z = t1 by rw [putL, if_neg (by omega), hs3, ht1.out])
          have ht1l : t1.length ≤ 2000 := by rw [ht1.out, List.length_take]; omega
          replace hRt1 := Aside0.mk hRt1
          clear hs3
          go_region_with (first | (go_at_call 12; refine (Put_nil z _ hz1).mono ?_; rintro e w' ⟨v1, rfl, hR1, hB1⟩; rw [hs5.out] at hR1; obtain ⟨A1, c1, rfl, hc1, hD1⟩ := hR1.reads; clear hR1) | (go_at_call 11; refine (Same_eq hD1 (hRt1.out _ (((HR.step hB).drewN 1).step hB1)) (by omega)).mono ?_; rintro e w' ⟨rfl, hB2⟩))
          go_wp2
          go_meet
          case rel => exact ⟨rfl, ((hB.drewN 1).trans hB1).trans hB2⟩
        · have b4 : (f == 0) = false := by simpa using hf
          clear hf
          go_quiet (fail)
          go_wp2
          go_meet
          case rel => exact ⟨rfl, hB.drewN _⟩
      case rest =>
        clear hB
        obtain ⟨rfl, hB⟩ := hcut
        go_upto_region 16 with (go_at_call 18; ((with_reducible refine (GetSigned_eq hc (HR.step hB) hby hm hq'.out).mono ?_); rintro e w' ⟨rfl, rfl⟩))
        by_cases hgg : g = 0
        · subst hgg
          obtain ⟨_, hj1, hj2, hj3⟩ := hq9.out rfl
          obtain ⟨j, rfl⟩ := Int.eq_ofNat_of_zero_le (show 0 ≤ j by omega)
          have hj4 : j ≤ l.length := by omega
          obtain ⟨hcut2, hRt2⟩ := take_u8 A c l j hj4 hc
          obtain ⟨t2, ht2⟩ : ∃ t2, Aside0 (t2 = l.take j) := ⟨_, ⟨rfl⟩⟩
          rw [← ht2.out] at hcut2 hRt2
          rw [Int.toNat_natCast] at hj3
          have hj5 := Aside0.mk (show digs 9 (zz u) = t2 by rw [hzu.out, hj3, ht2.out])
          have ht2l : t2.length ≤ 2000 := by rw [ht2.out, List.length_take]; omega
          replace hRt2 := Aside0.mk hRt2
          clear hj3
          go_region_with (first | (go_at_call 14; refine (PutSigned_nil u _ hu0 hu1).mono ?_; rintro e w' ⟨v1, rfl, hR1, hB1⟩; rw [hj5.out] at hR1; obtain ⟨A1, c1, rfl, hc1, hD1⟩ := hR1.reads; clear hR1) | (go_at_call 11; refine (Same_eq hD1 (hRt2.out _ (((HR.step hB).drewN 1).step hB1)) (by omega)).mono ?_; rintro e w' ⟨rfl, hB2⟩))
          go_wp2
          go_ret
          exact ⟨rfl, ((hB.drewN 1).trans hB1).trans hB2⟩
        · have b5 : (g != 0) = true := by simpa using hgg
          clear hgg
          go_quiet (fail)
          go_wp2
          go_ret
          exact ⟨rfl, hB.drewN _⟩
end Go.Proofs.Ytijdmnjkiiemlaa.H
