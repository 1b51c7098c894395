/- Texts of this work, joined: Pr3, Pr4, Pr5, Pr6, Pr7. Conditions: each stands with its theorem. -/
import Derived.Test.YtceibabhmomfiaaDoorX05
import Derived.Test.YtceibabhmomfiaaDoorWEqStruct
/- Layer 3, walks: the lowest bit's place. -/
namespace Go.Proofs.YtceibabhmomfiaaDoor.H
open Go.RowKit Go.Proofs.YtceibabhmomfiaaDoorW.PrintWords Go.Proofs.YtceibabhmomfiaaDoorW.PrintLast
set_option linter.unusedVariables false
set_option linter.unusedSimpArgs false

def dbTab : List Nat := [0, 1, 28, 2, 29, 14, 24, 3, 30, 22, 20, 15, 25, 17, 4, 8, 31, 27, 13, 23, 21, 19, 16, 7, 26, 12, 18, 6, 11, 5, 10, 9]
def dbN (i : Nat) : Nat := dbTab.getD i 0
/-- The variable 'deBruijn32tab' holds the table; base lies behind it. -/
structure Glob (base : Nat) (W : World) : Prop where
  pos : 0 < base
  at_ : ∀ i : Nat, i < 32 → W.cell? ⟨0, i, none⟩ = some (.int .u8 (dbN i))
theorem Glob.below {base : Nat} {W W1 : World} (h : Glob base W) (k : Below base W W1) : Glob base W1 := ⟨h.pos, fun i hi => (k.cell (p := ⟨0, i, none⟩) h.pos).trans (h.at_ i hi)⟩
theorem Glob.step {base : Nat} {W W1 : World} (h : Glob base W) (k : Bel W W1) (hb : base ≤ W.heap.size) : Glob base W1 := h.below (k.out.mono hb)
abbrev GlobA (base : Nat) (W : World) : Prop := Aside0 (Glob base W)
theorem db_at : ∀ s : Fin 32, ∃ k : Fin 32, (2 ^ s.val * 125613361 % 4294967296) / 134217728 = k.val ∧ dbN k.val = s.val := by decide +kernel
theorem two_le (s : Nat) (h : s < 32) : 2 ^ s ≤ 2147483648 := by
  have : 2 ^ s ≤ 2 ^ 31 := Nat.pow_le_pow_right (by decide) (by omega)
  omega
theorem odd_lt {s q : Nat} (h : 2 ^ s * (2 * q + 1) < 4294967296) : s < 32 := by
  refine Classical.byContradiction fun hn => ?_
  have h1 : 2 ^ 32 ≤ 2 ^ s := Nat.pow_le_pow_right (by decide) (by omega)
  have h2 : 2 ^ s * 1 ≤ 2 ^ s * (2 * q + 1) := Nat.mul_le_mul_left _ (by omega)
  omega
set_option maxHeartbeats 1000000 in
theorem tz_any (s q c : Nat) (base : Nat) (w : World) (hG : GlobA base w) (hc : c = 2 ^ s * (2 * q + 1)) (h : c < 4294967296) :
    Calls Tryd.prog 60 #[.int .u32 c] w fun e w' => e = .returned (.int .i64 s) ∧ w = w' := by
  have hs : s < 32 := odd_lt (q := q) (by rw [← hc]; exact h)
  have hpos : 0 < c := by
    rw [hc]
    exact Nat.mul_pos (Nat.two_pow_pos s) (by omega)
  have ha : bits .and .u32 (c : Int) (-(c : Int) % 4294967296) = ((2 ^ s : Nat) : Int) := by
    have e : -(c : Int) % 4294967296 = ((4294967296 - c : Nat) : Int) := by omega
    rw [e, and_u32 _ _ h (by omega)]
    have := and_neg q s hs (by rw [← hc]; exact h)
    rw [← hc] at this
    rw [this]
  obtain ⟨k, hk1, hk2⟩ := db_at ⟨s, hs⟩
  obtain ⟨k, hk⟩ := k
  simp only at hk1 hk2
  have h2 := two_le s hs
  have hcell := hG.out.at_ k hk
  rw [hk2] at hcell
  obtain ⟨P, hP⟩ : ∃ P, 2 ^ s = P := ⟨_, rfl⟩
  rw [hP] at ha hk1 h2
  have hm : (P : Int) * 125613361 % 4294967296 = ((P * 125613361 % 4294967296 : Nat) : Int) := by omega
  have hd : ((P * 125613361 % 4294967296 : Nat) : Int) / 134217728 = (k : Int) := by rw [← hk1]; omega
  obtain ⟨R, hR⟩ : ∃ R, P * 125613361 % 4294967296 = R := ⟨_, rfl⟩
  have hR1 : R < 4294967296 := by omega
  rw [hR] at hm hd
  have b0 : ((c : Int) == 0) = false := by simp; omega
  replace hc := Aside0.mk hc
  replace hP := Aside0.mk hP
  replace hR := Aside0.mk hR
  replace hk1 := Aside0.mk hk1
  clear hk2
  go_enter Tryd.func60, Tryd.ntmps60
  go_wp2
  go_ret
  exact ⟨rfl, rfl⟩
theorem lowB_len (m t : Nat) : (lowB m t).length ≤ t := by
  unfold lowB
  refine Nat.le_trans (List.length_filter_le _ _) (by simp)
def L1 (i : Nat) : SLoc := ⟨1, (i : Int)⟩
def L2 (k : Int) : SLoc := ⟨2, k⟩
set_option maxHeartbeats 4000000 in
theorem refs_any (base g : Nat) (l : List Int) (e : Int) (w : World) (hG : GlobA base w) (hR : IsRA 61 base w g l e) :
    Calls Tryd.prog 34 #[.pointer (some ⟨g, 0, none⟩)] w fun ex w' => ∃ (rs : List SLoc) (v : Value), ex = .returned v ∧ Left pRefs 61 base w g l e rs w' ∧ OwnAt kLoc 50 w.heap.size w' v rs ∧ rs.length ≤ 192 := by
  obtain ⟨A, c, hr⟩ := hR.out
  have hbw := hr.lt
  have hcall := Aside0.mk (upto_any 4294967295 5 (by decide) (by decide) (by decide) base g l e w hR)
  clear hr
  go_enter Tryd.func34, Tryd.ntmps34
  go_wp2_with (go_at_call 32; ((with_reducible refine hcall.out.mono ?_); rintro ex w1 ⟨m, rfl, hT, hm1⟩))
  obtain ⟨l1, e1, hran1, hR1, _⟩ := hT.ran
  have hm0 := hT.ge
  have hk1 := hT.kt
  clear hT hcall
  obtain ⟨mN, rfl⟩ := Int.eq_ofNat_of_zero_le hm0
  have hmN : mN < 4294967296 := by omega
  obtain ⟨r, hr0⟩ : ∃ r, w.heap.size = r := ⟨_, rfl⟩
  have hbr : base ≤ r := by rw [← hr0]; exact hbw
  have hrw : r ≤ w1.heap.size := by rw [← hr0]; exact hk1.out.size
  replace hr0 := Aside0.mk hr0
  go_loopw [2, 3] (fun o mk W => ∃ (t c : Nat), mk = .int .u32 c ∧ t ≤ 32 ∧ c < 4294967296 ∧ Aside0 (Rest mN t c) ∧ IsRA 61 base W g l1 e1 ∧ Aside0 (OwnAt kLoc 50 r W o ((lowB mN t).map L1) ∧ KT ST base w W)) (fun _ mk _ => (intOf mk).toNat)
  case atStart => exact ⟨0, mN, by rw [show (mN : Int) % 4294967296 = mN by omega], by omega, hmN, ⟨Rest.start mN⟩, hR1, ⟨OwnAt.nil _ _ _ _, hk1.out⟩⟩
  case round =>
    obtain ⟨t, c, rfl, ht, hc, hrest, hRt, hO⟩ := hrel
    clear hR1 hk1 hrw
    have hrr : r ≤ wr.heap.size := by rw [← hr0.out]; exact hO.out.2.size
    obtain ⟨xs, hxs⟩ : ∃ xs, (lowB mN t).map L1 = xs := ⟨_, rfl⟩
    have hxl : xs.length ≤ 32 := by rw [← hxs, List.length_map]; exact Nat.le_trans (lowB_len _ _) ht
    rw [hxs] at hO
    replace hxs := Aside0.mk hxs
    obtain ⟨A0, c0, rfl, _, _⟩ := hO.out.1.reads
    by_cases hc0 : c = 0
    · subst hc0
      have hstop := Aside0.mk (hrest.out.stop hmN ht)
      have hbits : Aside0 (bitsOf (mN : Int) = xs) := ⟨by rw [bitsOf_low, hstop.out]; exact hxs.out⟩
      have hcall := Aside0.mk (upto_any 160 9 (by decide) (by decide) (by decide) base g l1 e1 wr hRt)
      go_wp2_with (go_at_call 32; ((with_reducible refine hcall.out.mono ?_); rintro ex w2 ⟨n, rfl, hT, hn160⟩))
      obtain ⟨l2, e2, hran2, hR2, _⟩ := hT.ran
      have hn0 := hT.ge
      have hO2 : Aside0 (OwnAt kLoc 50 r w2 (.slice A0 xs.length c0) xs ∧ KT ST base w w2) := ⟨hO.out.1.keep hT.kt.out (by decide), hO.out.2.trans hT.kt.out⟩
      clear hT hcall hO hRt
      go_loopw [2, 4, 22] (fun o la i W => ∃ (k : Nat) (ks : List Int) (p : Int) (lk : List Int) (ek : Int), k ≤ n.toNat ∧ i = .int .i64 k ∧ la = .int .i64 p ∧ -1 ≤ p ∧ p ≤ 159 ∧ Aside0 (lastI ks = p) ∧ Aside0 (Ran (pGrow (fun xs => pAbove (lastI xs) 159) k) l2 e2 ks lk ek) ∧ IsRA 61 base W g lk ek ∧ Aside0 (OwnAt kLoc 50 r W o (xs ++ ks.map L2) ∧ KT ST base w W) ∧ Aside0 (ks.length = k)) (fun _ _ i _ => n.toNat - (intOf i).toNat)
      case atStart => exact ⟨0, [], -1, l2, e2, by omega, rfl, rfl, by decide, by decide, ⟨rfl⟩, ⟨Ran.grow0 _ _ _⟩, hR2, ⟨by simpa using hO2.out.1, hO2.out.2⟩, ⟨rfl⟩⟩
      case round =>
        clear hR2 hO2
        obtain ⟨k, ks, p, lk, ek, hk, rfl, rfl, hp0, hp1, hlast, hran, hRk, hOk, hks⟩ := hrel
        obtain ⟨ys, hys⟩ : ∃ ys, xs ++ ks.map L2 = ys := ⟨_, rfl⟩
        have hyl : ys.length ≤ 192 := by rw [← hys, List.length_append, List.length_map, hks.out]; omega
        rw [hys] at hOk
        replace hys := Aside0.mk hys
        by_cases hkn : (k : Int) < n
        · have hab := Aside0.mk (above_any p 159 hp0 hp1 (by decide) base g lk ek wr hRk)
          obtain ⟨A0, c0, rfl, _, _⟩ := hOk.out.1.reads
          go_upto_region 9 with (go_at_call 33; ((with_reducible refine hab.out.mono ?_); rintro ex w3 ⟨p2, rfl, hL, hp2, hp3⟩))
          obtain ⟨l3, e3, hran3, hR3⟩ := hL.ran
          have hO3 : Aside0 (OwnAt kLoc 50 r w3 (.slice A0 ys.length c0) ys ∧ KT ST base w w3) := ⟨hOk.out.1.keep hL.kt.out (by decide), hOk.out.2.trans hL.kt.out⟩
          have hr3 : r ≤ w3.heap.size := by rw [← hr0.out]; exact hO3.out.2.size
          go_wp2_with ((with_reducible refine gate_b (b := .append) rfl ?_); (refine app_loc_at_ (xs := ys) (⟨2, p2⟩ : SLoc) [.int .i64 2, .int .i64 p2] hO3.out.1 ⟨kLoc_mkM _ _ _ (⟨2, p2⟩ : SLoc)⟩ hr3 rfl _ _ rfl ?hl1 rfl rfl ?_); (case hl1 => omega); intro v1 w4 hO1 hK1)
          have hx : OwnAt kLoc 50 r w4 v1 (xs ++ (ks ++ [p2]).map L2) := by
            rw [List.map_append, ← List.append_assoc, hys.out]
            exact hO1
          go_roundw
          case rel =>
            obtain ⟨A1, c1, hr1⟩ := hR3.out
            exact ⟨k + 1, ks ++ [p2], p2, l3, e3, by omega, by go_num, rfl, by omega, hp3, ⟨by simp [lastI]⟩, ⟨hran.out.grow1 (by rw [hlast.out]; exact hran3.out)⟩, ⟨⟨_, _, hr1.keep (hK1.mono hbr (fun _ z => z)) (by decide) (by decide)⟩⟩, ⟨hx, hO3.out.2.after (by rw [hr0.out]; exact hK1.below) hbw⟩, ⟨by rw [List.length_append, hks.out]; rfl⟩⟩
          case measure => simp [intOf]; omega
        · have hkk : Aside0 (k = n.toNat) := ⟨by omega⟩
          go_wp2
          go_ret
          refine ⟨ys, _, rfl, ⟨⟨lk, ek, ⟨?_⟩, hRk⟩, ⟨hOk.out.2⟩⟩, by rw [hr0.out]; exact hOk.out.1, hyl⟩
          rw [← hys.out, ← hbits.out]
          exact hran1.out.bind (hran2.out.bind ((hkk.out ▸ hran.out).bind (Ran.ret _ _ _)))
    · obtain ⟨s, q, hsq⟩ := odd_part c (by omega)
      have hgo := hrest.out
      rw [hsq] at hgo
      replace hgo := Aside0.mk (hgo.go hmN)
      have htz := Aside0.mk (tz_any s q c base wr ⟨hG.out.below hO.out.2.below⟩ hsq hc)
      have ha : bits .and .u32 (c : Int) ((c : Int) - 1) = ((2 ^ s * (2 * q) : Nat) : Int) := by
        rw [show (c : Int) - 1 = ((c - 1 : Nat) : Int) by omega, and_u32 _ _ hc (by omega)]
        have := and_pred q s
        rw [← hsq] at this
        rw [this]
      obtain ⟨c2, hc2⟩ : ∃ c2, 2 ^ s * (2 * q) = c2 := ⟨_, rfl⟩
      rw [hc2] at ha hgo
      have hlt2 : c2 < c := by rw [← hc2, hsq]; have := Nat.two_pow_pos s; rw [Nat.mul_add]; omega
      have hs32 := hgo.out.2.1
      replace hsq := Aside0.mk hsq
      replace hc2 := Aside0.mk hc2
      have b0 : ((c : Int) != 0) = true := by simpa using hc0
      go_wp2_with (first | (go_at_call 60; ((with_reducible refine htz.out.mono ?_); rintro ex w2 ⟨rfl, rfl⟩)) | ((with_reducible refine gate_b (b := .append) rfl ?_); (refine app_loc_at_ (xs := xs) (⟨1, (s : Int)⟩ : SLoc) [.int .i64 1, .int .i64 s] hO.out.1 ⟨kLoc_mkM _ _ _ (⟨1, (s : Int)⟩ : SLoc)⟩ hrr rfl _ _ rfl ?hl1 rfl rfl ?_); (case hl1 => omega); intro v1 w3 hO1 hK1))
      have hx : OwnAt kLoc 50 r w3 v1 ((lowB mN (s + 1)).map L1) := by
        rw [hgo.out.2.2.1, List.map_append, hxs.out]
        exact hO1
      have hc2l : c2 < 4294967296 := Nat.lt_trans hlt2 hc
      go_roundw
      case rel =>
        obtain ⟨A1, c1, hr1⟩ := hRt.out
        exact ⟨s + 1, c2, rfl, by omega, hc2l, ⟨hgo.out.2.2.2⟩, ⟨⟨_, _, hr1.keep (hK1.mono hbr (fun _ z => z)) (by decide) (by decide)⟩⟩, ⟨hx, hO.out.2.after (by rw [hr0.out]; exact hK1.below) hbw⟩⟩
      case measure => simp [intOf]; omega
end Go.Proofs.YtceibabhmomfiaaDoor.H

/- Layer 3, walks: a place among places. -/
namespace Go.Proofs.YtceibabhmomfiaaDoor.H
open Go.RowKit Go.Proofs.YtceibabhmomfiaaDoorW.PrintWords Go.Proofs.YtceibabhmomfiaaDoorW.PrintLast
set_option linter.unusedVariables false
set_option linter.unusedSimpArgs false

theorem eqLoc (d : Nat) (w : World) (x0 y0 : Int) (x1 y1 : Int) :
    (Op.equalIn (d + 2) 50 (.agg #[.int .i64 x0, .int .i64 x1]) (.agg #[.int .i64 y0, .int .i64 y1])).run Tryd.prog w = .ok (x0 == y0 && (x1 == y1)) w := by
  refine eqA_of Tryd.underlying50 (by kernel_rfl) ?_
  refine eqf_cons (by rfl) (by go_simp; rfl) (by go_simp; rfl) (by go_simp) ?_
  exact eqf_last (by rfl) (by go_simp; rfl) (by go_simp; rfl) (by go_simp)
theorem loc_at {W : World} {A : Option Addr} {l : List SLoc} (h : Rd kLoc W A l) (k : Nat) (hk : k < l.length) : ∃ ad, A = some ad ∧ W.cell? (ad.add (k * 2)) = some (.int .i64 (l[k]).f0) ∧ W.cell? ⟨(ad.add (k * 2)).block, (ad.add (k * 2)).off + 1, none⟩ = some (.int .i64 (l[k]).f1) := by
  obtain ⟨ad, e, h0, h1⟩ := at_TLoc h.out (k : Int) (by omega) (by omega)
  have e1 : rd_TLoc l (k : Int) = l[k] := by simp [rd_TLoc, List.getD_eq_getElem?_getD, List.getElem?_eq_getElem hk]
  rw [e1] at h0 h1
  simp only [Int.toNat_natCast] at h0 h1
  exact ⟨ad, e, h0, h1⟩
theorem eq_loc (x y : SLoc) : (x.f0 == y.f0 && (x.f1 == y.f1)) = decide (x = y) := by
  obtain ⟨a, b⟩ := x
  obtain ⟨c, d⟩ := y
  simp only [SLoc.mk.injEq]
  by_cases h1 : a = c <;> by_cases h2 : b = d <;> simp [h1, h2]
attribute [local go_sem high] eqLoc
set_option maxRecDepth 100000
set_option maxHeartbeats 1000000 in
theorem Index_any (A : Option Addr) (c : Nat) (l : List SLoc) (x : SLoc) (w : World) (HR : Rd kLoc w A l) (hl : l.length ≤ 1000000000) :
    Calls Tryd.prog 86 #[.slice A l.length c, .agg #[.int .i64 x.f0, .int .i64 x.f1]] w fun e w' => ∃ r : Int, e = .returned (.int .i64 r) ∧ Bel w w' ∧ Aside0 (0 ≤ r ↔ x ∈ l) := by
  have hu := Tryd.underlying50
  have hB0 := (Bel.refl w).alloc (.cells #[.int .i64 x.f0, .int .i64 x.f1] 50)
  have hb0 := heap_alloc_new w (.cells #[.int .i64 x.f0, .int .i64 x.f1] 50)
  go_enter Tryd.func86, Tryd.ntmps86
  go_upto_region 1 with (fail)
  generalize w.alloc (.cells #[.int .i64 x.f0, .int .i64 x.f1] 50) = wa at hB0 hb0 ⊢
  obtain ⟨b, hb⟩ : ∃ b, w.heap.size = b := ⟨_, rfl⟩
  rw [hb] at hb0 ⊢
  replace hb := Aside0.mk hb
  have hRa := HR.step hB0
  replace hb0 := Aside0.mk hb0
  go_wp2
  go_loopw [8] (fun i W => ∃ k : Nat, k ≤ l.length ∧ i = .int .i64 k ∧ Bel wa W ∧ Aside0 (∀ j (hj : j < l.length), j < k → l[j] ≠ x)) (fun i _ => l.length - (intOf i).toNat)
  case atStart => exact ⟨0, by omega, rfl, Bel.refl _, ⟨fun j _ h => absurd h (by omega)⟩⟩
  case round =>
    obtain ⟨k, hk, rfl, hBr, hno⟩ := hrel
    by_cases hlt : k < l.length
    · obtain ⟨ad, rfl, c0, c1⟩ := loc_at (hRa.step hBr) k hlt
      have hbk := bel_blk hb0.out hBr
      have x0 := blk_cell hbk 0
      have x1 := blk_cell hbk 1
      obtain ⟨y, hy⟩ : ∃ y, l[k] = y := ⟨_, rfl⟩
      rw [hy] at c0 c1
      replace hbk := Aside0.mk hbk
      by_cases hxy : x = y
      · have hq : (x.f0 == y.f0 && (x.f1 == y.f1)) = true := by rw [eq_loc]; exact decide_eq_true hxy
        have hin : Aside0 (x ∈ l) := ⟨by rw [hxy, ← hy]; exact List.getElem_mem hlt⟩
        replace hxy := Aside0.mk hxy
        replace hy := Aside0.mk hy
        go_upto_region 4 with (fail)
        go_region_law (fail)
        all_goals
          go_wp2
          go_ret
          exact ⟨_, rfl, hB0.trans (hBr.drewN 1), ⟨⟨fun _ => hin.out, fun _ => by omega⟩⟩⟩
      · have hq : (x.f0 == y.f0 && (x.f1 == y.f1)) = false := by rw [eq_loc]; exact decide_eq_false hxy
        replace hxy := Aside0.mk hxy
        replace hy := Aside0.mk hy
        go_upto_region 4 with (fail)
        go_region_law (fail)
        all_goals
          go_wp2
          go_roundw
          case rel =>
            refine ⟨k + 1, by omega, by go_num, hBr.drewN 1, ⟨fun j hj hjk => ?_⟩⟩
            by_cases e : j = k
            · subst e
              rw [hy.out]
              exact fun q => hxy.out q.symm
            · exact hno.out j hj (by omega)
          case measure => simp [intOf]; omega
    · have hni : Aside0 (x ∉ l) := ⟨fun hm => by
        obtain ⟨j, hj, e⟩ := List.getElem_of_mem hm
        exact hno.out j hj (by omega) e⟩
      go_wp2
      go_ret
      exact ⟨_, rfl, hB0.trans hBr, ⟨⟨fun h => absurd h (by decide), fun h => absurd h hni.out⟩⟩⟩
set_option maxHeartbeats 1000000 in
theorem Contains_any (A : Option Addr) (c : Nat) (l : List SLoc) (x : SLoc) (w : World) (HR : Rd kLoc w A l) (hl : l.length ≤ 1000000000) :
    Calls Tryd.prog 62 #[.slice A l.length c, .agg #[.int .i64 x.f0, .int .i64 x.f1]] w fun e w' => e = .returned (.bool (decide (x ∈ l))) ∧ Bel w w' := by
  have hB0 := (Bel.refl w).alloc (.cells #[.int .i64 x.f0, .int .i64 x.f1] 50)
  have hb0 := heap_alloc_new w (.cells #[.int .i64 x.f0, .int .i64 x.f1] 50)
  go_enter Tryd.func62, Tryd.ntmps62
  go_upto_region 1 with (fail)
  generalize w.alloc (.cells #[.int .i64 x.f0, .int .i64 x.f1] 50) = wa at hB0 hb0 ⊢
  obtain ⟨b, hb⟩ : ∃ b, w.heap.size = b := ⟨_, rfl⟩
  rw [hb] at hb0 ⊢
  replace hb := Aside0.mk hb
  have x0 := blk_cell hb0 0
  have x1 := blk_cell hb0 1
  have hcall := Aside0.mk (Index_any A c l x wa (HR.step hB0) hl)
  replace hb0 := Aside0.mk hb0
  go_wp2_with (go_at_call 86; ((with_reducible refine hcall.out.mono ?_); rintro e w1 ⟨r, rfl, hB1, hr⟩))
  go_ret
  refine ⟨?_, hB0.trans hB1⟩
  have e : decide (0 ≤ r) = decide (x ∈ l) := decide_eq_decide.2 hr.out
  rw [← e]
  rfl
end Go.Proofs.YtceibabhmomfiaaDoor.H

/- Layer 3, walks: places are compared. -/
namespace Go.Proofs.YtceibabhmomfiaaDoor.H
open Go.RowKit Go.Proofs.YtceibabhmomfiaaDoorW.PrintWords Go.Proofs.YtceibabhmomfiaaDoorW.PrintLast
set_option linter.unusedVariables false
set_option linter.unusedSimpArgs false
set_option maxRecDepth 100000

def cmpI (a b : Int) : Int := if a < b then -1 else if b < a then 1 else 0
theorem isNaN_any (a : Int) (w : World) : Calls Tryd.prog 69 #[.int .i64 a] w fun e w' => e = .returned (.bool false) ∧ w = w' := by
  go_enter Tryd.func69, Tryd.ntmps69
  have b0 : (a != a) = false := by simp
  go_wp2
  go_ret
  exact ⟨rfl, rfl⟩
theorem Compare_any (a b : Int) (w : World) : Calls Tryd.prog 43 #[.int .i64 a, .int .i64 b] w fun e w' => e = .returned (.int .i64 (cmpI a b)) ∧ w = w' := by
  have h1 := Aside0.mk (isNaN_any a w)
  have h2 := Aside0.mk (isNaN_any b w)
  by_cases h : a < b
  · have e : Aside0 (cmpI a b = -1) := ⟨if_pos h⟩
    go_enter Tryd.func43, Tryd.ntmps43
    go_wp2_with (go_at_call 69; first | ((with_reducible refine h1.out.mono ?_); rintro e w' ⟨rfl, rfl⟩) | ((with_reducible refine h2.out.mono ?_); rintro e w' ⟨rfl, rfl⟩))
    go_ret
    exact ⟨by rw [e.out]; rfl, rfl⟩
  · by_cases h' : b < a
    · have e : Aside0 (cmpI a b = 1) := ⟨by unfold cmpI; rw [if_neg h, if_pos h']⟩
      go_enter Tryd.func43, Tryd.ntmps43
      go_wp2_with (go_at_call 69; first | ((with_reducible refine h1.out.mono ?_); rintro e w' ⟨rfl, rfl⟩) | ((with_reducible refine h2.out.mono ?_); rintro e w' ⟨rfl, rfl⟩))
      go_ret
      exact ⟨by rw [e.out]; rfl, rfl⟩
    · have e : Aside0 (cmpI a b = 0) := ⟨by unfold cmpI; rw [if_neg h, if_neg h']⟩
      go_enter Tryd.func43, Tryd.ntmps43
      go_wp2_with (go_at_call 69; first | ((with_reducible refine h1.out.mono ?_); rintro e w' ⟨rfl, rfl⟩) | ((with_reducible refine h2.out.mono ?_); rintro e w' ⟨rfl, rfl⟩))
      go_ret
      exact ⟨by rw [e.out]; rfl, rfl⟩
def orI (p q : Int) : Int := if p ≠ 0 then p else q
set_option maxHeartbeats 1000000 in
theorem Or_any (A : Option Addr) (c : Nat) (p q : Int) (w : World) (HR : RdI w A [p, q]) : Calls Tryd.prog 91 #[.slice A 2 c] w fun e w' => e = .returned (.int .i64 (orI p q)) ∧ w = w' := by
  go_enter Tryd.func91, Tryd.ntmps91
  go_wp2
  go_loopw [8] (fun i W => ∃ k : Nat, k ≤ 2 ∧ i = .int .i64 k ∧ Aside0 ((1 ≤ k → p = 0) ∧ (2 ≤ k → q = 0)) ∧ w = W) (fun i _ => 2 - (intOf i).toNat)
  case atStart => exact ⟨0, by omega, rfl, ⟨⟨fun h => absurd h (by decide), fun h => absurd h (by decide)⟩⟩, rfl⟩
  case round =>
    obtain ⟨k, hk, rfl, hz, rfl⟩ := hrel
    by_cases hlt : k < 2
    · obtain ⟨ad, rfl, c0⟩ := rd_atN HR k (by simpa using hlt)
      obtain ⟨x, hx⟩ : ∃ x, rd [p, q] (k : Int) = x := ⟨_, rfl⟩
      rw [hx] at c0
      have hx1 : Aside0 ((k = 0 → x = p) ∧ (k = 1 → x = q)) := ⟨⟨fun h => by rw [← hx, h]; rfl, fun h => by rw [← hx, h]; rfl⟩⟩
      clear hx
      by_cases h0 : x = 0
      · have b0 : (x != 0) = false := by simp [h0]
        replace h0 := Aside0.mk h0
        go_wp2
        go_roundw
        case rel =>
          refine ⟨k + 1, by omega, by go_num, ⟨⟨fun _ => ?_, fun _ => ?_⟩⟩, by first | trivial | rfl⟩
          · by_cases e : k = 0
            · rw [← hx1.out.1 e]; exact h0.out
            · exact hz.out.1 (by omega)
          · rw [← hx1.out.2 (by omega)]; exact h0.out
        case measure => simp [intOf]; omega
      · have b0 : (x != 0) = true := by simpa using h0
        have e : Aside0 (orI p q = x) := ⟨by
          by_cases hk0 : k = 0
          · have := hx1.out.1 hk0
            unfold orI; rw [if_pos (by rw [← this]; exact h0), this]
          · have := hx1.out.2 (by omega)
            unfold orI; rw [if_neg (fun h => h (hz.out.1 (by omega))), this]⟩
        replace h0 := Aside0.mk h0
        go_wp2
        go_ret
        exact ⟨by rw [e.out]; rfl, rfl⟩
    · have e : Aside0 (orI p q = 0) := ⟨by unfold orI; rw [if_neg (fun h => h (hz.out.1 (by omega))), hz.out.2 (by omega)]⟩
      go_wp2
      go_ret
      exact ⟨by rw [e.out]; rfl, rfl⟩
end Go.Proofs.YtceibabhmomfiaaDoor.H

/- Layer 3, walks: one place before another. -/
namespace Go.Proofs.YtceibabhmomfiaaDoor.H
open Go.RowKit Go.Proofs.YtceibabhmomfiaaDoorW.PrintWords Go.Proofs.YtceibabhmomfiaaDoorW.PrintLast
set_option linter.unusedVariables false
set_option linter.unusedSimpArgs false
set_option maxRecDepth 100000

def cmpL (x y : SLoc) : Int := orI (cmpI x.f0 y.f0) (cmpI x.f1 y.f1)
theorem cmpL_lt (x y : SLoc) : decide (cmpL x y < 0) = befL x y := by
  unfold cmpL befL orI cmpI
  refine decide_eq_decide.2 ?_
  by_cases h1 : x.f0 < y.f0
  · simp [h1]
  · by_cases h2 : y.f0 < x.f0
    · have : ¬ x.f0 = y.f0 := by omega
      simp [h1, h2, this]
    · have e : x.f0 = y.f0 := by omega
      by_cases h3 : x.f1 < y.f1
      · simp [h1, h2, e, h3]
      · by_cases h4 : y.f1 < x.f1 <;> simp [h1, h2, e, h3, h4]
set_option maxHeartbeats 1000000 in
theorem compare_any (x y : SLoc) (w : World) : Calls Tryd.prog 72 #[.agg #[.int .i64 x.f0, .int .i64 x.f1], .agg #[.int .i64 y.f0, .int .i64 y.f1]] w fun e w' => e = .returned (.int .i64 (cmpL x y)) ∧ Bel w w' := by
  have hB0 := ((Bel.refl w).alloc (.cells #[.int .i64 x.f0, .int .i64 x.f1] 50)).alloc (.cells #[.int .i64 y.f0, .int .i64 y.f1] 50)
  have hb0 : ((w.alloc (.cells #[.int .i64 x.f0, .int .i64 x.f1] 50)).alloc (.cells #[.int .i64 y.f0, .int .i64 y.f1] 50)).heap[w.heap.size]? = some (.cells #[.int .i64 x.f0, .int .i64 x.f1] 50 (0, 0)) := heap_old (heap_new' rfl)
  have hb1 : ((w.alloc (.cells #[.int .i64 x.f0, .int .i64 x.f1] 50)).alloc (.cells #[.int .i64 y.f0, .int .i64 y.f1] 50)).heap[w.heap.size + 1]? = some (.cells #[.int .i64 y.f0, .int .i64 y.f1] 50 (0, 0)) := heap_new' (by simp)
  go_enter Tryd.func72, Tryd.ntmps72
  go_upto_region 1 with (fail)
  generalize (w.alloc (.cells #[.int .i64 x.f0, .int .i64 x.f1] 50)).alloc (.cells #[.int .i64 y.f0, .int .i64 y.f1] 50) = wa at hB0 hb0 hb1 ⊢
  have x0 := blk_cell hb0 0
  have x1 := blk_cell hb0 1
  have y0 := blk_cell hb1 0
  have y1 := blk_cell hb1 1
  replace hb0 := Aside0.mk hb0
  replace hb1 := Aside0.mk hb1
  go_region_law (first | (refine goes_ (f := 43) Tryd.func43 (by kernel_rfl) rfl #[.int .i64 x.f0, .int .i64 y.f0] rfl rfl rfl (by simp only [List.map_toArray, List.map_cons, List.map_nil]; rfl) ?_; refine (Compare_any x.f0 y.f0 _).mono ?_; rintro ex w' ⟨rfl, rfl⟩; refine ⟨_, rfl, ?_⟩) | (refine goes_ (f := 43) Tryd.func43 (by kernel_rfl) rfl #[.int .i64 x.f1, .int .i64 y.f1] rfl rfl rfl (by simp only [List.map_toArray, List.map_cons, List.map_nil]; rfl) ?_; refine (Compare_any x.f1 y.f1 _).mono ?_; rintro ex w' ⟨rfl, rfl⟩; refine ⟨_, rfl, ?_⟩) | (refine goes_ (f := 91) Tryd.func91 (by kernel_rfl) rfl #[.slice (some ⟨wa.heap.size, 0, none⟩) 2 2] rfl rfl rfl (by simp only [List.map_toArray, List.map_cons, List.map_nil]; rfl) ?_; refine (Or_any _ 2 (cmpI x.f0 y.f0) (cmpI x.f1 y.f1) _ (Rd.lit .i64 3 (wa.drewN 1) [cmpI x.f0 y.f0, cmpI x.f1 y.f1] (by simp))).mono ?_; rintro ex w' ⟨rfl, rfl⟩; refine ⟨_, rfl, ?_⟩))
  all_goals
    go_wp2
    go_ret
    exact ⟨rfl, hB0.trans (((Bel.refl wa).drewN 1).alloc _)⟩
end Go.Proofs.YtceibabhmomfiaaDoor.H

/- Layer 3, walks: Before. -/
namespace Go.Proofs.YtceibabhmomfiaaDoor.H
open Go.RowKit Go.Proofs.YtceibabhmomfiaaDoorW.PrintWords Go.Proofs.YtceibabhmomfiaaDoorW.PrintLast
set_option linter.unusedVariables false
set_option linter.unusedSimpArgs false
set_option maxRecDepth 100000

set_option maxHeartbeats 1000000 in
theorem Before_any (x y : SLoc) (w : World) : Calls Tryd.prog 63 #[.agg #[.int .i64 x.f0, .int .i64 x.f1], .agg #[.int .i64 y.f0, .int .i64 y.f1]] w fun e w' => e = .returned (.bool (befL x y)) ∧ Bel w w' := by
  have hB0 := ((Bel.refl w).alloc (.cells #[.int .i64 x.f0, .int .i64 x.f1] 50)).alloc (.cells #[.int .i64 y.f0, .int .i64 y.f1] 50)
  have hb0 : ((w.alloc (.cells #[.int .i64 x.f0, .int .i64 x.f1] 50)).alloc (.cells #[.int .i64 y.f0, .int .i64 y.f1] 50)).heap[w.heap.size]? = some (.cells #[.int .i64 x.f0, .int .i64 x.f1] 50 (0, 0)) := heap_old (heap_new' rfl)
  have hb1 : ((w.alloc (.cells #[.int .i64 x.f0, .int .i64 x.f1] 50)).alloc (.cells #[.int .i64 y.f0, .int .i64 y.f1] 50)).heap[w.heap.size + 1]? = some (.cells #[.int .i64 y.f0, .int .i64 y.f1] 50 (0, 0)) := heap_new' (by simp)
  have hlt := Aside0.mk (cmpL_lt x y)
  go_enter Tryd.func63, Tryd.ntmps63
  go_upto_region 1 with (fail)
  generalize (w.alloc (.cells #[.int .i64 x.f0, .int .i64 x.f1] 50)).alloc (.cells #[.int .i64 y.f0, .int .i64 y.f1] 50) = wa at hB0 hb0 hb1 ⊢
  have x0 := blk_cell hb0 0
  have x1 := blk_cell hb0 1
  have y0 := blk_cell hb1 0
  have y1 := blk_cell hb1 1
  replace hb0 := Aside0.mk hb0
  replace hb1 := Aside0.mk hb1
  have hcall := Aside0.mk (compare_any x y wa)
  go_wp2_with (go_at_call 72; ((with_reducible refine hcall.out.mono ?_); rintro e w1 ⟨rfl, hB1⟩))
  go_ret
  refine ⟨?_, hB0.trans hB1⟩
  rw [← hlt.out]
  rfl
end Go.Proofs.YtceibabhmomfiaaDoor.H
