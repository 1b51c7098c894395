/- Layer 3, walks: the lowest bit's place. -/
import Derived.Test.YtceibabhmomfiaaDoorPr2
import Derived.Test.YtceibabhmomfiaaDoorPb
namespace Go.Proofs.YtceibabhmomfiaaDoor.H
open Go.RowKit Go.Proofs.YtceibabhmomfiaaDoorW.PrintWords Go.Proofs.YtceibabhmomfiaaDoorW.PrintLast
set_option linter.unusedVariables false
set_option linter.unusedSimpArgs false

def dbTab : List Nat := [0, 1, 28, 2, 29, 14, 24, 3, 30, 22, 20, 15, 25, 17, 4, 8, 31, 27, 13, 23, 21, 19, 16, 7, 26, 12, 18, 6, 11, 5, 10, 9]
def dbN (i : Nat) : Nat := dbTab.getD i 0
/-- The variable 'deBruijn32tab' holds the table; base lies behind it. -/
structure Glob (base : Nat) (W : World) : Prop where
  pos : 0 < base
  at_ : ∀ i : Nat, i < 32 → W.cell? ⟨0, i, none⟩ = some (.int .u8 (dbN i))
theorem Glob.below {base : Nat} {W W1 : World} (h : Glob base W) (k : Below base W W1) : Glob base W1 := ⟨h.pos, fun i hi => (k.cell (p := ⟨0, i, none⟩) h.pos).trans (h.at_ i hi)⟩
theorem Glob.step {base : Nat} {W W1 : World} (h : Glob base W) (k : Bel W W1) (hb : base ≤ W.heap.size) : Glob base W1 := h.below (k.out.mono hb)
abbrev GlobA (base : Nat) (W : World) : Prop := Aside0 (Glob base W)
theorem db_at : ∀ s : Fin 32, ∃ k : Fin 32, (2 ^ s.val * 125613361 % 4294967296) / 134217728 = k.val ∧ dbN k.val = s.val := by decide +kernel
theorem two_le (s : Nat) (h : s < 32) : 2 ^ s ≤ 2147483648 := by
  have : 2 ^ s ≤ 2 ^ 31 := Nat.pow_le_pow_right (by decide) (by omega)
  omega
theorem odd_lt {s q : Nat} (h : 2 ^ s * (2 * q + 1) < 4294967296) : s < 32 := by
  refine Classical.byContradiction fun hn => ?_
  have h1 : 2 ^ 32 ≤ 2 ^ s := Nat.pow_le_pow_right (by decide) (by omega)
  have h2 : 2 ^ s * 1 ≤ 2 ^ s * (2 * q + 1) := Nat.mul_le_mul_left _ (by omega)
  omega
set_option maxHeartbeats 1000000 in
theorem tz_any (s q c : Nat) (base : Nat) (w : World) (hG : GlobA base w) (hc : c = 2 ^ s * (2 * q + 1)) (h : c < 4294967296) :
    Calls Tryd.prog 60 #[.int .u32 c] w fun e w' => e = .returned (.int .i64 s) ∧ w = w' := by
  have hs : s < 32 := odd_lt (q := q) (by rw [← hc]; exact h)
  have hpos : 0 < c := by
    rw [hc]
    exact Nat.mul_pos (Nat.two_pow_pos s) (by omega)
  have ha : bits .and .u32 (c : Int) (-(c : Int) % 4294967296) = ((2 ^ s : Nat) : Int) := by
    have e : -(c : Int) % 4294967296 = ((4294967296 - c : Nat) : Int) := by omega
    rw [e, and_u32 _ _ h (by omega)]
    have := and_neg q s hs (by rw [← hc]; exact h)
    rw [← hc] at this
    rw [this]
  obtain ⟨k, hk1, hk2⟩ := db_at ⟨s, hs⟩
  obtain ⟨k, hk⟩ := k
  simp only at hk1 hk2
  have h2 := two_le s hs
  have hcell := hG.out.at_ k hk
  rw [hk2] at hcell
  obtain ⟨P, hP⟩ : ∃ P, 2 ^ s = P := ⟨_, rfl⟩
  rw [hP] at ha hk1 h2
  have hm : (P : Int) * 125613361 % 4294967296 = ((P * 125613361 % 4294967296 : Nat) : Int) := by omega
  have hd : ((P * 125613361 % 4294967296 : Nat) : Int) / 134217728 = (k : Int) := by rw [← hk1]; omega
  obtain ⟨R, hR⟩ : ∃ R, P * 125613361 % 4294967296 = R := ⟨_, rfl⟩
  have hR1 : R < 4294967296 := by omega
  rw [hR] at hm hd
  have b0 : ((c : Int) == 0) = false := by simp; omega
  replace hc := Aside0.mk hc
  replace hP := Aside0.mk hP
  replace hR := Aside0.mk hR
  replace hk1 := Aside0.mk hk1
  clear hk2
  go_enter Tryd.func60, Tryd.ntmps60
  go_wp2
  go_ret
  exact ⟨rfl, rfl⟩
theorem lowB_len (m t : Nat) : (lowB m t).length ≤ t := by
  unfold lowB
  refine Nat.le_trans (List.length_filter_le _ _) (by simp)
def L1 (i : Nat) : SLoc := ⟨1, (i : Int)⟩
def L2 (k : Int) : SLoc := ⟨2, k⟩
set_option maxHeartbeats 4000000 in
theorem refs_any (base g : Nat) (l : List Int) (e : Int) (w : World) (hG : GlobA base w) (hR : IsRA 61 base w g l e) :
    Calls Tryd.prog 34 #[.pointer (some ⟨g, 0, none⟩)] w fun ex w' => ∃ (rs : List SLoc) (v : Value), ex = .returned v ∧ Left pRefs 61 base w g l e rs w' ∧ OwnAt kLoc 50 w.heap.size w' v rs ∧ rs.length ≤ 192 := by
  obtain ⟨A, c, hr⟩ := hR.out
  have hbw := hr.lt
  have hcall := Aside0.mk (upto_any 4294967295 5 (by decide) (by decide) (by decide) base g l e w hR)
  clear hr
  go_enter Tryd.func34, Tryd.ntmps34
  go_wp2_with (go_at_call 32; ((with_reducible refine hcall.out.mono ?_); rintro ex w1 ⟨m, rfl, hT, hm1⟩))
  obtain ⟨l1, e1, hran1, hR1, _⟩ := hT.ran
  have hm0 := hT.ge
  have hk1 := hT.kt
  clear hT hcall
  obtain ⟨mN, rfl⟩ := Int.eq_ofNat_of_zero_le hm0
  have hmN : mN < 4294967296 := by omega
  obtain ⟨r, hr0⟩ : ∃ r, w.heap.size = r := ⟨_, rfl⟩
  have hbr : base ≤ r := by rw [← hr0]; exact hbw
  have hrw : r ≤ w1.heap.size := by rw [← hr0]; exact hk1.out.size
  replace hr0 := Aside0.mk hr0
  go_loopw [2, 3] (fun o mk W => ∃ (t c : Nat), mk = .int .u32 c ∧ t ≤ 32 ∧ c < 4294967296 ∧ Aside0 (Rest mN t c) ∧ IsRA 61 base W g l1 e1 ∧ Aside0 (OwnAt kLoc 50 r W o ((lowB mN t).map L1) ∧ KT ST base w W)) (fun _ mk _ => (intOf mk).toNat)
  case atStart => exact ⟨0, mN, by rw [show (mN : Int) % 4294967296 = mN by omega], by omega, hmN, ⟨Rest.start mN⟩, hR1, ⟨OwnAt.nil _ _ _ _, hk1.out⟩⟩
  case round =>
    obtain ⟨t, c, rfl, ht, hc, hrest, hRt, hO⟩ := hrel
    clear hR1 hk1 hrw
    have hrr : r ≤ wr.heap.size := by rw [← hr0.out]; exact hO.out.2.size
    obtain ⟨xs, hxs⟩ : ∃ xs, (lowB mN t).map L1 = xs := ⟨_, rfl⟩
    have hxl : xs.length ≤ 32 := by rw [← hxs, List.length_map]; exact Nat.le_trans (lowB_len _ _) ht
    rw [hxs] at hO
    replace hxs := Aside0.mk hxs
    obtain ⟨A0, c0, rfl, _, _⟩ := hO.out.1.reads
    by_cases hc0 : c = 0
    · subst hc0
      have hstop := Aside0.mk (hrest.out.stop hmN ht)
      have hbits : Aside0 (bitsOf (mN : Int) = xs) := ⟨by rw [bitsOf_low, hstop.out]; exact hxs.out⟩
      have hcall := Aside0.mk (upto_any 160 9 (by decide) (by decide) (by decide) base g l1 e1 wr hRt)
      go_wp2_with (go_at_call 32; ((with_reducible refine hcall.out.mono ?_); rintro ex w2 ⟨n, rfl, hT, hn160⟩))
      obtain ⟨l2, e2, hran2, hR2, _⟩ := hT.ran
      have hn0 := hT.ge
      have hO2 : Aside0 (OwnAt kLoc 50 r w2 (.slice A0 xs.length c0) xs ∧ KT ST base w w2) := ⟨hO.out.1.keep hT.kt.out (by decide), hO.out.2.trans hT.kt.out⟩
      clear hT hcall hO hRt
      go_loopw [2, 4, 22] (fun o la i W => ∃ (k : Nat) (ks : List Int) (p : Int) (lk : List Int) (ek : Int), k ≤ n.toNat ∧ i = .int .i64 k ∧ la = .int .i64 p ∧ -1 ≤ p ∧ p ≤ 159 ∧ Aside0 (lastI ks = p) ∧ Aside0 (Ran (pGrow (fun xs => pAbove (lastI xs) 159) k) l2 e2 ks lk ek) ∧ IsRA 61 base W g lk ek ∧ Aside0 (OwnAt kLoc 50 r W o (xs ++ ks.map L2) ∧ KT ST base w W) ∧ Aside0 (ks.length = k)) (fun _ _ i _ => n.toNat - (intOf i).toNat)
      case atStart => exact ⟨0, [], -1, l2, e2, by omega, rfl, rfl, by decide, by decide, ⟨rfl⟩, ⟨Ran.grow0 _ _ _⟩, hR2, ⟨by simpa using hO2.out.1, hO2.out.2⟩, ⟨rfl⟩⟩
      case round =>
        clear hR2 hO2
        obtain ⟨k, ks, p, lk, ek, hk, rfl, rfl, hp0, hp1, hlast, hran, hRk, hOk, hks⟩ := hrel
        obtain ⟨ys, hys⟩ : ∃ ys, xs ++ ks.map L2 = ys := ⟨_, rfl⟩
        have hyl : ys.length ≤ 192 := by rw [← hys, List.length_append, List.length_map, hks.out]; omega
        rw [hys] at hOk
        replace hys := Aside0.mk hys
        by_cases hkn : (k : Int) < n
        · have hab := Aside0.mk (above_any p 159 hp0 hp1 (by decide) base g lk ek wr hRk)
          obtain ⟨A0, c0, rfl, _, _⟩ := hOk.out.1.reads
          go_upto_region 9 with (go_at_call 33; ((with_reducible refine hab.out.mono ?_); rintro ex w3 ⟨p2, rfl, hL, hp2, hp3⟩))
          obtain ⟨l3, e3, hran3, hR3⟩ := hL.ran
          have hO3 : Aside0 (OwnAt kLoc 50 r w3 (.slice A0 ys.length c0) ys ∧ KT ST base w w3) := ⟨hOk.out.1.keep hL.kt.out (by decide), hOk.out.2.trans hL.kt.out⟩
          have hr3 : r ≤ w3.heap.size := by rw [← hr0.out]; exact hO3.out.2.size
          go_wp2_with ((with_reducible refine gate_b (b := .append) rfl ?_); (refine app_loc_at_ (xs := ys) (⟨2, p2⟩ : SLoc) [.int .i64 2, .int .i64 p2] hO3.out.1 ⟨kLoc_mkM _ _ _ (⟨2, p2⟩ : SLoc)⟩ hr3 rfl _ _ rfl ?hl1 rfl rfl ?_); (case hl1 => omega); intro v1 w4 hO1 hK1)
          have hx : OwnAt kLoc 50 r w4 v1 (xs ++ (ks ++ [p2]).map L2) := by
            rw [List.map_append, ← List.append_assoc, hys.out]
            exact hO1
          go_roundw
          case rel =>
            obtain ⟨A1, c1, hr1⟩ := hR3.out
            exact ⟨k + 1, ks ++ [p2], p2, l3, e3, by omega, by go_num, rfl, by omega, hp3, ⟨by simp [lastI]⟩, ⟨hran.out.grow1 (by rw [hlast.out]; exact hran3.out)⟩, ⟨⟨_, _, hr1.keep (hK1.mono hbr (fun _ z => z)) (by decide) (by decide)⟩⟩, ⟨hx, hO3.out.2.after (by rw [hr0.out]; exact hK1.below) hbw⟩, ⟨by rw [List.length_append, hks.out]; rfl⟩⟩
          case measure => simp [intOf]; omega
        · have hkk : Aside0 (k = n.toNat) := ⟨by omega⟩
          go_wp2
          go_ret
          refine ⟨ys, _, rfl, ⟨⟨lk, ek, ⟨?_⟩, hRk⟩, ⟨hOk.out.2⟩⟩, by rw [hr0.out]; exact hOk.out.1, hyl⟩
          rw [← hys.out, ← hbits.out]
          exact hran1.out.bind (hran2.out.bind ((hkk.out ▸ hran.out).bind (Ran.ret _ _ _)))
    · obtain ⟨s, q, hsq⟩ := odd_part c (by omega)
      have hgo := hrest.out
      rw [hsq] at hgo
      replace hgo := Aside0.mk (hgo.go hmN)
      have htz := Aside0.mk (tz_any s q c base wr ⟨hG.out.below hO.out.2.below⟩ hsq hc)
      have ha : bits .and .u32 (c : Int) ((c : Int) - 1) = ((2 ^ s * (2 * q) : Nat) : Int) := by
        rw [show (c : Int) - 1 = ((c - 1 : Nat) : Int) by omega, and_u32 _ _ hc (by omega)]
        have := and_pred q s
        rw [← hsq] at this
        rw [this]
      obtain ⟨c2, hc2⟩ : ∃ c2, 2 ^ s * (2 * q) = c2 := ⟨_, rfl⟩
      rw [hc2] at ha hgo
      have hlt2 : c2 < c := by rw [← hc2, hsq]; have := Nat.two_pow_pos s; rw [Nat.mul_add]; omega
      have hs32 := hgo.out.2.1
      replace hsq := Aside0.mk hsq
      replace hc2 := Aside0.mk hc2
      have b0 : ((c : Int) != 0) = true := by simpa using hc0
      go_wp2_with (first | (go_at_call 60; ((with_reducible refine htz.out.mono ?_); rintro ex w2 ⟨rfl, rfl⟩)) | ((with_reducible refine gate_b (b := .append) rfl ?_); (refine app_loc_at_ (xs := xs) (⟨1, (s : Int)⟩ : SLoc) [.int .i64 1, .int .i64 s] hO.out.1 ⟨kLoc_mkM _ _ _ (⟨1, (s : Int)⟩ : SLoc)⟩ hrr rfl _ _ rfl ?hl1 rfl rfl ?_); (case hl1 => omega); intro v1 w3 hO1 hK1))
      have hx : OwnAt kLoc 50 r w3 v1 ((lowB mN (s + 1)).map L1) := by
        rw [hgo.out.2.2.1, List.map_append, hxs.out]
        exact hO1
      have hc2l : c2 < 4294967296 := Nat.lt_trans hlt2 hc
      go_roundw
      case rel =>
        obtain ⟨A1, c1, hr1⟩ := hRt.out
        exact ⟨s + 1, c2, rfl, by omega, hc2l, ⟨hgo.out.2.2.2⟩, ⟨⟨_, _, hr1.keep (hK1.mono hbr (fun _ z => z)) (by decide) (by decide)⟩⟩, ⟨hx, hO.out.2.after (by rw [hr0.out]; exact hK1.below) hbw⟩⟩
      case measure => simp [intOf]; omega
end Go.Proofs.YtceibabhmomfiaaDoor.H
