/- Texts of this work, joined: Px4. Conditions: each stands with its theorem. -/
import Derived.Test.YtceibabhmomfiaaDoorX19
import Derived.Deep.CutBlock
/- Layer 3, the reference: the reader's chart. -/
namespace Go.Proofs.YtceibabhmomfiaaDoor.H
open Go.RowKit Go.Proofs.YtceibabhmomfiaaDoorW.PrintWords Go.Proofs.YtceibabhmomfiaaDoorW.PrintLast
set_option linter.unusedVariables false
set_option linter.unusedSimpArgs false
set_option maxRecDepth 100000

/-- the chart that is made, at h; the answer's, at r -/
structure IsH (base r h : Nat) (w W : World) (a : Int) (v1 v2 : Value) (rs : List SLoc) (ds : List SPair) : Prop where
  blk : W.heap[h]? = some (.cells #[.int .i64 a, v1, v2] 36 (0, 0))
  res : W.heap[r]? = some (.cells #[.int .i64 0, .slice none 0 0, .slice none 0 0] 36 (0, 0))
  refs : OwnAt kLoc 50 h W v1 rs
  ders : OwnAt kPair 73 h W v2 ds
  kt : KT ST base w W
section
variable {base r h : Nat} {w W W1 : World} {a : Int} {v1 v2 : Value} {rs : List SLoc} {ds : List SPair}
theorem IsH.keep (H : IsH base r h w W a v1 v2 rs ds) (k : KT ST base W W1) : IsH base r h w W1 a v1 v2 rs ds :=
  ⟨k.blk H.blk (by decide), k.blk H.res (by decide), H.refs.keep k (by decide), H.ders.keep k (by decide), H.kt.trans k⟩
theorem IsH.step (H : IsH base r h w W a v1 v2 rs ds) (hb : base ≤ w.heap.size) (k : Bel W W1) : IsH base r h w W1 a v1 v2 rs ds :=
  H.keep (KT.of_bel k (Nat.le_trans hb H.kt.size) ST)
theorem IsH.size (H : IsH base r h w W a v1 v2 rs ds) : h ≤ W.heap.size := Nat.le_of_lt (blk_lt H.blk)
theorem IsH.setR (H : IsH base r h w W a v1 v2 rs ds) (hb : base ≤ w.heap.size) (hw : w.heap.size ≤ h) (hr : r < h) {v : Value} {rs' : List SLoc} (k : KT [50] h W W1) (ho : OwnAt kLoc 50 h W1 v rs') :
    IsH base r h w (W1.setCell ⟨h, 1, none⟩ v) a v v2 rs' ds ∧ KT [50, 36] h W (W1.setCell ⟨h, 1, none⟩ v) := by
  have hb1 := k.blk H.blk (by decide)
  have ks : KT [36] h W1 (W1.setCell ⟨h, 1, none⟩ v) := KT.set hb1 (by decide) (Nat.le_refl _) 1 v
  exact ⟨⟨blk_put hb1 1 v rfl, (Below.heap_setCell W1 ⟨h, 1, none⟩ v r (Nat.ne_of_lt hr)).trans (k.blk H.res (by decide)), ho.keep ks (by decide), (H.ders.keep k (by decide)).keep ks (by decide), (H.kt.after (k.below.mono hw) hb).after (ks.below.mono hw) hb⟩, (k.mono (Nat.le_refl _) (by decide)).trans (ks.mono (Nat.le_refl _) (by decide))⟩
theorem IsH.setD (H : IsH base r h w W a v1 v2 rs ds) (hb : base ≤ w.heap.size) (hw : w.heap.size ≤ h) (hr : r < h) {v : Value} {ds' : List SPair} (k : KT [73] h W W1) (ho : OwnAt kPair 73 h W1 v ds') :
    IsH base r h w (W1.setCell ⟨h, 2, none⟩ v) a v1 v rs ds' ∧ KT [73, 36] h W (W1.setCell ⟨h, 2, none⟩ v) := by
  have hb1 := k.blk H.blk (by decide)
  have ks : KT [36] h W1 (W1.setCell ⟨h, 2, none⟩ v) := KT.set hb1 (by decide) (Nat.le_refl _) 2 v
  exact ⟨⟨blk_put hb1 2 v rfl, (Below.heap_setCell W1 ⟨h, 2, none⟩ v r (Nat.ne_of_lt hr)).trans (k.blk H.res (by decide)), (H.refs.keep k (by decide)).keep ks (by decide), ho.keep ks (by decide), (H.kt.after (k.below.mono hw) hb).after (ks.below.mono hw) hb⟩, (k.mono (Nat.le_refl _) (by decide)).trans (ks.mono (Nat.le_refl _) (by decide))⟩
theorem IsH.put {q : Nat} (H : IsH base r h w W a v1 v2 rs ds) (D : OwnLt kPair 73 h q W v2 ds) (hb : base ≤ w.heap.size) (hw : w.heap.size ≤ q) (hr : r < h) (hq : h < q) (k : KT [73] q W W1) :
    IsH base r h w W1 a v1 v2 rs ds ∧ OwnLt kPair 73 h q W1 v2 ds :=
  ⟨⟨(k.below.block h hq).trans H.blk, (k.below.block r (by omega)).trans H.res, H.refs.keep k (by decide), (D.above k.below).at_, H.kt.after (k.below.mono hw) hb⟩, D.above k.below⟩
end
theorem putAll {W : World} {r : Nat} {v0 v1 v2 a0 a1 a2 : Value} (h : W.heap[r]? = some (.cells #[a0, a1, a2] 36 (0, 0))) :
    (((W.setCell ⟨r, 0, none⟩ v0).setCell ⟨r, 1, none⟩ v1).setCell ⟨r, 2, none⟩ v2).heap[r]? = some (.cells #[v0, v1, v2] 36 (0, 0)) ∧
    ∀ b, b ≤ r → KT [36] b W (((W.setCell ⟨r, 0, none⟩ v0).setCell ⟨r, 1, none⟩ v1).setCell ⟨r, 2, none⟩ v2) := by
  have h0 := blk_put (cs' := #[v0, a1, a2]) h 0 v0 rfl
  have h1 := blk_put (cs' := #[v0, v1, a2]) h0 1 v1 rfl
  have h2 := blk_put (cs' := #[v0, v1, v2]) h1 2 v2 rfl
  exact ⟨h2, fun b hb => ((KT.set h (by decide) hb 0 _).trans (KT.set h0 (by decide) hb 1 _)).trans (KT.set h1 (by decide) hb 2 _)⟩
theorem and_one_i64 (a : Nat) (h : a < 9223372036854775808) : bits .and .i64 (a : Int) 1 = ((a % 2 : Nat) : Int) := by
  show IntKind.i64.wrap ((BitVec.ofInt 64 a &&& BitVec.ofInt 64 1).toNat : Int) = _
  rw [BitVec.toNat_and, BitVec.toNat_ofInt, BitVec.toNat_ofInt, IntKind.wrap_i64]
  have e1 : ((a : Int) % ((2 ^ 64 : Nat) : Int)).toNat = a := by omega
  have e2 : ((1 : Int) % ((2 ^ 64 : Nat) : Int)).toNat = 1 := by decide
  rw [e1, e2, Nat.and_one_is_mod]
  omega
theorem bit_is (m k : Nat) (h : m < 4294967296) : (bits .and .i64 ((m : Int) / 2 ^ k) 1 == 1) = m.testBit k := by
  have e : (m : Int) / 2 ^ k = ((m / 2 ^ k : Nat) : Int) := by push_cast; rfl
  have hle : m / 2 ^ k ≤ m := Nat.div_le_self _ _
  rw [e, and_one_i64 _ (by omega), Nat.testBit_eq_decide_div_mod_eq]
  by_cases q : m / 2 ^ k % 2 = 1
  · simp [q]
  · have : m / 2 ^ k % 2 = 0 := by omega
    simp [this]
set_option maxHeartbeats 4000000 in
theorem rchart_any (last : Int) (h0 : 0 ≤ last) (h1 : last ≤ 1099511627776) (base g : Nat) (l : List Int) (e : Int) (w : World) (hR : IsRA 68 base w g l e) :
    Calls Tryd.prog 38 #[.pointer (some ⟨g, 0, none⟩), .int .i64 last] w fun ex w' => ∃ (x : SChart) (v1 v2 : Value), ex = .returned (.agg #[.int .i64 x.f0, v1, v2]) ∧ Left (pChart last) 68 base w g l e x w' ∧ OwnAt kLoc 50 w.heap.size w' v1 x.f1 ∧ OwnAt kPair 73 w.heap.size w' v2 x.f2 ∧ last ≤ x.f0 ∧ x.f0 ≤ 1099511627776 := by
  obtain ⟨A, c, hr⟩ := hR.out
  have hbw := hr.lt
  have hB0 : Bel w (w.alloc (.cells #[.int .i64 0, .slice none 0 0, .slice none 0 0] 36)) := (Bel.refl w).alloc _
  have hcall := Aside0.mk (rabove_any last 1099511627776 (by omega) h1 (by decide) base g l e _ ⟨⟨A, c, hr.step hB0⟩⟩)
  have box := Aside0.mk (heap_alloc_new w (.cells #[.int .i64 0, .slice none 0 0, .slice none 0 0] 36))
  clear hr
  go_enter Tryd.func38, Tryd.ntmps38
  go_upto_region 2 with (go_at_call 65; ((with_reducible refine hcall.out.mono ?_); rintro ex w1 ⟨a, rfl, hL, ha0, ha1⟩))
  obtain ⟨l1, e1, hran1, hR1⟩ := hL.ran
  obtain ⟨A1, c1, hr1⟩ := hR1.out
  obtain ⟨r, hr0⟩ : ∃ r, w.heap.size = r := ⟨_, rfl⟩
  have hk1 := (KT.of_bel hB0 hbw ST).trans hL.kt.out
  have hb1 := hL.kt.out.blk box.out (by decide)
  have hBa : Bel w1 (w1.alloc (.cells #[.int .i64 a, .slice none 0 0, .slice none 0 0] 36)) := (Bel.refl w1).alloc _
  have hba := heap_alloc_new w1 (.cells #[.int .i64 a, .slice none 0 0, .slice none 0 0] 36)
  generalize w1.alloc (.cells #[.int .i64 a, .slice none 0 0, .slice none 0 0] 36) = wa at hBa hba ⊢
  obtain ⟨h, hh⟩ : ∃ h, w1.heap.size = h := ⟨_, rfl⟩
  rw [hh] at hba ⊢
  rw [hr0] at hb1 ⊢
  have hrh : r < h := by rw [← hh]; exact blk_lt hb1
  have hka := hk1.trans (KT.of_bel hBa (Nat.le_trans hbw hk1.size) ST)
  have hbr : base ≤ r := by rw [← hr0]; exact hbw
  have hwh : w.heap.size ≤ h := by rw [hr0]; exact Nat.le_of_lt hrh
  have hbh : base ≤ h := Nat.le_trans hbr (Nat.le_of_lt hrh)
  have hra := hr1.step hBa
  have hrb := bel_blk hb1 hBa
  have hH := Aside0.mk (IsH.mk (base := base) hba hrb (OwnAt.nil _ _ _ _) (OwnAt.nil _ _ _ _) hka)
  have hnum := Aside0.mk (rnum_any 4294967295 5 (by decide) (by decide) (by decide) base g l1 e1 wa ⟨⟨_, _, hra⟩⟩)
  replace hr0 := Aside0.mk hr0
  replace hh := Aside0.mk hh
  clear hL hR1 hr1 hcall box hB0 hk1 hb1 hBa hba hka hra hrb hR
  go_wp2_with (go_at_call 37; ((with_reducible refine hnum.out.mono ?_); rintro ex w2 ⟨m, rfl, hT, hm1⟩))
  obtain ⟨l2, e2, hran2, hR2, _⟩ := hT.ran
  have hm0 := hT.ge
  obtain ⟨mN, rfl⟩ := Int.eq_ofNat_of_zero_le hm0
  have hmN : mN < 4294967296 := by omega
  have hH2 := Aside0.mk (IsH.mk (hT.kt.out.blk hH.out.blk (by decide)) (hT.kt.out.blk hH.out.res (by decide)) (hH.out.refs.keep hT.kt.out (by decide)) (hH.out.ders.keep hT.kt.out (by decide)) (hH.out.kt.trans hT.kt.out))
  clear hT hnum hH
  go_loopw [7] (fun i W => ∃ (k : Nat) (v1 : Value), k ≤ 32 ∧ i = .int .i64 k ∧ IsRA 68 base W g l2 e2 ∧ Aside0 (IsH base r h w W a v1 (.slice none 0 0) ((lowB mN k).map L1) [])) (fun i _ => 32 - (intOf i).toNat)
  case atStart => exact ⟨0, .slice none 0 0, by omega, rfl, hR2, hH2⟩
  case round =>
    clear hR2 hH2
    obtain ⟨k, v1, hk, rfl, hRk, hHk⟩ := hrel
    by_cases hk32 : k < 32
    · have hbit := bit_is mN k hmN
      have hls := lowB_succ mN k
      have hxl : ((lowB mN k).map L1).length ≤ 32 := by rw [List.length_map]; exact Nat.le_trans (lowB_len _ _) hk
      obtain ⟨xs, hxs⟩ : ∃ xs, (lowB mN k).map L1 = xs := ⟨_, rfl⟩
      rw [hxs] at hHk hxl
      replace hxs := Aside0.mk hxs
      have hhw := hHk.out.size
      have q1 := blk_cell hHk.out.blk 1
      obtain ⟨A3, c3, rfl, _, _⟩ := hHk.out.refs.reads
      cases hb : mN.testBit k with
      | true =>
        rw [hb] at hbit hls
        replace hls := Aside0.mk hls
        replace hb := Aside0.mk hb
        go_wp2_with ((with_reducible refine gate_b (b := .append) rfl ?_); (refine app_loc_at_ (xs := xs) (⟨1, (k : Int)⟩ : SLoc) [.int .i64 1, .int .i64 k] hHk.out.refs ⟨kLoc_mkM _ _ _ (⟨1, (k : Int)⟩ : SLoc)⟩ hhw rfl _ _ rfl ?hl1 rfl rfl ?_); (case hl1 => omega); intro v3 w3 hO1 hK1; have fz := blk_frozen (hK1.blk hHk.out.blk (by decide)) 1; have cz := blk_cell (hK1.blk hHk.out.blk (by decide)) 1; obtain ⟨A4, c4, rfl, _, _⟩ := hO1.reads)
        go_roundw
        case rel =>
          have hs := hHk.out.setR hbw hwh hrh hK1 hO1
          simp only [List.length_append, List.length_cons, List.length_nil, Nat.zero_add] at hs
          obtain ⟨A5, c5, hr5⟩ := hRk.out
          refine ⟨k + 1, .slice A4 (xs.length + 1) c4, by omega, by go_num, ⟨⟨_, _, hr5.keep (hs.2.mono hbh (fun _ z => z)) (by decide) (by decide)⟩⟩, ⟨?_⟩⟩
          rw [hls.out, if_pos rfl, List.map_append, hxs.out]
          exact hs.1
        case measure => simp [intOf]; omega
      | false =>
        rw [hb] at hbit hls
        replace hls := Aside0.mk hls
        replace hb := Aside0.mk hb
        go_wp2
        go_roundw
        case rel => exact ⟨k + 1, _, by omega, by go_num, hRk, ⟨by rw [hls.out, if_neg (by decide), List.append_nil, hxs.out]; exact hHk.out⟩⟩
        case measure => simp [intOf]; omega
    · have hk32' : k = 32 := by omega
      subst hk32'
      obtain ⟨bs, hbs⟩ : ∃ bs, bitsOf (mN : Int) = bs := ⟨_, rfl⟩
      have hbl : bs.length ≤ 32 := by rw [← hbs, bitsOf_low, List.length_map]; exact lowB_len _ _
      have hH3 : Aside0 (IsH base r h w wr a v1 (.slice none 0 0) bs []) := ⟨by rw [← hbs, bitsOf_low]; exact hHk.out⟩
      replace hbs := Aside0.mk hbs
      have hnum := Aside0.mk (rnum_any 160 9 (by decide) (by decide) (by decide) base g l2 e2 wr hRk)
      clear hHk
      go_wp2_with (go_at_call 37; ((with_reducible refine hnum.out.mono ?_); rintro ex w3 ⟨n, rfl, hT, hn1⟩))
      obtain ⟨l3, e3, hran3, hR3, _⟩ := hT.ran
      have hn0 := hT.ge
      have hH4 := Aside0.mk (hH3.out.keep hT.kt.out)
      clear hT hnum hH3 hRk
      go_loopw [8, 9] (fun la i W => ∃ (j : Nat) (n2 p : Int) (ks : List Int) (v1 : Value) (lk : List Int) (ek : Int), j ≤ n.toNat ∧ i = .int .i64 n2 ∧ n2 ≤ n - j ∧ n - j ≤ n2 ∧ la = .int .i64 p ∧ -1 ≤ p ∧ p ≤ 159 ∧ Aside0 (lastI ks = p) ∧ Aside0 (Ran (pGrow (fun xs => pAbove (lastI xs) 159) j) l3 e3 ks lk ek) ∧ IsRA 68 base W g lk ek ∧ Aside0 (IsH base r h w W a v1 (.slice none 0 0) (bs ++ ks.map L2) []) ∧ Aside0 (ks.length = j)) (fun _ i _ => (intOf i).toNat)
      case atStart => exact ⟨0, n, -1, [], v1, l3, e3, by omega, rfl, by omega, by omega, rfl, by decide, by decide, ⟨rfl⟩, ⟨Ran.grow0 _ _ _⟩, hR3, ⟨by simpa using hH4.out⟩, ⟨rfl⟩⟩
      case round =>
        clear hR3 hH4
        obtain ⟨j, n2, p, ks, v1, lk, ek, hj, rfl, hn2, hn3, rfl, hp0, hp1, hlast, hran, hRk, hHk, hks⟩ := hrel
        have hxl : (bs ++ ks.map L2).length ≤ 192 := by rw [List.length_append, List.length_map, hks.out]; omega
        obtain ⟨xs, hxs⟩ : ∃ xs, bs ++ ks.map L2 = xs := ⟨_, rfl⟩
        rw [hxs] at hHk hxl
        replace hxs := Aside0.mk hxs
        have hhw := hHk.out.size
        obtain ⟨A2, c2, hr2⟩ := hRk.out
        have y1 : wr.cell? ⟨g, 1, none⟩ = some (.int .i64 ek) := blk_cell hr2.blk 1
        clear hr2
        obtain ⟨A3, c3, rfl, _, _⟩ := hHk.out.refs.reads
        go_upto_region 10 with (fail)
        go_cut [45] (fun t W => ∃ b, t = .bool b ∧ Aside0 (b = decide ((0 < n2) ∧ (ek) = 0)) ∧ wr = W)
        case first =>
          by_cases h1 : 0 < n2
          · by_cases he : (ek) = 0
            · have b1 : ((ek) == 0) = true := by simpa using he
              have hb : Aside0 (decide ((0 < n2) ∧ (ek) = 0) = true) := ⟨decide_eq_true ⟨h1, he⟩⟩
              replace he := Aside0.mk he
              go_wp2
              go_meet
              case rel => exact ⟨_, rfl, ⟨hb.out.symm⟩, rfl⟩
            · have b1 : ((ek) == 0) = false := by simpa using he
              have hb : Aside0 (decide ((0 < n2) ∧ (ek) = 0) = false) := ⟨decide_eq_false (fun q => he q.2)⟩
              replace he := Aside0.mk he
              go_wp2
              go_meet
              case rel => exact ⟨_, rfl, ⟨hb.out.symm⟩, rfl⟩
          · have hb : Aside0 (decide ((0 < n2) ∧ (ek) = 0) = false) := ⟨decide_eq_false (fun q => h1 q.1)⟩
            go_wp2
            go_meet
            case rel => exact ⟨_, rfl, ⟨hb.out.symm⟩, rfl⟩
        obtain ⟨b, rfl, hb, rfl⟩ := hcut
        cases b with
        | true =>
          have hc1 := (of_decide_eq_true hb.out.symm).1
          clear hb
          have hab := Aside0.mk (rabove_any p 159 hp0 hp1 (by decide) base g lk ek wr hRk)
          go_upto_region 13 with (go_at_call 65; ((with_reducible refine hab.out.mono ?_); rintro ex w4 ⟨p2, rfl, hL, hp2, hp3⟩))
          obtain ⟨l4, e4, hran4, hR4⟩ := hL.ran
          have hH5 := Aside0.mk (hHk.out.keep hL.kt.out)
          have hhw4 := hH5.out.size
          have q1 := blk_cell hH5.out.blk 1
          clear hL hab hHk hRk y1
          go_wp2_with ((with_reducible refine gate_b (b := .append) rfl ?_); (refine app_loc_at_ (xs := xs) (⟨2, p2⟩ : SLoc) [.int .i64 2, .int .i64 p2] hH5.out.refs ⟨kLoc_mkM _ _ _ (⟨2, p2⟩ : SLoc)⟩ hhw4 rfl _ _ rfl ?hl1 rfl rfl ?_); (case hl1 => omega); intro v3 w5 hO1 hK1; have fz := blk_frozen (hK1.blk hH5.out.blk (by decide)) 1; have cz := blk_cell (hK1.blk hH5.out.blk (by decide)) 1; obtain ⟨A4, c4, rfl, _, _⟩ := hO1.reads)
          go_roundw
          case rel =>
            have hs := hH5.out.setR hbw hwh hrh hK1 hO1
            simp only [List.length_append, List.length_cons, List.length_nil, Nat.zero_add] at hs
            obtain ⟨A5, c5, hr5⟩ := hR4.out
            refine ⟨j + 1, n2 - 1, p2, ks ++ [p2], .slice A4 (xs.length + 1) c4, l4, e4, by omega, by go_num, by omega, by omega, rfl, by omega, hp3, ⟨by simp [lastI]⟩, ⟨hran.out.grow1 (by rw [hlast.out]; exact hran4.out)⟩, ⟨⟨_, _, hr5.keep (hs.2.mono hbh (fun _ z => z)) (by decide) (by decide)⟩⟩, ⟨?_⟩, ⟨by rw [List.length_append, hks.out]; rfl⟩⟩
            rw [List.map_append, ← List.append_assoc, hxs.out]
            exact hs.1
          case measure => simp [intOf]; omega
        | false =>
          have hfin : Aside0 (Ran (pGrow (fun xs => pAbove (lastI xs) 159) n.toNat) l3 e3 ks lk ek) := ⟨by
            have hc := of_decide_eq_false hb.out.symm
            by_cases hek : ek = 0
            · have : j = n.toNat := by have : ¬ 0 < n2 := fun q => hc ⟨q, hek⟩; omega
              rw [← this]; exact hran.out
            · exact hran.out.growEarly hek hj ks⟩
          have hrefs : Aside0 (Ran pRefs l1 e1 xs lk ek) := ⟨by
            rw [← hxs.out, ← hbs.out]
            exact hran2.out.bind (hran3.out.bind (hfin.out.bind (Ran.ret _ _ _)))⟩
          clear hfin hran hlast hks hn2 hn3 hb
          have hnum := Aside0.mk (rnum_any 192 9 (by decide) (by decide) (by decide) base g lk ek wr hRk)
          go_wp2_with (go_at_call 37; ((with_reducible refine hnum.out.mono ?_); rintro ex w5 ⟨nd, rfl, hT, hnd1⟩))
          obtain ⟨l5, e5, hran5, hR5, _⟩ := hT.ran
          have hnd0 := hT.ge
          have hH5 := Aside0.mk (hHk.out.keep hT.kt.out)
          clear hT hnum hHk hRk y1
          go_loopw [10] (fun i W => ∃ (j : Nat) (n2 : Int) (ds : List SPair) (v2 : Value) (lk : List Int) (ek : Int), j ≤ nd.toNat ∧ i = .int .i64 n2 ∧ n2 ≤ nd - j ∧ nd - j ≤ n2 ∧ Aside0 (Ran (pGrow (pPair xs) j) l5 e5 ds lk ek) ∧ IsRA 68 base W g lk ek ∧ Aside0 (IsH base r h w W a (.slice A3 xs.length c3) v2 xs ds) ∧ Aside0 (ds.length = j)) (fun i _ => (intOf i).toNat)
          case atStart => exact ⟨0, nd, [], .slice none 0 0, l5, e5, by omega, rfl, by omega, by omega, ⟨Ran.grow0 _ _ _⟩, hR5, hH5, ⟨rfl⟩⟩
          case round =>
            clear hR5 hH5 hk hj hk32
            obtain ⟨j, n2, ds, v2, lk, ek, hj, rfl, hn2, hn3, hran, hRk, hHk, hdk⟩ := hrel
            have hdl : ds.length ≤ 192 := by rw [hdk.out]; omega
            obtain ⟨A2, c2, hr2⟩ := hRk.out
            have y1 : wr.cell? ⟨g, 1, none⟩ = some (.int .i64 ek) := blk_cell hr2.blk 1
            clear hr2
            obtain ⟨A4, c4, rfl, _, _⟩ := hHk.out.ders.reads
            go_upto_region 15 with (fail)
            go_cut [68] (fun t W => ∃ b, t = .bool b ∧ Aside0 (b = decide ((0 < n2) ∧ (ek) = 0)) ∧ wr = W)
            case first =>
              by_cases h1 : 0 < n2
              · by_cases he : (ek) = 0
                · have b1 : ((ek) == 0) = true := by simpa using he
                  have hb : Aside0 (decide ((0 < n2) ∧ (ek) = 0) = true) := ⟨decide_eq_true ⟨h1, he⟩⟩
                  replace he := Aside0.mk he
                  go_wp2
                  go_meet
                  case rel => exact ⟨_, rfl, ⟨hb.out.symm⟩, rfl⟩
                · have b1 : ((ek) == 0) = false := by simpa using he
                  have hb : Aside0 (decide ((0 < n2) ∧ (ek) = 0) = false) := ⟨decide_eq_false (fun q => he q.2)⟩
                  replace he := Aside0.mk he
                  go_wp2
                  go_meet
                  case rel => exact ⟨_, rfl, ⟨hb.out.symm⟩, rfl⟩
              · have hb : Aside0 (decide ((0 < n2) ∧ (ek) = 0) = false) := ⟨decide_eq_false (fun q => h1 q.1)⟩
                go_wp2
                go_meet
                case rel => exact ⟨_, rfl, ⟨hb.out.symm⟩, rfl⟩
            obtain ⟨b, rfl, hb, rfl⟩ := hcut
            cases b with
            | true =>
              have hc1 := (of_decide_eq_true hb.out.symm).1
              clear hb y1
              have hloc := Aside0.mk (rloc_any base g lk ek wr hRk)
              go_upto_block 6 with (go_at_call 66; ((with_reducible refine hloc.out.mono ?_); rintro ex w6 ⟨x, rfl, hL⟩))
              obtain ⟨l6, e6, hran6, hR6⟩ := hL.ran
              obtain ⟨A6, c6, hr6⟩ := hR6.out
              have hBb : Bel w6 (w6.alloc (.cells #[.int .i64 x.f0, .int .i64 x.f1, .int .i64 0, .int .i64 0] 73)) := (Bel.refl w6).alloc _
              have hbb := heap_alloc_new w6 (.cells #[.int .i64 x.f0, .int .i64 x.f1, .int .i64 0, .int .i64 0] 73)
              have hH6 := hHk.out.keep hL.kt.out
              generalize w6.alloc (.cells #[.int .i64 x.f0, .int .i64 x.f1, .int .i64 0, .int .i64 0] 73) = wb at hBb hbb ⊢
              obtain ⟨q, hq⟩ : ∃ q, w6.heap.size = q := ⟨_, rfl⟩
              rw [hq] at hbb ⊢
              have hhq : h < q := by rw [← hq]; exact blk_lt hH6.blk
              have hD7 := Aside0.mk ((hH6.ders.lt hq).step hBb)
              have hH7 := Aside0.mk (hH6.step hbw hBb)
              have hr7 := Aside0.mk (hr6.step hBb)
              have hwb := hr7.out.lt
              replace hbb := Aside0.mk hbb
              replace hq := Aside0.mk hq
              clear hL hloc hR6 hr6 hBb hH6 hHk hRk
              have hF := Aside0.mk (fun (W : World) (k : KT ST base wb W) => show W.cell? ⟨h, 1, none⟩ = some (.slice A3 xs.length c3) ∧ W.cell? ⟨h, 2, none⟩ = some (.slice A4 ds.length c4) ∧ W.cell? ⟨q, 0, none⟩ = some (.int .i64 x.f0) ∧ W.cell? ⟨q, 1, none⟩ = some (.int .i64 x.f1) from
                ⟨blk_cell (k.blk hH7.out.blk (by decide)) 1, blk_cell (k.blk hH7.out.blk (by decide)) 2, blk_cell (k.blk hbb.out (by decide)) 0, blk_cell (k.blk hbb.out (by decide)) 1⟩)
              have hK7 := Aside0.mk (fun (W : World) (k : Bel wb W) => KT.of_bel k hwb ST)
              go_cut [74] (fun _ W => ∃ e7 e8, Aside0 (Ran (pChk (decide (x ∈ xs)) 5) l6 e6 () l6 e7 ∧ Ran (pChk (ds.getLast?.any fun y => !befL y.f0 x) 10) l6 e7 () l6 e8 ∧ IsR 68 base W g l6 e8 A6 c6 ∧ KT ST base wb W))
              case first =>
                have y1 : wb.cell? ⟨g, 1, none⟩ = some (.int .i64 e6) := blk_cell hr7.out.blk 1
                obtain ⟨f1, f2, f3, f4⟩ := hF.out wb (KT.refl _ _ _)
                by_cases he : e6 = 0
                · subst he
                  have hhs := Aside0.mk (rhas_any A3 c3 xs x wb hH7.out.refs.rdOf (by omega))
                  by_cases hx : x ∈ xs
                  · have hdx : decide (x ∈ xs) = true := decide_eq_true hx
                    rw [hdx] at hhs
                    have hch : Aside0 (Ran (pChk (decide (x ∈ xs)) 5) l6 0 () l6 5) := ⟨by rw [hdx]; exact Ran.chk true (by decide) l6 0⟩
                    replace hdx := Aside0.mk hdx
                    replace hx := Aside0.mk hx
                    go_wp2_with (go_at_call 67; ((with_reducible refine hhs.out.mono ?_); rintro ex w8 ⟨rfl, hB8⟩; have hr8 := hr7.out.step hB8; have f1' := blk_frozen hr8.blk 1; have f2' := blk_cell hr8.blk 1))
                    go_meet
                    case rel =>
                      have hs := (hr7.out.step hB8).setE (by decide) 5
                      exact ⟨5, 5, ⟨hch.out, Ran.bad_ _ _ (by decide) _ _, hs.1, (hK7.out _ hB8).trans hs.2⟩⟩
                  · have hdx : decide (x ∈ xs) = false := decide_eq_false hx
                    rw [hdx] at hhs
                    have hch : Aside0 (Ran (pChk (decide (x ∈ xs)) 5) l6 0 () l6 0) := ⟨by rw [hdx]; exact Ran.chk false (by decide) l6 0⟩
                    replace hdx := Aside0.mk hdx
                    replace hx := Aside0.mk hx
                    go_upto_region 21 with (go_at_call 67; ((with_reducible refine hhs.out.mono ?_); rintro ex w8 ⟨rfl, hB8⟩))
                    have hBd : Bel wb w8.drew := hB8.trans ((Bel.refl w8).drewN 1)
                    by_cases h0 : ds.length = 0
                    · have hch2 : Aside0 (Ran (pChk (ds.getLast?.any fun y => !befL y.f0 x) 10) l6 0 () l6 0) := ⟨by rw [List.eq_nil_of_length_eq_zero h0]; exact Ran.chk false (by decide) l6 0⟩
                      have hd0 : decide (0 < ds.length) = false := decide_eq_false (by omega)
                      replace h0 := Aside0.mk h0
                      refine wp_region_held_drew (S := fun w' => Bel wb w' ∧ w'.cell? ⟨h, 2, none⟩ = some (.slice A4 ds.length c4) ∧ w'.cell? ⟨q, 0, none⟩ = some (.int .i64 x.f0) ∧ w'.cell? ⟨q, 1, none⟩ = some (.int .i64 x.f1)) (by kernel_rfl) ⟨hBd, (hF.out _ (hK7.out _ hBd)).2⟩ (fun hHeld => ?_)
                      refine wpAnyH_take (i := 0) (v := ?_) rfl (by kernel_rfl) (by kernel_rfl) (by kernel_rfl) (fun _ _ _ h => h) (Or.inl ⟨by kernel_rfl, ?_⟩) hHeld ?_
                      rotate_left 1
                      focus (intro w hSw; (try dsimp only at hSw); go_simp; (try with_reducible rfl); done)
                      try simp only [Act.put, List.getElem_toArray, List.getElem_cons_zero, List.getElem_cons_succ, List.setIfInBounds_toArray, List.set_cons_zero, List.set_cons_succ]
                      refine wpAnyH_take (i := 1) (v := ?_) rfl (by kernel_rfl) (by kernel_rfl) (by kernel_rfl) (fun _ _ _ h => h) (Or.inl ⟨by kernel_rfl, ?_⟩) hHeld ?_
                      rotate_left 1
                      focus (intro w hSw; (try dsimp only at hSw); go_simp; (try with_reducible rfl); done)
                      try simp only [Act.put, List.getElem_toArray, List.getElem_cons_zero, List.getElem_cons_succ, List.setIfInBounds_toArray, List.set_cons_zero, List.set_cons_succ]
                      refine wpAnyH_take (i := 2) (v := ?_) rfl (by kernel_rfl) (by kernel_rfl) (by kernel_rfl) (fun _ _ _ h => h) (Or.inl ⟨by kernel_rfl, ?_⟩) hHeld ?_
                      rotate_left 1
                      focus (intro w hSw; (try dsimp only at hSw); go_simp; (try with_reducible rfl); done)
                      try simp only [Act.put, List.getElem_toArray, List.getElem_cons_zero, List.getElem_cons_succ, List.setIfInBounds_toArray, List.set_cons_zero, List.set_cons_succ]
                      refine wpAnyH_take (i := 3) (v := ?_) rfl (by kernel_rfl) (by kernel_rfl) (by kernel_rfl) (fun _ _ _ h => h) (Or.inl ⟨by kernel_rfl, ?_⟩) hHeld ?_
                      rotate_left 1
                      focus (intro w hSw; (try dsimp only at hSw); go_simp; (try with_reducible rfl); done)
                      try simp only [Act.put, List.getElem_toArray, List.getElem_cons_zero, List.getElem_cons_succ, List.setIfInBounds_toArray, List.set_cons_zero, List.set_cons_succ]
                      refine wpAnyH_take (i := 4) (v := ?_) rfl (by kernel_rfl) (by kernel_rfl) (by kernel_rfl) (fun _ _ _ h => h) (Or.inl ⟨by kernel_rfl, ?_⟩) hHeld ?_
                      rotate_left 1
                      focus (intro w hSw; (try dsimp only at hSw); go_simp; (try with_reducible rfl); done)
                      try simp only [Act.put, List.getElem_toArray, List.getElem_cons_zero, List.getElem_cons_succ, List.setIfInBounds_toArray, List.set_cons_zero, List.set_cons_succ]
                      refine wpAnyH_take (i := 5) (v := undef) rfl (by kernel_rfl) (by kernel_rfl) (by kernel_rfl) (fun _ _ _ h => h) (Or.inr ⟨by kernel_rfl, rfl⟩) hHeld ?_
                      try simp only [Act.put, List.getElem_toArray, List.getElem_cons_zero, List.getElem_cons_succ, List.setIfInBounds_toArray, List.set_cons_zero, List.set_cons_succ]
                      refine wpAnyH_take (i := 6) (v := undef) rfl (by kernel_rfl) (by kernel_rfl) (by kernel_rfl) (fun _ _ _ h => h) (Or.inr ⟨by kernel_rfl, rfl⟩) hHeld ?_
                      try simp only [Act.put, List.getElem_toArray, List.getElem_cons_zero, List.getElem_cons_succ, List.setIfInBounds_toArray, List.set_cons_zero, List.set_cons_succ]
                      refine wpAnyH_take (i := 7) (v := undef) rfl (by kernel_rfl) (by kernel_rfl) (by kernel_rfl) (fun _ _ _ h => h) (Or.inr ⟨by kernel_rfl, rfl⟩) hHeld ?_
                      try simp only [Act.put, List.getElem_toArray, List.getElem_cons_zero, List.getElem_cons_succ, List.setIfInBounds_toArray, List.set_cons_zero, List.set_cons_succ]
                      refine wpAnyH_take (i := 8) (v := undef) rfl (by kernel_rfl) (by kernel_rfl) (by kernel_rfl) (fun _ _ _ h => h) (Or.inr ⟨by kernel_rfl, rfl⟩) hHeld ?_
                      try simp only [Act.put, List.getElem_toArray, List.getElem_cons_zero, List.getElem_cons_succ, List.setIfInBounds_toArray, List.set_cons_zero, List.set_cons_succ]
                      refine wpAnyH_take (i := 9) (v := undef) rfl (by kernel_rfl) (by kernel_rfl) (by kernel_rfl) (fun _ _ _ h => h) (Or.inr ⟨by kernel_rfl, rfl⟩) hHeld ?_
                      try simp only [Act.put, List.getElem_toArray, List.getElem_cons_zero, List.getElem_cons_succ, List.setIfInBounds_toArray, List.set_cons_zero, List.set_cons_succ]
                      refine wpAnyH_take (i := 10) (v := undef) rfl (by kernel_rfl) (by kernel_rfl) (by kernel_rfl) (fun _ _ _ h => h) (Or.inr ⟨by kernel_rfl, rfl⟩) hHeld ?_
                      try simp only [Act.put, List.getElem_toArray, List.getElem_cons_zero, List.getElem_cons_succ, List.setIfInBounds_toArray, List.set_cons_zero, List.set_cons_succ]
                      refine wpAnyH_take (i := 11) (v := undef) rfl (by kernel_rfl) (by kernel_rfl) (by kernel_rfl) (fun _ _ _ h => h) (Or.inr ⟨by kernel_rfl, rfl⟩) hHeld ?_
                      try simp only [Act.put, List.getElem_toArray, List.getElem_cons_zero, List.getElem_cons_succ, List.setIfInBounds_toArray, List.set_cons_zero, List.set_cons_succ]
                      refine wpAnyH_take (i := 12) (v := undef) rfl (by kernel_rfl) (by kernel_rfl) (by kernel_rfl) (fun _ _ _ h => h) (Or.inr ⟨by kernel_rfl, rfl⟩) hHeld ?_
                      try simp only [Act.put, List.getElem_toArray, List.getElem_cons_zero, List.getElem_cons_succ, List.setIfInBounds_toArray, List.set_cons_zero, List.set_cons_succ]
                      refine wpAnyH_take (i := 13) (v := undef) rfl (by kernel_rfl) (by kernel_rfl) (by kernel_rfl) (fun _ _ _ h => h) (Or.inr ⟨by kernel_rfl, rfl⟩) hHeld ?_
                      try simp only [Act.put, List.getElem_toArray, List.getElem_cons_zero, List.getElem_cons_succ, List.setIfInBounds_toArray, List.set_cons_zero, List.set_cons_succ]
                      refine wpAnyH_take (i := 14) (v := undef) rfl (by kernel_rfl) (by kernel_rfl) (by kernel_rfl) (fun _ _ _ h => h) (Or.inr ⟨by kernel_rfl, rfl⟩) hHeld ?_
                      try simp only [Act.put, List.getElem_toArray, List.getElem_cons_zero, List.getElem_cons_succ, List.setIfInBounds_toArray, List.set_cons_zero, List.set_cons_succ]
                      refine wpAnyH_take (i := 15) (v := undef) rfl (by kernel_rfl) (by kernel_rfl) (by kernel_rfl) (fun _ _ _ h => h) (Or.inr ⟨by kernel_rfl, rfl⟩) hHeld ?_
                      try simp only [Act.put, List.getElem_toArray, List.getElem_cons_zero, List.getElem_cons_succ, List.setIfInBounds_toArray, List.set_cons_zero, List.set_cons_succ]
                      refine wpAnyH_ready (rs := [16]) (by kernel_rfl) (by simp) ?_
                      refine AllReadyH.cons rfl (fun K hK => ?_) AllReadyH.nil
                      rw [if_neg (Bool.eq_false_iff.1 (by kernel_rfl))]
                      refine hK.out _ _ hHeld (fun _ => ?_)
                      clear hK K
                      try simp only [Act.put, List.getElem_toArray, List.getElem_cons_zero, List.getElem_cons_succ, List.setIfInBounds_toArray, List.set_cons_zero, List.set_cons_succ]
                      refine wpAnyH_take (i := 17) (v := undef) rfl (by kernel_rfl) (by kernel_rfl) (by kernel_rfl) (fun _ _ _ h => h) (Or.inr ⟨by kernel_rfl, rfl⟩) hHeld ?_
                      try simp only [Act.put, List.getElem_toArray, List.getElem_cons_zero, List.getElem_cons_succ, List.setIfInBounds_toArray, List.set_cons_zero, List.set_cons_succ]
                      refine wpAnyH_take (i := 18) (v := ?_) rfl (by kernel_rfl) (by kernel_rfl) (by kernel_rfl) (fun _ _ _ h => h) (Or.inl ⟨by kernel_rfl, ?_⟩) hHeld ?_
                      rotate_left 1
                      focus (intro w hSw; (try dsimp only at hSw); go_simp; (try with_reducible rfl); done)
                      try simp only [Act.put, List.getElem_toArray, List.getElem_cons_zero, List.getElem_cons_succ, List.setIfInBounds_toArray, List.set_cons_zero, List.set_cons_succ]
                      refine wpAnyH_take (i := 19) (v := ?_) rfl (by kernel_rfl) (by kernel_rfl) (by kernel_rfl) (fun _ _ _ h => h) (Or.inl ⟨by kernel_rfl, ?_⟩) hHeld ?_
                      rotate_left 1
                      focus (intro w hSw; (try dsimp only at hSw); go_simp; (try with_reducible rfl); done)
                      try simp only [Act.put, List.getElem_toArray, List.getElem_cons_zero, List.getElem_cons_succ, List.setIfInBounds_toArray, List.set_cons_zero, List.set_cons_succ]
                      refine wpAnyH_done (by kernel_rfl) ?_ _
                      go_wp2
                      go_meet
                      case rel => exact ⟨0, 0, ⟨hch.out, hch2.out, hr7.out.step hBd, hK7.out _ hBd⟩⟩
                    · obtain ⟨m, hm⟩ : ∃ m, ds.length = m + 1 := ⟨ds.length - 1, by omega⟩
                      have hrd := hD7.out.at_.rdOf
                      obtain ⟨ad, rfl, y0, y1', q2, q3⟩ := pair_at hrd m (by omega)
                      clear q2 q3
                      have hany : (ds.getLast?.any fun y => !befL y.f0 x) = !befL (ds[m]'(by omega)).f0 x := by
                        have e : ds.getLast? = some (ds[m]'(by omega)) := by rw [List.getLast?_eq_getElem?, show ds.length - 1 = m by omega]; exact List.getElem?_eq_getElem (by omega)
                        rw [e]; rfl
                      obtain ⟨y, hy⟩ : ∃ y, (ds[m]'(by omega)).f0 = y := ⟨_, rfl⟩
                      rw [hy] at hany y0 y1'
                      have hY := Aside0.mk (fun (W : World) (k : Bel wb W) => And.intro (hF.out W (hK7.out W k)).2.1 (And.intro (hF.out W (hK7.out W k)).2.2.1 (And.intro (hF.out W (hK7.out W k)).2.2.2 (And.intro (Bel.cell k y0) (Bel.cell k y1')))))
                      have hbf := Aside0.mk (fun (W : World) => rBefore_any y x W)
                      have hw1 : IntKind.i64.wrap ((ds.length : Int) - 1) = (m : Int) := by rw [IntKind.wrap_i64]; omega
                      have hm0 : m < ds.length := by omega
                      have hm2 : decide (0 < ds.length) = true := decide_eq_true (by omega)
                      have hm1 : m ≤ 192 := by omega
                      have hch2 : Aside0 (Ran (pChk (ds.getLast?.any fun y => !befL y.f0 x) 10) l6 0 () l6 (if (!befL y x) = true ∧ (0 : Int) = 0 then 10 else 0)) := ⟨by rw [hany]; exact Ran.chk _ (by decide) l6 0⟩
                      clear hany hy y0 y1' h0
                      replace hm := Aside0.mk hm
                      refine wp_region_held_drew (S := fun w' => Bel wb w' ∧ w'.cell? ⟨h, 2, none⟩ = some (.slice (some ad) ds.length c4) ∧ w'.cell? ⟨q, 0, none⟩ = some (.int .i64 x.f0) ∧ w'.cell? ⟨q, 1, none⟩ = some (.int .i64 x.f1) ∧ w'.cell? (ad.add (m * 4)) = some (.int .i64 y.f0) ∧ w'.cell? ⟨(ad.add (m * 4)).block, (ad.add (m * 4)).off + 1, none⟩ = some (.int .i64 y.f1)) (by kernel_rfl) ⟨hBd, hY.out _ hBd⟩ (fun hHeld => ?_)
                      refine wpAnyH_take (i := 0) (v := ?_) rfl (by kernel_rfl) (by kernel_rfl) (by kernel_rfl) (fun _ _ _ h => h) (Or.inl ⟨by kernel_rfl, ?_⟩) hHeld ?_
                      rotate_left 1
                      focus (intro w hSw; (try dsimp only at hSw); go_simp; (try with_reducible rfl); done)
                      try simp only [Act.put, List.getElem_toArray, List.getElem_cons_zero, List.getElem_cons_succ, List.setIfInBounds_toArray, List.set_cons_zero, List.set_cons_succ]
                      refine wpAnyH_take (i := 1) (v := ?_) rfl (by kernel_rfl) (by kernel_rfl) (by kernel_rfl) (fun _ _ _ h => h) (Or.inl ⟨by kernel_rfl, ?_⟩) hHeld ?_
                      rotate_left 1
                      focus (intro w hSw; (try dsimp only at hSw); go_simp; (try with_reducible rfl); done)
                      try simp only [Act.put, List.getElem_toArray, List.getElem_cons_zero, List.getElem_cons_succ, List.setIfInBounds_toArray, List.set_cons_zero, List.set_cons_succ]
                      refine wpAnyH_take (i := 2) (v := ?_) rfl (by kernel_rfl) (by kernel_rfl) (by kernel_rfl) (fun _ _ _ h => h) (Or.inl ⟨by kernel_rfl, ?_⟩) hHeld ?_
                      rotate_left 1
                      focus (intro w hSw; (try dsimp only at hSw); go_simp; (try with_reducible rfl); done)
                      try simp only [Act.put, List.getElem_toArray, List.getElem_cons_zero, List.getElem_cons_succ, List.setIfInBounds_toArray, List.set_cons_zero, List.set_cons_succ]
                      refine wpAnyH_take (i := 3) (v := ?_) rfl (by kernel_rfl) (by kernel_rfl) (by kernel_rfl) (fun _ _ _ h => h) (Or.inl ⟨by kernel_rfl, ?_⟩) hHeld ?_
                      rotate_left 1
                      focus (intro w hSw; (try dsimp only at hSw); go_simp; (try with_reducible rfl); done)
                      try simp only [Act.put, List.getElem_toArray, List.getElem_cons_zero, List.getElem_cons_succ, List.setIfInBounds_toArray, List.set_cons_zero, List.set_cons_succ]
                      refine wpAnyH_take (i := 4) (v := ?_) rfl (by kernel_rfl) (by kernel_rfl) (by kernel_rfl) (fun _ _ _ h => h) (Or.inl ⟨by kernel_rfl, ?_⟩) hHeld ?_
                      rotate_left 1
                      focus (intro w hSw; (try dsimp only at hSw); go_simp; (try with_reducible rfl); done)
                      try simp only [Act.put, List.getElem_toArray, List.getElem_cons_zero, List.getElem_cons_succ, List.setIfInBounds_toArray, List.set_cons_zero, List.set_cons_succ]
                      refine wpAnyH_take (i := 5) (v := ?_) rfl (by kernel_rfl) (by kernel_rfl) (by kernel_rfl) (fun _ _ _ h => h) (Or.inl ⟨by kernel_rfl, ?_⟩) hHeld ?_
                      rotate_left 1
                      focus (intro w hSw; (try dsimp only at hSw); go_simp; (try with_reducible rfl); done)
                      try simp only [Act.put, List.getElem_toArray, List.getElem_cons_zero, List.getElem_cons_succ, List.setIfInBounds_toArray, List.set_cons_zero, List.set_cons_succ]
                      refine wpAnyH_take (i := 6) (v := ?_) rfl (by kernel_rfl) (by kernel_rfl) (by kernel_rfl) (fun _ _ _ h => h) (Or.inl ⟨by kernel_rfl, ?_⟩) hHeld ?_
                      rotate_left 1
                      focus (intro w hSw; (try dsimp only at hSw); go_simp; (try with_reducible rfl); done)
                      try simp only [Act.put, List.getElem_toArray, List.getElem_cons_zero, List.getElem_cons_succ, List.setIfInBounds_toArray, List.set_cons_zero, List.set_cons_succ]
                      refine wpAnyH_take (i := 7) (v := ?_) rfl (by kernel_rfl) (by kernel_rfl) (by kernel_rfl) (fun _ _ _ h => h) (Or.inl ⟨by kernel_rfl, ?_⟩) hHeld ?_
                      rotate_left 1
                      focus (intro w hSw; (try dsimp only at hSw); go_simp; (try with_reducible rfl); done)
                      try simp only [Act.put, List.getElem_toArray, List.getElem_cons_zero, List.getElem_cons_succ, List.setIfInBounds_toArray, List.set_cons_zero, List.set_cons_succ]
                      refine wpAnyH_take (i := 8) (v := ?_) rfl (by kernel_rfl) (by kernel_rfl) (by kernel_rfl) (fun _ _ _ h => h) (Or.inl ⟨by kernel_rfl, ?_⟩) hHeld ?_
                      rotate_left 1
                      focus (intro w hSw; (try dsimp only at hSw); go_simp; (try with_reducible rfl); done)
                      try simp only [Act.put, List.getElem_toArray, List.getElem_cons_zero, List.getElem_cons_succ, List.setIfInBounds_toArray, List.set_cons_zero, List.set_cons_succ]
                      refine wpAnyH_take (i := 9) (v := ?_) rfl (by kernel_rfl) (by kernel_rfl) (by kernel_rfl) (fun _ _ _ h => h) (Or.inl ⟨by kernel_rfl, ?_⟩) hHeld ?_
                      rotate_left 1
                      focus (intro w hSw; (try dsimp only at hSw); go_simp; (try with_reducible rfl); done)
                      try simp only [Act.put, List.getElem_toArray, List.getElem_cons_zero, List.getElem_cons_succ, List.setIfInBounds_toArray, List.set_cons_zero, List.set_cons_succ]
                      refine wpAnyH_take (i := 10) (v := ?_) rfl (by kernel_rfl) (by kernel_rfl) (by kernel_rfl) (fun _ _ _ h => h) (Or.inl ⟨by kernel_rfl, ?_⟩) hHeld ?_
                      rotate_left 1
                      focus (intro w hSw; (try dsimp only at hSw); go_simp; (try with_reducible rfl); done)
                      try simp only [Act.put, List.getElem_toArray, List.getElem_cons_zero, List.getElem_cons_succ, List.setIfInBounds_toArray, List.set_cons_zero, List.set_cons_succ]
                      refine wpAnyH_take (i := 11) (v := ?_) rfl (by kernel_rfl) (by kernel_rfl) (by kernel_rfl) (fun _ _ _ h => h) (Or.inl ⟨by kernel_rfl, ?_⟩) hHeld ?_
                      rotate_left 1
                      focus (intro w hSw; (try dsimp only at hSw); go_simp; (try with_reducible rfl); done)
                      try simp only [Act.put, List.getElem_toArray, List.getElem_cons_zero, List.getElem_cons_succ, List.setIfInBounds_toArray, List.set_cons_zero, List.set_cons_succ]
                      refine wpAnyH_take (i := 12) (v := ?_) rfl (by kernel_rfl) (by kernel_rfl) (by kernel_rfl) (fun _ _ _ h => h) (Or.inl ⟨by kernel_rfl, ?_⟩) hHeld ?_
                      rotate_left 1
                      focus (intro w hSw; (try dsimp only at hSw); go_simp; (try with_reducible rfl); done)
                      try simp only [Act.put, List.getElem_toArray, List.getElem_cons_zero, List.getElem_cons_succ, List.setIfInBounds_toArray, List.set_cons_zero, List.set_cons_succ]
                      refine wpAnyH_take (i := 13) (v := ?_) rfl (by kernel_rfl) (by kernel_rfl) (by kernel_rfl) (fun _ _ _ h => h) (Or.inl ⟨by kernel_rfl, ?_⟩) hHeld ?_
                      rotate_left 1
                      focus (intro w hSw; (try dsimp only at hSw); go_simp; (try with_reducible rfl); done)
                      try simp only [Act.put, List.getElem_toArray, List.getElem_cons_zero, List.getElem_cons_succ, List.setIfInBounds_toArray, List.set_cons_zero, List.set_cons_succ]
                      refine wpAnyH_take (i := 14) (v := ?_) rfl (by kernel_rfl) (by kernel_rfl) (by kernel_rfl) (fun _ _ _ h => h) (Or.inl ⟨by kernel_rfl, ?_⟩) hHeld ?_
                      rotate_left 1
                      focus (intro w hSw; (try dsimp only at hSw); go_simp; (try with_reducible rfl); done)
                      try simp only [Act.put, List.getElem_toArray, List.getElem_cons_zero, List.getElem_cons_succ, List.setIfInBounds_toArray, List.set_cons_zero, List.set_cons_succ]
                      refine wpAnyH_take (i := 15) (v := ?_) rfl (by kernel_rfl) (by kernel_rfl) (by kernel_rfl) (fun _ _ _ h => h) (Or.inl ⟨by kernel_rfl, ?_⟩) hHeld ?_
                      rotate_left 1
                      focus (intro w hSw; (try dsimp only at hSw); go_simp; (try with_reducible rfl); done)
                      try simp only [Act.put, List.getElem_toArray, List.getElem_cons_zero, List.getElem_cons_succ, List.setIfInBounds_toArray, List.set_cons_zero, List.set_cons_succ]
                      refine wpAnyH_ready (rs := [16]) (by kernel_rfl) (by simp) ?_
                      refine AllReadyH.cons rfl (fun K hK => ?_) AllReadyH.nil
                      go_simp
                      (go_at_call 50; refine (hbf.out _).mono ?_; rintro ex w9 ⟨rfl, hB9⟩)
                      refine hK.out _ _ ?_ (fun hHeld => ?_)
                      rotate_left 1
                      clear hK K
                      try simp only [Act.put, List.getElem_toArray, List.getElem_cons_zero, List.getElem_cons_succ, List.setIfInBounds_toArray, List.set_cons_zero, List.set_cons_succ]
                      rotate_left 1
                      · exact ⟨hBd.trans hB9, hY.out _ (hBd.trans hB9)⟩
                      refine wpAnyH_take (i := 17) (v := ?_) rfl (by kernel_rfl) (by kernel_rfl) (by kernel_rfl) (fun _ _ _ h => h) (Or.inl ⟨by kernel_rfl, ?_⟩) hHeld ?_
                      rotate_left 1
                      focus (intro w hSw; (try dsimp only at hSw); go_simp; (try with_reducible rfl); done)
                      try simp only [Act.put, List.getElem_toArray, List.getElem_cons_zero, List.getElem_cons_succ, List.setIfInBounds_toArray, List.set_cons_zero, List.set_cons_succ]
                      refine wpAnyH_take (i := 18) (v := ?_) rfl (by kernel_rfl) (by kernel_rfl) (by kernel_rfl) (fun _ _ _ h => h) (Or.inl ⟨by kernel_rfl, ?_⟩) hHeld ?_
                      rotate_left 1
                      focus (intro w hSw; (try dsimp only at hSw); go_simp; (try with_reducible rfl); done)
                      try simp only [Act.put, List.getElem_toArray, List.getElem_cons_zero, List.getElem_cons_succ, List.setIfInBounds_toArray, List.set_cons_zero, List.set_cons_succ]
                      refine wpAnyH_take (i := 19) (v := ?_) rfl (by kernel_rfl) (by kernel_rfl) (by kernel_rfl) (fun _ _ _ h => h) (Or.inl ⟨by kernel_rfl, ?_⟩) hHeld ?_
                      rotate_left 1
                      focus (intro w hSw; (try dsimp only at hSw); go_simp; (try with_reducible rfl); done)
                      try simp only [Act.put, List.getElem_toArray, List.getElem_cons_zero, List.getElem_cons_succ, List.setIfInBounds_toArray, List.set_cons_zero, List.set_cons_succ]
                      refine wpAnyH_done (by kernel_rfl) ?_ _
                      have hBe := hBd.trans hB9
                      have hr9 := hr7.out.step hBe
                      cases hbv : befL y x with
                      | true =>
                        rw [hbv] at hch2
                        replace hbv := Aside0.mk hbv
                        go_wp2
                        go_meet
                        case rel => exact ⟨0, 0, ⟨hch.out, hch2.out, hr9, hK7.out _ hBe⟩⟩
                      | false =>
                        rw [hbv] at hch2
                        replace hbv := Aside0.mk hbv
                        have u1 := blk_frozen hr9.blk 1
                        have u2 := blk_cell hr9.blk 1
                        have hs := hr9.setE (by decide) 10
                        replace hs := Aside0.mk hs
                        replace hr9 := Aside0.mk hr9
                        go_wp2
                        go_meet
                        case rel => exact ⟨0, 10, ⟨hch.out, hch2.out, hs.out.1, (hK7.out _ hBe).trans hs.out.2⟩⟩
                · have b0 : (e6 != 0) = true := by simpa using he
                  replace he := Aside0.mk he
                  go_wp2
                  go_meet
                  case rel => exact ⟨e6, e6, ⟨Ran.bad_ _ _ he.out _ _, Ran.bad_ _ _ he.out _ _, hr7.out, KT.refl _ _ _⟩⟩
              case rest =>
                obtain ⟨e7, e8, hc7⟩ := hcut
                have hch1 := Aside0.mk hc7.out.1
                have hch2 := Aside0.mk hc7.out.2.1
                have hk8 := hc7.out.2.2.2
                have hH8 := Aside0.mk (hH7.out.keep hk8)
                have hD8 := Aside0.mk (hD7.out.keep hk8 (by decide))
                have hb8 := Aside0.mk (hk8.blk hbb.out (by decide))
                have hloc := Aside0.mk (rloc_any base g l6 e8 wc ⟨⟨_, _, hc7.out.2.2.1⟩⟩)
                have hwq : w.heap.size ≤ q := by omega
                have hbq : base ≤ q := by omega
                clear hc7 hk8 hF hK7 hH7 hD7 hbb hr7 hwb
                go_upto_region 24 with (go_at_call 66; ((with_reducible refine hloc.out.mono ?_); rintro ex w9 ⟨z, rfl, hL⟩; have hb9 := hL.kt.out.blk hb8.out (by decide); have z2 := blk_frozen hb9 2; have z3 := blk_frozen hb9 3; have q2 := blk_cell hb9 2; have q3 := blk_cell hb9 3))
                obtain ⟨l9, e9, hran9, hR9⟩ := hL.ran
                obtain ⟨A9, c9, hr9⟩ := hR9.out
                have hp := putBase (v0 := .int .i64 z.f0) (v1 := .int .i64 z.f1) (hL.kt.out.blk hb8.out (by decide))
                have hHD := (hH8.out.keep hL.kt.out).put (hD8.out.keep hL.kt.out (by decide)) hbw hwq hrh hhq (hp.2 q (Nat.le_refl _))
                have hra := hr9.keep (hp.2 base hbq) (by decide) (by decide)
                have hba := hp.1
                generalize (w9.setCell ⟨q, 2, none⟩ (.int .i64 z.f0)).setCell ⟨q, 3, none⟩ (.int .i64 z.f1) = wx at hp hHD hra hba ⊢
                have hwx := hra.lt
                have y1 : wx.cell? ⟨g, 1, none⟩ = some (.int .i64 e9) := blk_cell hra.blk 1
                have x1 : wx.cell? ⟨h, 1, none⟩ = some (.slice A3 xs.length c3) := blk_cell hHD.1.blk 1
                have x2 : wx.cell? ⟨q, 2, none⟩ = some (.int .i64 z.f0) := blk_cell hba 2
                have x3 : wx.cell? ⟨q, 3, none⟩ = some (.int .i64 z.f1) := blk_cell hba 3
                have hhs := Aside0.mk (rhas_any A3 c3 xs z wx hHD.1.refs.rdOf (by omega))
                replace hHD := Aside0.mk hHD
                replace hra := Aside0.mk hra
                replace hba := Aside0.mk hba
                clear hp hL hloc hR9 hr9 hb9 z2 z3 q2 q3 hH8 hD8 hb8
                go_cut [127] (fun t W => ∃ b, t = .bool b ∧ Aside0 (b = decide (e9 = 0 ∧ z ∉ xs)) ∧ Bel wx W)
                case first =>
                  by_cases he : e9 = 0
                  · have b0 : (e9 == 0) = true := by simpa using he
                    have hb : Aside0 (decide (e9 = 0 ∧ z ∉ xs) = !decide (z ∈ xs)) := ⟨by simp [he]⟩
                    replace he := Aside0.mk he
                    go_wp2_with (go_at_call 67; ((with_reducible refine hhs.out.mono ?_); rintro ex w10 ⟨rfl, hB10⟩))
                    go_meet
                    case rel => exact ⟨_, rfl, ⟨hb.out.symm⟩, hB10⟩
                  · have b0 : (e9 == 0) = false := by simpa using he
                    have hb : Aside0 (decide (e9 = 0 ∧ z ∉ xs) = false) := ⟨decide_eq_false (fun k => he k.1)⟩
                    replace he := Aside0.mk he
                    go_wp2
                    go_meet
                    case rel => exact ⟨_, rfl, ⟨hb.out.symm⟩, Bel.refl _⟩
                case rest =>
                  obtain ⟨b, rfl, hb, hBx⟩ := hcut
                  rename World => wy
                  have hHy := Aside0.mk (hHD.out.1.step hbw hBx)
                  have hDy := Aside0.mk (hHD.out.2.step hBx)
                  have hry := Aside0.mk (hra.out.step hBx)
                  have hby := Aside0.mk (bel_blk hba.out hBx)
                  clear hHD hra hba hhs y1 x1 x2 x3 hBx hwx
                  go_upto_if 127 with (fail)
                  go_cut [128] (fun _ W => ∃ e10, Aside0 (Ran (pChk (!decide (z ∈ xs)) 5) l9 e9 () l9 e10 ∧ IsR 68 base W g l9 e10 A9 c9 ∧ KT ST base wy W))
                  case first =>
                    cases b with
                    | true =>
                      have hc := Aside0.mk (of_decide_eq_true hb.out.symm)
                      have hs := Aside0.mk (hry.out.setE (by decide) 5)
                      have f1 := blk_frozen hry.out.blk 1
                      have f2 := blk_cell hry.out.blk 1
                      go_wp2
                      go_meet
                      case rel =>
                        refine ⟨5, ⟨?_, hs.out.1, hs.out.2⟩⟩
                        rw [hc.out.1, decide_eq_false hc.out.2]
                        exact Ran.chk true (by decide) l9 0
                    | false =>
                      have hc := Aside0.mk (of_decide_eq_false hb.out.symm)
                      go_wp2
                      go_meet
                      case rel =>
                        refine ⟨e9, ⟨?_, hry.out, KT.refl _ _ _⟩⟩
                        by_cases he : e9 = 0
                        · have hz : z ∈ xs := Classical.byContradiction fun k => hc.out ⟨he, k⟩
                          rw [he, decide_eq_true hz]
                          exact Ran.chk false (by decide) l9 0
                        · exact Ran.bad_ _ _ he _ _
                  case rest =>
                    obtain ⟨e10, hc10⟩ := hcut
                    have hka := hc10.out.2.2
                    have hHz := Aside0.mk (hHy.out.keep hka)
                    have hDz := Aside0.mk (hDy.out.keep hka (by decide))
                    have hbz := hka.blk hby.out (by decide)
                    have hrz := Aside0.mk hc10.out.2.1
                    have hch3 := Aside0.mk hc10.out.1
                    have x0 := blk_cell hbz 0
                    have x1 := blk_cell hbz 1
                    have x2 := blk_cell hbz 2
                    have x3 := blk_cell hbz 3
                    have y2 := blk_cell hHz.out.blk 2
                    have hhz := hHz.out.size
                    replace hbz := Aside0.mk hbz
                    clear hc10 hka hHy hDy hby hry hb
                    go_wp2_with ((with_reducible refine gate_b (b := .append) rfl ?_); (refine app_pair_at_ (xs := ds) (⟨x, z⟩ : SPair) [.int .i64 x.f0, .int .i64 x.f1, .int .i64 z.f0, .int .i64 z.f1] hHz.out.ders ⟨kPair_mkM _ _ _ (⟨x, z⟩ : SPair)⟩ hhz rfl _ _ rfl ?hl1 rfl rfl ?_); (case hl1 => omega); intro v5 w11 hO1 hK1; have fz := blk_frozen (hK1.blk hHz.out.blk (by decide)) 2; have cz := blk_cell (hK1.blk hHz.out.blk (by decide)) 2; obtain ⟨A5, c5, rfl, _, _⟩ := hO1.reads)
                    go_roundw
                    case rel =>
                      have hs := hHz.out.setD hbw hwh hrh hK1 hO1
                      simp only [List.length_append, List.length_cons, List.length_nil, Nat.zero_add] at hs
                      refine ⟨j + 1, n2 - 1, ds ++ [⟨x, z⟩], .slice A5 (ds.length + 1) c5, l9, e10, by omega, by go_num, by omega, by omega, ⟨hran.out.grow1 ?_⟩, ⟨⟨_, _, hrz.out.keep (hs.2.mono hbh (fun _ z => z)) (by decide) (by decide)⟩⟩, ⟨hs.1⟩, ⟨by rw [List.length_append, hdk.out]; rfl⟩⟩
                      exact hran6.out.bind (hch1.out.bind (hch2.out.bind (hran9.out.bind (hch3.out.bind (Ran.ret _ _ _)))))
                    case measure => simp [intOf]; omega
            | false =>
              have hfin : Aside0 (Ran (pGrow (pPair xs) nd.toNat) l5 e5 ds lk ek) := ⟨by
                have hc := of_decide_eq_false hb.out.symm
                by_cases hek : ek = 0
                · have : j = nd.toNat := by have : ¬ 0 < n2 := fun q => hc ⟨q, hek⟩; omega
                  rw [← this]; exact hran.out
                · exact hran.out.growEarly hek hj ds⟩
              have z0 := blk_cell hHk.out.blk 0
              have z1 := blk_cell hHk.out.blk 1
              have z2 := blk_cell hHk.out.blk 2
              have u0 := blk_cell hHk.out.res 0
              have u1 := blk_cell hHk.out.res 1
              have u2 := blk_cell hHk.out.res 2
              have v0 := blk_frozen hHk.out.res 0
              have v1 := blk_frozen hHk.out.res 1
              have v2 := blk_frozen hHk.out.res 2
              have hp := putAll (v0 := .int .i64 a) (v1 := .slice A3 xs.length c3) (v2 := .slice A4 ds.length c4) hHk.out.res
              replace hp := Aside0.mk hp
              go_wp2
              refine bodyPost_ret (results_cell_row rfl _ _ r 36 #[.int .i64 a, .slice A3 xs.length c3, .slice A4 ds.length c4] (0, 0) _ rfl hp.out.1 Tryd.underlying36 rfl (by kernel_rfl)) rfl ?_
              have hk9 := hp.out.2 r (Nat.le_refl _)
              obtain ⟨A9, c9, hr9⟩ := hRk.out
              exact ⟨⟨a, xs, ds⟩, .slice A3 xs.length c3, .slice A4 ds.length c4, rfl, ⟨⟨lk, ek, ⟨hran1.out.bind (hrefs.out.bind ((hran5.out.bind hfin.out).bind (Ran.ret _ _ _)))⟩, ⟨_, _, hr9.keep (hp.out.2 base hbr) (by decide) (by decide)⟩⟩, ⟨hHk.out.kt.after (by rw [hr0.out]; exact hk9.below) hbw⟩⟩, ⟨Kd.R_lower (hHk.out.refs.keep hk9 (by decide)).out hwh⟩, ⟨Kd.R_lower (hHk.out.ders.keep hk9 (by decide)).out hwh⟩, ha0, ha1⟩
end Go.Proofs.YtceibabhmomfiaaDoor.H
