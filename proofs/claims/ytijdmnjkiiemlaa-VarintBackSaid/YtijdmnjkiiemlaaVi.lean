/- Layer 1, more walks: sizes, lists. -/
import Derived.Test.YtijdmnjkiiemlaaVh
import Derived.Lib.Strings
import Derived.Lib.Slices
import Derived.Lib.Small
import Derived.Lib.Walk
import Derived.Lib.BitFns
namespace Go.Proofs.Ytijdmnjkiiemlaa.H
open Go.RowKit Go.Proofs.YtijdmnjkiiemlaaW.PrintWords
set_option linter.unusedVariables false
set_option linter.unusedSimpArgs false

/-- numbers' bytes, one behind the other -/
def listL (l : List Int) : List Int := (l.map putL).flatten
theorem listL_snoc (l : List Int) (n : Int) : listL (l ++ [n]) = listL l ++ putL n := by simp [listL]
theorem putL_len (n : Int) : (putL n).length ≤ 10 := by
  unfold putL
  split
  · simp
  · exact (digs_len 9 n).2
theorem listL_len (l : List Int) : (listL l).length ≤ 10 * l.length := by
  induction l with
  | nil => simp [listL]
  | cons x r ih => have := putL_len x; simp [listL] at ih ⊢; omega
theorem take_snoc (l : List Int) (k : Nat) (h : k < l.length) : l.take (k + 1) = l.take k ++ [rd l (k : Int)] := by
  rw [List.take_succ_eq_append_getElem h, rd, List.getD_eq_getElem?_getD, List.getElem?_eq_getElem (by simpa using h)]; rfl
/-- ints -/
abbrev IntsOk (l : List Int) : Prop := Aside0 (∀ x ∈ l, -9223372036854775808 ≤ x ∧ x ≤ 9223372036854775807)
theorem IntsOk.at_ {l : List Int} (h : IntsOk l) (k : Nat) (h1 : k < l.length) : -9223372036854775808 ≤ rd l (k : Int) ∧ rd l (k : Int) ≤ 9223372036854775807 := by
  refine h.out _ ?_
  rw [rd, List.getD_eq_getElem?_getD, List.getElem?_eq_getElem (by simpa using h1)]
  exact List.getElem_mem _

set_option maxHeartbeats 1000000 in
theorem List_any (A : Option Addr) (c : Nat) (l : List Int) (w : World) (HR : RdI w A l) (hok : IntsOk l) (hl : l.length ≤ 10000000000000) :
    Calls Try.prog 9 #[.slice A l.length c] w fun e w' => ∃ v : Value, e = .returned v ∧ OwnB w w' v (listL l) ∧ Bel w w' := by
  go_enter Try.func9, Try.ntmps9
  go_wp2
  go_loopw [3, 8] (fun v i W => ∃ k : Nat, k ≤ l.length ∧ i = .int .i64 k ∧ OwnB w W v (listL (l.take k)) ∧ Bel w W) (fun _ i _ => l.length - (intOf i).toNat)
  case atStart => exact ⟨0, by omega, rfl, by simpa [listL] using Own.nil _ _ _ _, Bel.refl _⟩
  case round =>
    obtain ⟨k, hk, rfl, hR, hB⟩ := hrel
    by_cases hlt : k < l.length
    · obtain ⟨ad, rfl, hcell⟩ := rd_atN (HR.step hB) k hlt
      have hx := hok.at_ k hlt
      have hts := Aside0.mk (take_snoc l k hlt)
      have hlen := Aside0.mk (listL_len (l.take k))
      obtain ⟨A2, c2, rfl, hc2, hRd⟩ := hR.reads
      go_wp2_with (go_at_call 12; refine (Put_any A2 c2 (listL (l.take k)) _ wr hc2 hRd.nil_of hRd (by have := hlen.out; rw [List.length_take] at this; omega) hx.2).mono ?_; rintro e w' ⟨v2, rfl, hR2, hB2⟩)
      go_roundw
      case rel => exact ⟨k + 1, by omega, by go_num, by rw [hts.out, listL_snoc]; exact hR2.lower hB, hB.trans hB2⟩
      case measure => simp [intOf]; omega
    · have hts := Aside0.mk (List.take_of_length_le (show l.length ≤ k by omega))
      go_wp2
      go_ret
      exact ⟨_, rfl, by rw [hts.out] at hR; exact hR, hB⟩

/-- bytes' numbers -/
def splitGo : Nat → List Int → List Int → List Int × Int
  | 0, _, _ => ([], 0)
  | f + 1, l, out => if l = [] then (out, 0) else if (getL 9 l).2.2 ≠ 0 then ([], (getL 9 l).2.2) else splitGo f (l.drop (getL 9 l).2.1.toNat) (out ++ [(getL 9 l).1])

set_option maxHeartbeats 1000000 in
theorem Split_any (A : Option Addr) (c : Nat) (l : List Int) (w : World) (hc : l.length ≤ c) (HR : RdB w A l) (hby : Bytes l) (hl : l.length ≤ 10000000000000) :
    Calls Try.prog 8 #[.slice A l.length c] w fun e w' => ∃ v : Value, e = .returned (.tuple #[v, .int .i64 (splitGo (l.length + 1) l []).2]) ∧ OwnI w w' v (splitGo (l.length + 1) l []).1 ∧ Bel w w' := by
  go_enter Try.func8, Try.ntmps8
  go_wp2
  go_loopw [0, 4] (fun b v W => ∃ (f : Nat) (A : Option Addr) (c : Nat) (x out : List Int), b = .slice A x.length c ∧ x.length ≤ c ∧ x.length < f ∧ out.length + x.length ≤ l.length ∧ RdB w A x ∧ Bytes x ∧ OwnI w W v out ∧ Bel w W ∧ Aside0 (splitGo f x out = splitGo (l.length + 1) l [])) (fun b _ _ => lenV b)
  case atStart => exact ⟨l.length + 1, A, c, l, [], rfl, hc, by omega, by simp, HR, hby, Own.nil _ _ _ _, Bel.refl _, ⟨rfl⟩⟩
  case round =>
    obtain ⟨f, A, c, x, out, rfl, hc, hf, hlen, HR, hby, hO, hB, hs⟩ := hrel
    obtain ⟨f, rfl⟩ : ∃ g, f = g + 1 := ⟨f - 1, by omega⟩
    by_cases h0 : x = []
    · have e := hs.out
      rw [splitGo, if_pos h0] at e
      have b1 : decide (0 < x.length) = false := by simp [h0]
      have b2 : decide ((0 : Int) < (x.length : Int)) = false := by simp [h0]
      clear h0
      replace e := Aside0.mk e
      go_wp2
      go_ret2
      exact ⟨_, by rw [← e.out]; rfl, by rw [← e.out]; exact hO, hB⟩
    · have e := hs.out
      rw [splitGo, if_neg h0] at e
      have hpos : 0 < x.length := List.length_pos_iff.2 h0
      clear h0
      have hg := getL_got 9 (by decide) x hby.out
      have hcall := Get_any A c x wr hc (HR.step hB) hby (by omega)
      obtain ⟨p, hp⟩ : ∃ p, getL 9 x = p := ⟨_, rfl⟩
      rw [hp] at hcall hg e
      clear hp
      obtain ⟨n, sz, er⟩ := p
      have hg1 := hg.sz.1
      have hg2 := hg.sz.2.2
      have hg3 := hg.er
      have hn0 := hg.ge
      have hn1 := hg.le9 (by decide)
      simp only at hg1 hg2 hn0 hn1 hg3 e
      clear hg
      replace hg3 := Aside0.mk hg3
      replace hcall := Aside0.mk hcall
      by_cases he : er = 0
      · rw [if_neg (by simpa using he)] at e
        replace e := Aside0.mk e
        have b1 : (er != 0) = false := by simp [he]
        have b3 : 1 ≤ sz := by rcases hg3.out with h | h | h | h; exact h.2; all_goals (simp at h; omega)
        replace he := Aside0.mk he
        obtain ⟨m, rfl⟩ := Int.eq_ofNat_of_zero_le hg1
        have hm : m ≤ x.length := by omega
        obtain ⟨A', hcut, hA', hc'⟩ := cut_u8 A c x m hm hc
        replace hA' := Aside0.mk hA'
        go_wp2_with (go_at_call 19; refine hcall.out.mono ?_; rintro e w' ⟨rfl, rfl⟩)
        go_region_law (refine app_int_step (hO.step ((Bel.refl _).drewN 1)) (hB.drewN 1) rfl _ _ n rfl (by omega) rfl rfl ?_; intro v1 w1 hO1 hB1)
        refine norm_act (a' := ?_) ?_ ?_
        rotate_left
        · show Act.put (Act.put _ (some 4) _) (some 0) _ = _
          simp only [Act.put, List.setIfInBounds_toArray, List.set_cons_zero, List.set_cons_succ]
          rfl
        go_wp2
        go_roundw
        case rel => exact ⟨f, A', c - m, x.drop m, out ++ [n], by rw [List.length_drop], hc', by rw [List.length_drop]; omega, by rw [List.length_drop]; simp; omega, hA'.out w HR, ⟨fun y hy => hby.out y (List.mem_of_mem_drop hy)⟩, hO1, hB1, e⟩
        case measure => simp [lenV]; omega
      · have b1 : (er != 0) = true := by simpa using he
        rw [if_pos he] at e
        replace e := Aside0.mk e
        clear he
        go_wp2_with (go_at_call 19; refine hcall.out.mono ?_; rintro e w' ⟨rfl, rfl⟩)
        go_ret2
        exact ⟨_, by rw [← e.out]; rfl, by rw [← e.out]; exact Own.nil _ _ _ _, hB⟩
end Go.Proofs.Ytijdmnjkiiemlaa.H
