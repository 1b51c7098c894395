/- Layer 3, the reference: the reader takes numbers. -/
import Derived.Test.YtijdmnjkiiemlaaDoorCr3
import Derived.Test.YtijdmnjkiiemlaaDoorRv
namespace Go.Proofs.YtijdmnjkiiemlaaDoor.H
open Go.RowKit Go.Proofs.YtijdmnjkiiemlaaDoorW.PrintWords Go.Proofs.YtijdmnjkiiemlaaDoorW.PrintLast
set_option linter.unusedVariables false
set_option linter.unusedSimpArgs false

set_option maxHeartbeats 1000000 in
theorem rnum_any (base g : Nat) (l : List Int) (e : Int) (w : World) (hR : IsRA 73 base w g l e) :
    Calls Tryd.prog 38 #[.pointer (some ⟨g, 0, none⟩)] w fun ex w' => ∃ n, ex = .returned (.int .i64 n) ∧ Took pNum 73 base w g l e n w' := by
  obtain ⟨A, c, hr⟩ := hR.out
  have x0 : w.cell? ⟨g, 0, none⟩ = some (.slice A l.length c) := blk_cell hr.blk 0
  have x1 : w.cell? ⟨g, 1, none⟩ = some (.int .i64 e) := blk_cell hr.blk 1
  have f0 := blk_frozen hr.blk 0
  have f1 := blk_frozen hr.blk 1
  have hlt := hr.lt
  have hlen := hr.len
  have hcap := hr.cap
  by_cases he : e = 0
  · subst he
    have hg := getL_got 9 (by decide) l hr.by_.out
    have hcall := refGet_any A c l w hr.cap hr.rd.now hr.by_ (by omega)
    have hru := @Ran.num_ok l
    have hre := @Ran.num_er l
    have hb : -9223372036854775808 ≤ (getL 9 l).1 ∧ (getL 9 l).1 ≤ 9223372036854775807 := by
      first | exact unzz_ok hg.ge hg.le | (have h1 := hg.ge; have h2 := hg.le9 (by decide); exact ⟨by omega, h2⟩)
    obtain ⟨y, hy⟩ : ∃ y, (getL 9 l).1 = y := ⟨_, rfl⟩
    rw [hy] at hcall hru hb
    have hg1 := hg.sz.1
    have hg2 := hg.sz.2.2
    have hg3 := hg.er
    clear hg hy
    obtain ⟨p, hp⟩ : ∃ p, getL 9 l = p := ⟨_, rfl⟩
    rw [hp] at hcall hru hre hg1 hg2 hg3
    clear hp
    obtain ⟨n, sz, er⟩ := p
    simp only at hcall hru hre hg1 hg2 hg3
    have hb1 := hb.1
    have hb2 := hb.2
    replace hr := Aside0.mk hr
    replace hru := Aside0.mk hru
    replace hre := Aside0.mk hre
    replace hg3 := Aside0.mk hg3
    replace hcall := Aside0.mk hcall
    clear hb
    by_cases h0 : er = 0
    · have b1 : (er != 0) = false := by simp [h0]
      obtain ⟨m, rfl⟩ := Int.eq_ofNat_of_zero_le hg1
      have hm : m ≤ l.length := by omega
      obtain ⟨A', hcut, hA', hc'⟩ := cut_u8 A c l m hm hcap
      have hs := hr.out.setB (by decide) hc' hA' (fun x hx => List.mem_of_mem_drop hx) (by rw [List.length_drop]; omega)
      rw [List.length_drop] at hs
      replace hs := Aside0.mk hs
      replace hA' := Aside0.mk hA'
      have hru2 := Aside0.mk (hru.out h0)
      replace h0 := Aside0.mk h0
      go_enter Tryd.func38, Tryd.ntmps38
      go_wp2_with (go_at_call 53; ((with_reducible refine hcall.out.mono ?_); rintro ex w' ⟨rfl, rfl⟩))
      go_ret
      exact ⟨_, rfl, ⟨⟨_, _, ⟨by simpa using hru2.out⟩, ⟨_, _, hs.out.1⟩, ⟨fun h => absurd rfl h⟩⟩, ⟨hs.out.2⟩, hb1, hb2⟩⟩
    · have b1 : (er != 0) = true := by simpa using h0
      have hs := Aside0.mk (hr.out.setE (by decide) er)
      have hre2 := Aside0.mk (hre.out h0 0)
      replace h0 := Aside0.mk h0
      go_enter Tryd.func38, Tryd.ntmps38
      go_wp2_with (go_at_call 53; ((with_reducible refine hcall.out.mono ?_); rintro ex w' ⟨rfl, rfl⟩))
      go_ret
      exact ⟨_, rfl, ⟨⟨_, _, hre2, ⟨_, _, hs.out.1⟩, ⟨fun _ => rfl⟩⟩, ⟨hs.out.2⟩, by decide, by decide⟩⟩
  · have b1 : (e != 0) = true := by simpa using he
    replace he := Aside0.mk he
    replace hr := Aside0.mk hr
    go_enter Tryd.func38, Tryd.ntmps38
    go_wp2
    go_ret
    exact ⟨_, rfl, ⟨⟨l, e, ⟨Ran.bad_ _ _ he.out _ _⟩, ⟨_, _, hr.out⟩, ⟨fun _ => rfl⟩⟩, ⟨KT.refl _ _ _⟩, by decide, by decide⟩⟩
set_option maxHeartbeats 1000000 in
theorem rsig_any (base g : Nat) (l : List Int) (e : Int) (w : World) (hR : IsRA 73 base w g l e) :
    Calls Tryd.prog 54 #[.pointer (some ⟨g, 0, none⟩)] w fun ex w' => ∃ n, ex = .returned (.int .i64 n) ∧ Took pSig 73 base w g l e n w' := by
  obtain ⟨A, c, hr⟩ := hR.out
  have x0 : w.cell? ⟨g, 0, none⟩ = some (.slice A l.length c) := blk_cell hr.blk 0
  have x1 : w.cell? ⟨g, 1, none⟩ = some (.int .i64 e) := blk_cell hr.blk 1
  have f0 := blk_frozen hr.blk 0
  have f1 := blk_frozen hr.blk 1
  have hlt := hr.lt
  have hlen := hr.len
  have hcap := hr.cap
  by_cases he : e = 0
  · subst he
    have hg := getL_got 10 (by decide) l hr.by_.out
    have hcall := refGetSigned_any A c l w hr.cap hr.rd.now hr.by_ (by omega)
    have hru := @Ran.sig_ok l
    have hre := @Ran.sig_er l
    have hb : -9223372036854775808 ≤ unzz (getL 10 l).1 ∧ unzz (getL 10 l).1 ≤ 9223372036854775807 := by
      first | exact unzz_ok hg.ge hg.le | (have h1 := hg.ge; have h2 := hg.le9 (by decide); exact ⟨by omega, h2⟩)
    obtain ⟨y, hy⟩ : ∃ y, unzz (getL 10 l).1 = y := ⟨_, rfl⟩
    rw [hy] at hcall hru hb
    have hg1 := hg.sz.1
    have hg2 := hg.sz.2.2
    have hg3 := hg.er
    clear hg hy
    obtain ⟨p, hp⟩ : ∃ p, getL 10 l = p := ⟨_, rfl⟩
    rw [hp] at hcall hru hre hg1 hg2 hg3
    clear hp
    obtain ⟨n, sz, er⟩ := p
    simp only at hcall hru hre hg1 hg2 hg3
    have hb1 := hb.1
    have hb2 := hb.2
    replace hr := Aside0.mk hr
    replace hru := Aside0.mk hru
    replace hre := Aside0.mk hre
    replace hg3 := Aside0.mk hg3
    replace hcall := Aside0.mk hcall
    clear hb
    by_cases h0 : er = 0
    · have b1 : (er != 0) = false := by simp [h0]
      obtain ⟨m, rfl⟩ := Int.eq_ofNat_of_zero_le hg1
      have hm : m ≤ l.length := by omega
      obtain ⟨A', hcut, hA', hc'⟩ := cut_u8 A c l m hm hcap
      have hs := hr.out.setB (by decide) hc' hA' (fun x hx => List.mem_of_mem_drop hx) (by rw [List.length_drop]; omega)
      rw [List.length_drop] at hs
      replace hs := Aside0.mk hs
      replace hA' := Aside0.mk hA'
      have hru2 := Aside0.mk (hru.out h0)
      replace h0 := Aside0.mk h0
      go_enter Tryd.func54, Tryd.ntmps54
      go_wp2_with (go_at_call 66; ((with_reducible refine hcall.out.mono ?_); rintro ex w' ⟨rfl, rfl⟩))
      go_ret
      exact ⟨_, rfl, ⟨⟨_, _, ⟨by simpa using hru2.out⟩, ⟨_, _, hs.out.1⟩, ⟨fun h => absurd rfl h⟩⟩, ⟨hs.out.2⟩, hb1, hb2⟩⟩
    · have b1 : (er != 0) = true := by simpa using h0
      have hs := Aside0.mk (hr.out.setE (by decide) er)
      have hre2 := Aside0.mk (hre.out h0 0)
      replace h0 := Aside0.mk h0
      go_enter Tryd.func54, Tryd.ntmps54
      go_wp2_with (go_at_call 66; ((with_reducible refine hcall.out.mono ?_); rintro ex w' ⟨rfl, rfl⟩))
      go_ret
      exact ⟨_, rfl, ⟨⟨_, _, hre2, ⟨_, _, hs.out.1⟩, ⟨fun _ => rfl⟩⟩, ⟨hs.out.2⟩, by decide, by decide⟩⟩
  · have b1 : (e != 0) = true := by simpa using he
    replace he := Aside0.mk he
    replace hr := Aside0.mk hr
    go_enter Tryd.func54, Tryd.ntmps54
    go_wp2
    go_ret
    exact ⟨_, rfl, ⟨⟨l, e, ⟨Ran.bad_ _ _ he.out _ _⟩, ⟨_, _, hr.out⟩, ⟨fun _ => rfl⟩⟩, ⟨KT.refl _ _ _⟩, by decide, by decide⟩⟩

set_option maxHeartbeats 1000000 in
theorem rupto_any (most er : Int) (h0 : 0 ≤ most) (h1 : most ≤ 1000) (her : er ≠ 0) (her0 : 0 ≤ er) (her1 : er ≤ 1000) (base g : Nat) (l : List Int) (e : Int) (w : World) (hR : IsRA 73 base w g l e) :
    Calls Tryd.prog 37 #[.pointer (some ⟨g, 0, none⟩), .int .i64 most, .int .i64 er] w fun ex w' => ∃ n, ex = .returned (.int .i64 n) ∧ Took (pUp most er) 73 base w g l e n w' ∧ n ≤ most := by
  have hcall := Aside0.mk (rnum_any base g l e w hR)
  have b1 : (er != 0) = true := by simpa using her
  replace her := Aside0.mk her
  go_enter Tryd.func37, Tryd.ntmps37
  go_upto_region 2 with (go_at_call 38; ((with_reducible refine hcall.out.mono ?_); rintro ex w' ⟨n, rfl, hT⟩))
  obtain ⟨l', e', hran, hR', hz⟩ := hT.ran
  have hn0 := hT.ge
  have hn1 := hT.le
  have hkt := hT.kt
  obtain ⟨A, c, hr⟩ := hR'.out
  have f1 := blk_frozen hr.blk 1
  have x1 : w'.cell? ⟨g, 1, none⟩ = some (.int .i64 e') := blk_cell hr.blk 1
  clear hcall hT
  have hup := Aside0.mk (hran.out.up (most := most) her.out hz.out h0)
  by_cases he : e' = 0
  · have b2 : (e' == 0) = true := by simpa using he
    have b3 : (e' != 0) = false := by simp [he]
    by_cases hm : most < n
    · rw [if_pos hm, if_pos hm] at hup
      have hs := Aside0.mk (hr.setE (by decide) er)
      replace hr := Aside0.mk hr
      replace he := Aside0.mk he
      go_wp2
      go_ret
      exact ⟨_, rfl, ⟨⟨_, _, hup, ⟨_, _, hs.out.1⟩, ⟨fun _ => rfl⟩⟩, ⟨hkt.out.trans hs.out.2⟩, by decide, by decide⟩, h0⟩
    · rw [if_neg hm, if_neg hm] at hup
      replace hr := Aside0.mk hr
      replace he := Aside0.mk he
      go_wp2
      go_ret
      exact ⟨_, rfl, ⟨⟨_, _, hup, ⟨_, _, hr.out⟩, hz⟩, hkt, hn0, hn1⟩, by omega⟩
  · have b2 : (e' == 0) = false := by simpa using he
    have b3 : (e' != 0) = true := by simpa using he
    have hn := hz.out he
    subst hn
    rw [if_neg (by omega), if_neg (by omega)] at hup
    replace hr := Aside0.mk hr
    replace he := Aside0.mk he
    go_wp2
    go_ret
    exact ⟨_, rfl, ⟨⟨_, _, hup, ⟨_, _, hr.out⟩, ⟨fun _ => rfl⟩⟩, hkt, hn0, hn1⟩, by omega⟩
/-- the error has come: no more letters -/
theorem Ran.lets_early {ls : List Int} {x0 y : SIns} {k n : Nat} {l l1 : List Int} {e e1 : Int} (h1 : Ran (pLets ls x0 k) l e y l1 e1) (he : e1 ≠ 0) (hk : k ≤ n) (z : SIns) : Ran (pLets ls x0 n) l e z l1 e1 := by
  induction n generalizing z with
  | zero =>
    have : k = 0 := by omega
    subst this
    exact ⟨h1.bad, fun h y r hp => absurd (h1.ok h y r hp).1 he, h1.er⟩
  | succ n ih =>
    by_cases hkn : k ≤ n
    · exact (ih hkn y).err he z
    · have : k = n + 1 := by omega
      subst this
      exact ⟨h1.bad, fun h y r hp => absurd (h1.ok h y r hp).1 he, h1.er⟩
end Go.Proofs.YtijdmnjkiiemlaaDoor.H
