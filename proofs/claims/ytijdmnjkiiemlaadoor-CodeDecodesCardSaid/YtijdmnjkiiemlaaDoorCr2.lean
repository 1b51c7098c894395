/- Layer 3, walks: the reader's number, and a number up to another. -/
import Derived.Test.YtijdmnjkiiemlaaDoorCr1
namespace Go.Proofs.YtijdmnjkiiemlaaDoor.H
open Go.RowKit Go.Proofs.YtijdmnjkiiemlaaDoorW.PrintWords Go.Proofs.YtijdmnjkiiemlaaDoorW.PrintLast
set_option linter.unusedVariables false
set_option linter.unusedSimpArgs false

theorem number_any (base g : Nat) (l : List Int) (e : Int) (w : World) (hR : IsRA 69 base w g l e) :
    Calls Tryd.prog 51 #[.pointer (some ⟨g, 0, none⟩)] w fun ex w' => ∃ n, ex = .returned (.int .i64 n) ∧ Took pNum 69 base w g l e n w' := by
  have hcall := Aside0.mk (take_num base g l e w hR)
  go_enter Tryd.func51, Tryd.ntmps51
  go_wp2_with (go_at_call 62; ((with_reducible refine hcall.out.mono ?_); rintro ex w' ⟨n, rfl, hT⟩))
  go_ret
  exact ⟨_, rfl, hT⟩

set_option maxHeartbeats 1000000 in
theorem within_any (most er : Int) (h0 : 0 ≤ most) (h1 : most ≤ 1000) (her : er ≠ 0) (her0 : 0 ≤ er) (her1 : er ≤ 1000) (base g : Nat) (l : List Int) (e : Int) (w : World) (hR : IsRA 69 base w g l e) :
    Calls Tryd.prog 35 #[.pointer (some ⟨g, 0, none⟩), .int .i64 most, .int .i64 er] w fun ex w' => ∃ n, ex = .returned (.int .i64 n) ∧ Took (pUp most er) 69 base w g l e n w' ∧ n ≤ most := by
  have hcall := Aside0.mk (number_any base g l e w hR)
  have b1 : (er != 0) = true := by simpa using her
  replace her := Aside0.mk her
  go_enter Tryd.func35, Tryd.ntmps35
  go_upto_region 2 with (go_at_call 51; ((with_reducible refine hcall.out.mono ?_); rintro ex w' ⟨n, rfl, hT⟩))
  obtain ⟨l', e', hran, hR', hz⟩ := hT.ran
  have hn0 := hT.ge
  have hn1 := hT.le
  have hkt := hT.kt
  obtain ⟨A, c, hr⟩ := hR'.out
  have f1 := blk_frozen hr.blk 1
  have x1 : w'.cell? ⟨g, 1, none⟩ = some (.int .i64 e') := blk_cell hr.blk 1
  clear hcall hT
  have hup := Aside0.mk (hran.out.up (most := most) her.out hz.out h0)
  by_cases hm : most < n
  · rw [if_pos hm, if_pos hm] at hup
    have hs := Aside0.mk (hr.setE (by decide) er)
    replace hr := Aside0.mk hr
    go_wp2
    go_ret
    exact ⟨_, rfl, ⟨⟨_, _, hup, ⟨_, _, hs.out.1⟩, ⟨fun _ => rfl⟩⟩, ⟨hkt.out.trans hs.out.2⟩, by decide, by decide⟩, h0⟩
  · rw [if_neg hm, if_neg hm] at hup
    replace hr := Aside0.mk hr
    by_cases he : e' = 0
    · have b2 : (e' != 0) = false := by simp [he]
      replace he := Aside0.mk he
      go_wp2
      go_ret
      exact ⟨_, rfl, ⟨⟨_, _, hup, ⟨_, _, hr.out⟩, hz⟩, hkt, hn0, hn1⟩, by omega⟩
    · have b2 : (e' != 0) = true := by simpa using he
      have hn := hz.out he
      subst hn
      replace he := Aside0.mk he
      go_wp2
      go_ret
      exact ⟨_, rfl, ⟨⟨_, _, hup, ⟨_, _, hr.out⟩, ⟨fun _ => rfl⟩⟩, hkt, hn0, hn1⟩, by omega⟩
end Go.Proofs.YtijdmnjkiiemlaaDoor.H
