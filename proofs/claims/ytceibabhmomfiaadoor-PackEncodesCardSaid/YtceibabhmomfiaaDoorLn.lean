/- Layer 3: the code encodes charts as the reference does. -/
import Derived.Test.YtceibabhmomfiaaDoorLe
import Derived.Test.YtceibabhmomfiaaDoorRb2
namespace Go.Proofs.YtceibabhmomfiaaDoor.H
open Go.RowKit Go.Proofs.YtceibabhmomfiaaDoorW.PrintWords Go.Proofs.YtceibabhmomfiaaDoorW.PrintLast
set_option linter.unusedVariables false
set_option linter.unusedSimpArgs false
set_option maxRecDepth 100000

theorem rEncode_any (A : Option Addr) (c : Nat) (l : List SChart) (w : World) (HA : Rd kChart w A l) (hs : Aside0 (FewC l)) (hmx : Aside0 (∀ c ∈ l, c.f0 ≤ mx)) (ok : Bool) (hok : Aside0 (ok = true ↔ RightP l)) :
    Calls Tryd.prog 20 #[.slice A l.length c] w fun e w' => ∃ v, e = .returned (.tuple #[v, .int .i64 (eE ok)]) ∧ OwnB w w' v (eL ok l) ∧ Bel w w' := by
  cases ok with
  | true => exact rEncode_yes A c l w HA ⟨hok.out.1 rfl⟩ hmx
  | false =>
    refine (rEncode_no A c l w HA hs (fun h => by have := hok.out.2 h; cases this)).mono ?_
    rintro e w' ⟨rfl, hB⟩
    exact ⟨_, rfl, Own.nil _ _ _ _, hB⟩
theorem eL_len (ok : Bool) (l : List SChart) (hok : ok = true ↔ RightP l) : (eL ok l).length ≤ 12000010 := by
  cases ok with
  | true => exact encC_len (hok.1 rfl)
  | false => simp [eL]
set_option maxHeartbeats 1000000 in
theorem Size_any (A : Option Addr) (c : Nat) (l : List SChart) (w : World) (HA : Rd kChart w A l) (hs : Aside0 (FewC l)) (hmx : Aside0 (∀ c ∈ l, c.f0 ≤ mx)) (ok : Bool) (hok : Aside0 (ok = true ↔ RightP l)) :
    Calls Tryd.prog 21 #[.slice A l.length c] w fun e w' => e = .returned (.int .i64 (eL ok l).length) ∧ Bel w w' := by
  have he := Aside0.mk (Encode_any A c l w HA hs hmx ok hok)
  obtain ⟨x, hx⟩ : ∃ x, eL ok l = x := ⟨_, rfl⟩
  obtain ⟨y, hy⟩ : ∃ x, eE ok = x := ⟨_, rfl⟩
  rw [hx, hy] at he
  rw [hx]
  go_enter Tryd.func21, Tryd.ntmps21
  go_wp2_with (go_at_call 17; ((with_reducible refine he.out.mono ?_); rintro e w4 ⟨v4, rfl, hv4, hB4⟩; obtain ⟨A4, c4, rfl, hc4, hR4⟩ := hv4.reads))
  go_ret
  exact ⟨rfl, hB4⟩
set_option maxHeartbeats 2000000 in
theorem PackEncodes_walk (A : Option Addr) (c : Nat) (l : List SChart) (w : World) (hG : GlobA w.heap.size w) (HA : Rd kChart w A l) (hl : Aside0 (ACharts l)) :
    Calls Tryd.prog 7 #[.slice A l.length c] w fun e w' => e = .returned (.bool true) ∧ Bel w w' := by
  have hal := Aside0.mk (alive_any w hG)
  go_enter Tryd.func7, Tryd.ntmps7
  go_upto_region 3 with (go_at_call 12; ((with_reducible refine hal.out.mono ?_); rintro e w1 ⟨rfl, hB1⟩))
  have hg0 := Aside0.mk (Great_any A c l w1 (HA.step hB1) hl)
  go_upto_if 10 with (go_at_call 16; ((with_reducible refine hg0.out.mono ?_); rintro e w2 ⟨g0, rfl, hf0, hB2⟩; cases g0))
  · have hfl := hf0.out (by first | rfl | trivial)
    have hBw2 := hB1.trans hB2
    obtain ⟨ok, hok⟩ := ok_of l
    have he0 := Aside0.mk (Encode_any A c l w2 (HA.step hBw2) ⟨hfl⟩ ⟨mx_of hl.out⟩ ok hok)
    have he1 := Aside0.mk (fun W (k : Bel w2 W) => rEncode_any A c l W (HA.step (hBw2.trans k)) ⟨hfl⟩ ⟨mx_of hl.out⟩ ok hok)
    have he2 := Aside0.mk (fun W (k : Bel w2 W) => Size_any A c l W (HA.step (hBw2.trans k)) ⟨hfl⟩ ⟨mx_of hl.out⟩ ok hok)
    have hlen := eL_len ok l hok.out
    obtain ⟨x, hx⟩ : ∃ b, eL ok l = b := ⟨_, rfl⟩
    obtain ⟨y, hy⟩ : ∃ b, eE ok = b := ⟨_, rfl⟩
    rw [hx, hy] at he0 he1
    rw [hx] at he2 hlen
    have b0 : (y == y) = true := by simp
    have b1 : (x.length == x.length) = true := by simp
    clear hg0 hal hf0 hx hy hok
    go_upto_region 7 with (first | (go_at_call 17; ((with_reducible refine he0.out.mono ?_); rintro e w4 ⟨v4, rfl, hv4, hB4⟩; obtain ⟨A4, c4, rfl, hc4, hR4⟩ := hv4.reads)) | (go_at_call 20; ((with_reducible refine (he1.out _ hB4).mono ?_); rintro e w5 ⟨v5, rfl, hv5, hB5⟩; obtain ⟨A5, c5, rfl, hc5, hR5⟩ := hv5.reads)))
    have hs := Aside0.mk (Same_any A4 A5 c4 c5 x x w5 (hR4.step hB5) hR5 (by omega))
    rw [decide_eq_true (rfl : x = x)] at hs
    have hB25 := hB4.trans hB5
    clear he0 he1
    go_wp2_with (first | (go_at_call 18; ((with_reducible refine hs.out.mono ?_); rintro e w6 ⟨rfl, hd6⟩)) | (go_at_call 21; ((with_reducible refine (he2.out _ (hB25.trans (Bel.drawn hd6))).mono ?_); rintro e w7 ⟨rfl, hB7⟩)))
    go_ret
    exact ⟨rfl, hBw2.trans (hB25.trans ((Bel.drawn hd6).trans hB7))⟩
  · go_wp2
    go_ret
    exact ⟨rfl, hB1.trans hB2⟩
theorem PackEncodes_row (A0 : Option Addr) (c0 : Nat) (l0 : List SChart) (w : World) (hG : GlobA w.heap.size w) (H0 : Rd kChart w A0 l0) (_ : l0.length ≤ c0) (o0 : ACharts l0) :
    Calls Tryd.prog 7 #[.slice A0 l0.length c0] w fun e w' => e = .returned (.bool true) ∧ Bel w w' := PackEncodes_walk A0 c0 l0 w hG H0 ⟨o0⟩
end Go.Proofs.YtceibabhmomfiaaDoor.H
