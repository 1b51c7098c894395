/- Layer 3: the code decodes charts as the reference does. -/
import Derived.Test.YtceibabhmomfiaaDoorLa
import Derived.Test.YtceibabhmomfiaaDoorPx5
import Derived.Test.YtceibabhmomfiaaDoorLx
namespace Go.Proofs.YtceibabhmomfiaaDoor.H
open Go.RowKit Go.Proofs.YtceibabhmomfiaaDoorW.PrintWords Go.Proofs.YtceibabhmomfiaaDoorW.PrintLast
set_option linter.unusedVariables false
set_option linter.unusedSimpArgs false
set_option maxRecDepth 100000

theorem few_dec {m : List Int} (hb : ByL m) : FewC (dcL m) := by
  by_cases h : dcE m = 0
  · exact few_of (dec_just hb h).1
  · rw [dec_none h]; exact ⟨by simp, fun c hc => by cases hc⟩
set_option maxHeartbeats 4000000 in
theorem PackDecodes_walk (B : Option Addr) (d : Nat) (m : List Int) (w : World) (hG : GlobA w.heap.size w) (HB : RdB w B m) (hd : m.length ≤ d) (hm : Bytes m) :
    Calls Tryd.prog 3 #[.slice B m.length d] w fun e w' => e = .returned (.bool true) ∧ Bel w w' := by
  have hal := Aside0.mk (alive_any w hG)
  go_enter Tryd.func3, Tryd.ntmps3
  go_upto_region 3 with (go_at_call 12; ((with_reducible refine hal.out.mono ?_); rintro e w1 ⟨rfl, hB1⟩))
  by_cases hmore : 4000 < m.length
  · go_wp2
    go_ret
    exact ⟨rfl, hB1⟩
  have hdm := Decode_any B d m w1 (hG.later hB1) hd (HB.step hB1) hm (by omega)
  have hrm := Aside0.mk (fun W (k : Bel w1 W) => DecodeRef_any B d m W hd (HB.step (hB1.trans k)) hm (by omega))
  have hfew := few_dec hm.out
  obtain ⟨x, hx⟩ : ∃ x, dcE m = x := ⟨_, rfl⟩
  obtain ⟨fs, hfs⟩ : ∃ f, dcL m = f := ⟨_, rfl⟩
  rw [hx, hfs] at hdm hrm
  rw [hfs] at hfew
  replace hdm := Aside0.mk hdm
  clear hx hfs
  have b0 : (x == x) = true := by simp
  go_upto_region 7 with (first | (go_at_call 13; (with_reducible refine hdm.out.mono ?_); rintro e w5 ⟨v5, rfl, hv5, hB5⟩; obtain ⟨A5, c5, rfl, _, hR5⟩ := hv5.reads) | (go_at_call 14; (with_reducible refine (hrm.out _ hB5).mono ?_); rintro e w7 ⟨v7, rfl, hv7, hB7⟩; obtain ⟨A7, c7, rfl, _, hR7⟩ := hv7.reads))
  have hsm := Aside0.mk ((rSame_any A5 A7 c5 c7 fs fs w7 (hR5.step hB7) hR7 ⟨hfew⟩ ⟨hfew⟩).mono (fun e w' h => h.yes rfl))
  go_wp2_with (go_at_call 15; (with_reducible refine hsm.out.mono ?_); rintro e w9 ⟨rfl, hB9⟩)
  go_ret
  exact ⟨rfl, hB1.trans (hB5.trans (hB7.trans hB9))⟩
theorem PackDecodes_row (A0 : Option Addr) (c0 : Nat) (l0 : List Int) (w : World) (hG : GlobA w.heap.size w) (H0 : RdB w A0 l0) (k0 : l0.length ≤ c0) (o0 : ABytes l0) :
    Calls Tryd.prog 3 #[.slice A0 l0.length c0] w fun e w' => e = .returned (.bool true) ∧ Bel w w' := PackDecodes_walk A0 c0 l0 w hG H0 k0 ⟨fun x hx => (o0.2 x hx).ok⟩
end Go.Proofs.YtceibabhmomfiaaDoor.H
