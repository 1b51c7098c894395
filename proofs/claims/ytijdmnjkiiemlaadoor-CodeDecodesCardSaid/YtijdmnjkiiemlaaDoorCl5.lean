/- Layer 3: the code decodes as the reference does. -/
import Derived.Test.YtijdmnjkiiemlaaDoorCa
import Derived.Test.YtijdmnjkiiemlaaDoorCc5
import Derived.Test.YtijdmnjkiiemlaaDoorCs4
import Derived.Test.YtijdmnjkiiemlaaDoorCx
import Derived.Test.YtijdmnjkiiemlaaDoorRr3
namespace Go.Proofs.YtijdmnjkiiemlaaDoor.H
open Go.RowKit Go.Proofs.YtijdmnjkiiemlaaDoorW.PrintWords Go.Proofs.YtijdmnjkiiemlaaDoorW.PrintLast
set_option linter.unusedVariables false
set_option linter.unusedSimpArgs false

theorem GlobA.on5 {w W : World} (hG : GlobA w.heap.size w) (k : Bel w W) : GlobA W.heap.size W := ⟨⟨Nat.lt_of_lt_of_le hG.out.pos k.size, (hG.out.step k (Nat.le_refl _)).at_⟩⟩
set_option maxRecDepth 100000
set_option maxHeartbeats 8000000 in
theorem CodeDecodes_walk (B : Option Addr) (d : Nat) (m : List Int) (op : Int) (w : World) (hG : GlobA w.heap.size w) (HB : RdB w B m) (hd : m.length ≤ d) (hm : Bytes m) :
    Calls Tryd.prog 5 #[.slice B m.length d, .int .i64 op] w fun e w' => e = .returned (.bool true) ∧ Bel w w' := by
  have hal := Aside0.mk (alive_any w hG)
  go_enter Tryd.func5, Tryd.ntmps5
  go_upto_region 3 with (go_at_call 8; ((with_reducible refine hal.out.mono ?_); rintro e w1 ⟨rfl, hB1⟩))
  by_cases hmore : 5000 < m.length
  · go_wp2
    go_ret
    exact ⟨rfl, hB1⟩
  have hdm := Decode_any B d m w1 (hG.on5 hB1) hd (HB.step hB1) hm (by omega)
  have hrm := Aside0.mk (fun W (k : Bel w1 W) => DecodeRef_any B d m W hd (HB.step (hB1.trans k)) hm (by omega))
  obtain ⟨x, hx⟩ : ∃ x, decE m = x := ⟨_, rfl⟩
  obtain ⟨fs, hfs⟩ : ∃ f, decL m = f := ⟨_, rfl⟩
  rw [hx, hfs] at hdm hrm
  replace hdm := Aside0.mk hdm
  clear hx hfs
  go_upto_region 6 with (go_at_call 15; (with_reducible refine hdm.out.mono ?_); rintro e w5 ⟨v5, rfl, hv5, hB5, _⟩; obtain ⟨A5, c5, rfl, _, hR5⟩ := hv5.reads)
  have hp5 : Bel w5 (w5.alloc (.cells #[.slice A5 fs.length c5] 24)) := (Bel.refl w5).alloc _
  have hb5 := heap_alloc_new w5 (.cells #[.slice A5 fs.length c5] 24)
  generalize w5.alloc (.cells #[.slice A5 fs.length c5] 24) = w6 at hp5 hb5 ⊢
  obtain ⟨b1, hb1⟩ : ∃ b, w5.heap.size = b := ⟨_, rfl⟩
  rw [hb1] at hb5 ⊢
  replace hb1 := Aside0.mk hb1
  have hB6 := hB5.trans hp5
  have hR6 := hR5.step hp5
  have hr6 := Aside0.mk (hrm.out w6 hB6)
  have z := Aside0.mk (fun W (k : Bel w6 W) => (show W.cell? ⟨b1, 0, none⟩ = some (.slice A5 fs.length c5) from Bel.cell k (blk_cell hb5 0)))
  clear hdm hrm hal hv5 hR5 hb5
  go_upto_region 7 with (go_at_call 16; (with_reducible refine hr6.out.mono ?_); rintro e w7 ⟨v7, rfl, hv7, hB7⟩; obtain ⟨A7, c7, rfl, _, hR7⟩ := hv7.reads)
  have hp7 : Bel w7 (w7.alloc (.cells #[.slice A7 fs.length c7] 24)) := (Bel.refl w7).alloc _
  have hb7 := heap_alloc_new w7 (.cells #[.slice A7 fs.length c7] 24)
  generalize w7.alloc (.cells #[.slice A7 fs.length c7] 24) = w8 at hp7 hb7 ⊢
  obtain ⟨b2, hb2⟩ : ∃ b, w7.heap.size = b := ⟨_, rfl⟩
  rw [hb2] at hb7 ⊢
  replace hb2 := Aside0.mk hb2
  have y0 : w8.cell? ⟨b2, 0, none⟩ = some (.slice A7 fs.length c7) := blk_cell hb7 0
  have hB8 := hB7.trans hp7
  have z0 := z.out w8 hB8
  have hBw8 := (hB1.trans hB6).trans hB8
  have hsm := Aside0.mk ((rSame_any A5 A7 c5 c7 fs fs w8 True ⟨by simp⟩ (hR6.step hB8) (hR7.step hp7)).mono (fun e w' h => h.yes trivial))
  have hpa := Aside0.mk (fun W (k : Bel w8 W) => Parts_any op W.heap.size W (hG.on5 (hBw8.trans k)))
  have b0 : (x == x) = true := by simp
  clear hr6 hv7 hR7 hb7 z hR6
  go_wp2_with (first | (go_at_call 14; (with_reducible refine hsm.out.mono ?_); rintro e w9 ⟨rfl, hB9⟩) | (go_at_call 17; (with_reducible refine (hpa.out _ hB9).mono ?_); rintro e wx ⟨rfl, rfl⟩) | (go_at_call 18; ((with_reducible refine (refParts_any op _).mono ?_); rintro e wx ⟨rfl, rfl⟩)))
  go_ret
  exact ⟨rfl, hBw8.trans hB9⟩
theorem CodeDecodes_row (A0 : Option Addr) (c0 : Nat) (l0 : List Int) (n : Int) (w : World) (hG : GlobA w.heap.size w) (H0 : RdB w A0 l0) (k0 : l0.length ≤ c0) (o0 : ABytes l0) (b0 : -9223372036854775808 ≤ n) (b1 : n ≤ 9223372036854775807) :
    Calls Tryd.prog 5 #[.slice A0 l0.length c0, .int .i64 n] w fun e w' => e = .returned (.bool true) ∧ Bel w w' := CodeDecodes_walk A0 c0 l0 n w hG H0 k0 ⟨fun x hx => (o0.2 x hx).ok⟩
end Go.Proofs.YtijdmnjkiiemlaaDoor.H
