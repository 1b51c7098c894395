/- Layer 3, walks: are charts greater ones than are looked at? -/
import Derived.Test.YtceibabhmomfiaaDoorLx
import Derived.Test.YtceibabhmomfiaaDoorPx6
namespace Go.Proofs.YtceibabhmomfiaaDoor.H
open Go.RowKit Go.Proofs.YtceibabhmomfiaaDoorW.PrintWords Go.Proofs.YtceibabhmomfiaaDoorW.PrintLast
set_option linter.unusedVariables false
set_option linter.unusedSimpArgs false
set_option maxRecDepth 100000

def NotGreat (l : List SChart) (w : World) (e : Ending) (w' : World) : Prop := ∃ g, e = .returned (.bool g) ∧ Aside0 (g = false → FewC l) ∧ Bel w w'
theorem notGreat_mk {l : List SChart} {w w' : World} {s : Int} (h : s ≤ 1000 → FewC l) (hB : Bel w w') : NotGreat l w (.returned (.bool (decide (1000 < s)))) w' := ⟨_, rfl, ⟨fun q => h (by simpa using q)⟩, hB⟩
theorem notGreat_true {l : List SChart} {w w' : World} (hB : Bel w w') : NotGreat l w (.returned (.bool true)) w' := ⟨_, rfl, ⟨fun q => by cases q⟩, hB⟩
set_option maxHeartbeats 4000000 in
theorem Great_raw (A : Option Addr) (c : Nat) (l : List SChart) (w : World) (HR : Rd kChart w A l) (hin : Aside0 (ACharts l)) :
    Calls Tryd.prog 16 #[.slice A l.length c] w (NotGreat l w) := by
  have hm : l.length ≤ 140737488351232 := by have := hin.out.1; omega
  go_enter Tryd.func16, Tryd.ntmps16
  go_wp2
  go_loopw [3, 4] (fun n i W => ∃ (k : Nat) (s : Int), k ≤ l.length ∧ i = .int .i64 k ∧ n = .int .i64 s ∧ (l.length : Int) ≤ s ∧ s ≤ 1000000000000000 ∧ Aside0 (s ≤ 1000 → ∀ j (hj : j < l.length), j < k → (l[j]).f1.length ≤ 1000 ∧ (l[j]).f2.length ≤ 1000) ∧ Bel w W) (fun _ i _ => l.length - (intOf i).toNat)
  case atStart => exact ⟨0, _, by omega, rfl, rfl, by omega, by omega, ⟨fun _ j _ h => absurd h (by omega)⟩, Bel.refl _⟩
  case round =>
    obtain ⟨k, s, hk, rfl, rfl, hs0, hs1, hok, hB1⟩ := hrel
    by_cases hlt : k < l.length
    · by_cases hs : s ≤ 1000
      · obtain ⟨ad, A1, c1, A2, c2, rfl, u0, u1, u2, _, _⟩ := chart_at (HR.step hB1) k hlt
        have hin1 := hin.out.2 l[k] (List.getElem_mem hlt)
        have hok2 := hok.out hs
        have hnx := Aside0.mk (fun (h : (l[k]).f1.length ≤ 1000 ∧ (l[k]).f2.length ≤ 1000) j (hj : j < l.length) (hjk : j < k + 1) => show (l[j]).f1.length ≤ 1000 ∧ (l[j]).f2.length ≤ 1000 from by
          by_cases e : j = k
          · subst e; exact h
          · exact hok2 j hj (by omega))
        obtain ⟨x, hx⟩ : ∃ x, l[k] = x := ⟨_, rfl⟩
        rw [hx] at u0 u1 u2 hin1 hnx
        have h1 : x.f1.length ≤ 140737488351232 := by have := hin1.l1; omega
        have h2 : x.f2.length ≤ 140737488351232 := by have := hin1.l2; omega
        obtain ⟨n1, hn1⟩ : ∃ n, x.f1.length = n := ⟨_, rfl⟩
        obtain ⟨n2, hn2⟩ : ∃ n, x.f2.length = n := ⟨_, rfl⟩
        rw [hn1] at u1 h1 hnx
        rw [hn2] at u2 h2 hnx
        clear hx hin1 hok2 hn1 hn2
        go_upto_region 5 with (fail)
        go_region_law (fail)
        all_goals
          go_wp2
          go_roundw
          case rel => exact ⟨k + 1, s + n1 + n2, by omega, by go_num, rfl, by omega, by omega, ⟨fun h => hnx.out ⟨by omega, by omega⟩⟩, hB1.drewN 1⟩
          case measure => simp [intOf]; omega
      · go_wp2
        go_ret
        exact notGreat_true hB1
    · have hfew : Aside0 (s ≤ 1000 → FewC l) := ⟨fun h => ⟨by omega, fun c hc => by
        obtain ⟨j, hj, rfl⟩ := List.getElem_of_mem hc
        have := hok.out h j hj (by omega)
        omega⟩⟩
      go_wp2
      go_ret
      exact notGreat_mk hfew.out hB1
theorem Great_any (A : Option Addr) (c : Nat) (l : List SChart) (w : World) (HR : Rd kChart w A l) (hin : Aside0 (ACharts l)) :
    Calls Tryd.prog 16 #[.slice A l.length c] w fun e w' => ∃ g, e = .returned (.bool g) ∧ Aside0 (g = false → FewC l) ∧ Bel w w' := Great_raw A c l w HR hin
end Go.Proofs.YtceibabhmomfiaaDoor.H
