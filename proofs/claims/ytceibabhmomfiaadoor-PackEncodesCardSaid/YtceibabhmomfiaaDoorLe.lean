/- Plain and walks: what the laws on packed charts lean on. -/
import Derived.Test.YtceibabhmomfiaaDoorLa
import Derived.Test.YtceibabhmomfiaaDoorLg
namespace Go.Proofs.YtceibabhmomfiaaDoor.H
open Go.RowKit Go.Proofs.YtceibabhmomfiaaDoorW.PrintWords Go.Proofs.YtceibabhmomfiaaDoorW.PrintLast
set_option linter.unusedVariables false
set_option linter.unusedSimpArgs false
set_option maxRecDepth 100000

def eE (ok : Bool) : Int := if ok then 0 else 1
def eL (ok : Bool) (l : List SChart) : List Int := if ok then encC l else []
theorem Encode_any (A : Option Addr) (c : Nat) (l : List SChart) (w : World) (HA : Rd kChart w A l) (hs : Aside0 (FewC l)) (hmx : Aside0 (∀ c ∈ l, c.f0 ≤ mx)) (ok : Bool) (hok : Aside0 (ok = true ↔ RightP l)) :
    Calls Tryd.prog 17 #[.slice A l.length c] w fun e w' => ∃ v, e = .returned (.tuple #[v, .int .i64 (eE ok)]) ∧ OwnB w w' v (eL ok l) ∧ Bel w w' := by
  cases ok with
  | true => exact Encode_yes A c l w HA ⟨hok.out.1 rfl⟩ hmx
  | false =>
    refine (Encode_no A c l w HA hs (fun h => by have := hok.out.2 h; cases this)).mono ?_
    rintro e w' ⟨rfl, hB⟩
    exact ⟨_, rfl, Own.nil _ _ _ _, hB⟩
theorem ok_of (l : List SChart) : ∃ ok : Bool, Aside0 (ok = true ↔ RightP l) := by
  by_cases h : RightP l
  · exact ⟨true, ⟨⟨fun _ => h, fun _ => rfl⟩⟩⟩
  · exact ⟨false, ⟨⟨fun q => (by cases q), fun q => absurd q h⟩⟩⟩
theorem mx_of {l : List SChart} (h : ACharts l) : ∀ c ∈ l, c.f0 ≤ mx := fun c hc => ((h.2 c hc).f0.ok).2
theorem near_last {l : List SChart} (h : RightP l) (m : Nat) (hm : l.length = m + 1) : Near l ↔ (l[m]'(by omega)).f0 ≤ farA := by
  refine ⟨fun hn => hn _ (List.getElem_mem _), fun hl c hc => ?_⟩
  obtain ⟨j, hj, rfl⟩ := List.getElem_of_mem hc
  have : ∀ d j (hj : j < l.length), j + d = m → (l[j]).f0 ≤ (l[m]'(by omega)).f0 := by
    intro d
    induction d with
    | zero => intro j hj hjm; simp only [Nat.add_zero] at hjm; subst hjm; exact Int.le_refl _
    | succ d ih =>
      intro j hj hjm
      have h1 := h.rise j (by omega)
      have h2 := ih (j + 1) (by omega) (by omega)
      exact Int.le_trans (Int.le_of_lt h1) h2
  exact Int.le_trans (this (m - j) j hj (by omega)) hl
theorem near_nil : Near [] := fun c hc => by cases hc
end Go.Proofs.YtceibabhmomfiaaDoor.H
