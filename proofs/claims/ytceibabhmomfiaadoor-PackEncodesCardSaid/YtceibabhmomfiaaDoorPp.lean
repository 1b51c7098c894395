/- Plain: places, pairs, charts, and what is read of bytes. -/
import Derived.Test.YtceibabhmomfiaaDoorPg
import Derived.Test.YtceibabhmomfiaaDoorPk
namespace Go.Proofs.YtceibabhmomfiaaDoor.H
open Go.RowKit
set_option linter.unusedVariables false
set_option linter.unusedSimpArgs false

deriving instance DecidableEq for SLoc, SPair, SChart
/-- a place that may be -/
def mayL (x : SLoc) : Bool := if x.f0 = 1 then decide (0 ≤ x.f1 ∧ x.f1 < 32) else if x.f0 = 2 then decide (0 ≤ x.f1 ∧ x.f1 < 160) else false
def befL (x y : SLoc) : Bool := decide (x.f0 < y.f0 ∨ (x.f0 = y.f0 ∧ x.f1 < y.f1))
/-- a place's number, and back -/
def nOf (x : SLoc) : Int := 2 * x.f1 + x.f0
def locN (n : Int) : SLoc := ⟨2 - n % 2, (n - (2 - n % 2)).tdiv 2⟩
/-- a list, each of whose things is read in the light of those before it -/
def pGrow {α : Type} (p : List α → List Int → PR α) : Nat → List Int → PR (List α)
  | 0, l => .ok ([], l)
  | k + 1, l => pBind (pGrow p k) (fun xs => pBind (p xs) fun x => pRet (xs ++ [x])) l
abbrev mx : Int := 9223372036854775807
def pLoc : List Int → PR SLoc := pBind (pUp mx 5) fun n => pBind (pChk (!mayL (locN n)) 5) fun _ => pRet (locN n)
def pAbove (last top : Int) : List Int → PR Int := pBind (pUp mx 5) fun n => pBind (pChk (n == 0) 10) fun _ => pBind (pChk (decide (top - last < n)) 5) fun _ => pRet (last + n)
def lastI (xs : List Int) : Int := xs.getLast?.getD (-1)
def lastA (xs : List SChart) : Int := (xs.getLast?.map SChart.f0).getD 0
def bitsOf (m : Int) : List SLoc := ((List.range 32).filter fun i => decide (m / 2 ^ i % 2 = 1)).map fun (i : Nat) => ⟨1, (i : Int)⟩
def pRefs : List Int → PR (List SLoc) := pBind (pUp 4294967295 5) fun m => pBind (pUp 160 9) fun n => pBind (pGrow (fun xs => pAbove (lastI xs) 159) n.toNat) fun ks => pRet (bitsOf m ++ ks.map fun k => ⟨2, k⟩)
def pPair (rs : List SLoc) (xs : List SPair) : List Int → PR SPair :=
  pBind pLoc fun b => pBind (pChk (decide (b ∈ rs)) 5) fun _ => pBind (pChk (xs.getLast?.any fun y => !befL y.f0 b) 10) fun _ => pBind pLoc fun d => pBind (pChk (!decide (d ∈ rs)) 5) fun _ => pRet ⟨b, d⟩
def pDers (rs : List SLoc) : List Int → PR (List SPair) := pBind (pUp 192 9) fun n => pGrow (pPair rs) n.toNat
def pChart (last : Int) : List Int → PR SChart := pBind (pAbove last 1099511627776) fun a => pBind pRefs fun rs => pBind (pDers rs) fun ds => pRet ⟨a, rs, ds⟩
def pCharts : List Int → PR (List SChart) := pBind (pUp 2000 9) fun n => pBind (pGrow (fun xs => pChart (lastA xs)) n.toNat) fun cs => pBind pEnd fun _ => pRet cs
def dcE (l : List Int) : Int := match pCharts l with | .ok _ => 0 | .error q => q
def dcL (l : List Int) : List SChart := match pCharts l with | .ok x => x.1 | .error _ => []
section
variable {α : Type} {p : List α → List Int → PR α} {l l1 l2 : List Int} {e e1 e2 : Int} {x : α}
theorem Ran.grow0 (p : List α → List Int → PR α) (l : List Int) (e : Int) : Ran (pGrow p 0) l e [] l e := Ran.ret [] l e
theorem Ran.grow1 {k : Nat} {xs : List α} (h1 : Ran (pGrow p k) l e xs l1 e1) (h2 : Ran (p xs) l1 e1 x l2 e2) : Ran (pGrow p (k + 1)) l e (xs ++ [x]) l2 e2 := h1.bind (h2.bind (Ran.ret _ _ _))
theorem Ran.growEarly {k n : Nat} {xs : List α} (h1 : Ran (pGrow p k) l e xs l1 e1) (he : e1 ≠ 0) (hk : k ≤ n) (ys : List α) : Ran (pGrow p n) l e ys l1 e1 := by
  induction n with
  | zero =>
    have : k = 0 := by omega
    subst this
    refine ⟨h1.bad, fun h => ?_, h1.er⟩
    intro y r hp
    exact absurd (h1.ok h y r hp).1 he
  | succ n ih =>
    by_cases hkn : k ≤ n
    · exact (ih hkn).err he ys
    · have : k = n + 1 := by omega
      subst this
      exact ⟨h1.bad, fun h y r hp => absurd (h1.ok h y r hp).1 he, h1.er⟩
end
/-- after an error it is no matter what is left -/
theorem Ran.bad_left {α : Type} {p : List Int → PR α} {l l1 l2 : List Int} {e e1 : Int} {x y : α} (h : Ran p l e x l1 e1) (he : e1 ≠ 0) : Ran p l e y l2 e1 :=
  ⟨h.bad, fun h0 z r hp => absurd (h.ok h0 z r hp).1 he, h.er⟩
/-- what the whole reading came to -/
theorem Ran.wholeC {l l' : List Int} {cs : List SChart} {e' : Int} (h : Ran pCharts l 0 cs l' e') : e' = dcE l ∧ (e' = 0 → cs = dcL l) ∧ (e' ≠ 0 → dcL l = []) := by
  unfold dcE dcL
  cases hp : pCharts l with
  | ok x =>
    obtain ⟨a, b⟩ := x
    obtain ⟨h1, h2, h3⟩ := h.ok rfl a b hp
    exact ⟨h1, fun _ => h2, fun hn => absurd h1 hn⟩
  | error q =>
    obtain ⟨h1, h2⟩ := h.er rfl q hp
    exact ⟨h1, fun h0 => absurd (h1.symm.trans h0) h2, fun _ => rfl⟩
end Go.Proofs.YtceibabhmomfiaaDoor.H
