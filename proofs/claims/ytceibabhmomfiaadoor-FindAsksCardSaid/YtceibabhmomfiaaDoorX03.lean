/- Texts of this work, joined: Pg, Pk, Pp, Bl. Conditions: each stands with its theorem. -/
import Derived.Test.YtceibabhmomfiaaDoorX02
import Derived.Test.YtceibabhmomfiaaDoorX00
import Derived.Test.YtceibabhmomfiaaDoorX01
/- Plain: tests within a parser, the end of the bytes, errors that are no zero. -/
namespace Go.Proofs.YtceibabhmomfiaaDoor.H
open Go.RowKit
set_option linter.unusedVariables false
set_option linter.unusedSimpArgs false

/-- an error, if so -/
def pChk (b : Bool) (er : Int) (l : List Int) : PR Unit := if b = true then .error er else .ok ((), l)
def pEnd (l : List Int) : PR Unit := if l = [] then .ok ((), l) else .error 11
theorem Ran.chk (b : Bool) {er : Int} (her : er ≠ 0) (l : List Int) (e : Int) : Ran (pChk b er) l e () l (if b = true ∧ e = 0 then er else e) := by
  refine ⟨fun h => by rw [if_neg (fun q => h q.2)], fun h y r hp => ?_, fun h q hp => ?_⟩ <;> unfold pChk at hp <;> split at hp
  · injection hp
  · rename_i hne; injection hp with hp; injection hp with h1 h2; rw [if_neg (fun q => hne q.1)]; exact ⟨h, h1, h2⟩
  · rename_i heq; injection hp with hp; rw [if_pos ⟨heq, h⟩]; exact ⟨hp, by rw [← hp]; exact her⟩
  · injection hp
theorem Ran.fin (l : List Int) (e : Int) : Ran pEnd l e () l (if e = 0 ∧ 0 < l.length then 11 else e) := by
  refine ⟨fun h => by rw [if_neg (fun q => h q.1)], fun h y r hp => ?_, fun h q hp => ?_⟩ <;> unfold pEnd at hp <;> split at hp
  · rename_i heq; injection hp with hp; injection hp with h1 h2; rw [if_neg (fun q => by rw [heq] at q; exact absurd q.2 (by decide))]; exact ⟨h, h1, h2⟩
  · injection hp
  · injection hp
  · rename_i hne; injection hp with hp; rw [if_pos ⟨h, List.length_pos_iff.2 hne⟩]; exact ⟨hp, by rw [← hp]; decide⟩
theorem Cod.bind' {α β : Type} {p : List Int → PR α} {s : α → List Int} {P : α → Prop} {f : α → List Int → PR β} {t : α → β → List Int} {Q : α → β → Prop} (h : Cod p s P) (π : β → α) (hπ : ∀ x y, P x → Q x y → π y = x) (hf : ∀ x, P x → Cod (f x) (t x) (Q x)) :
    Cod (pBind p f) (fun y => s (π y) ++ t (π y) y) (fun y => P (π y) ∧ Q (π y) y) :=
  h.bind π (fun x hx => (hf x hx).congr (fun _ _ => rfl) (fun y => ⟨fun hy => ⟨hy, hπ x y hx hy⟩, fun hy => hy.1⟩))

def NZ {α : Type} (p : List Int → PR α) : Prop := ∀ l q, p l = .error q → q ≠ 0
theorem NZ.bind {α β : Type} {p : List Int → PR α} {f : α → List Int → PR β} (h : NZ p) (hf : ∀ x, NZ (f x)) : NZ (pBind p f) := by
  intro l q hp
  unfold pBind at hp
  cases hpl : p l with
  | error q' => rw [hpl] at hp; injection hp with hp; subst hp; exact h l _ hpl
  | ok z => obtain ⟨x, r⟩ := z; rw [hpl] at hp; exact hf x r q hp
theorem NZ.ret {α : Type} (x : α) : NZ (pRet x) := fun l q hp => by unfold pRet at hp; injection hp
theorem NZ.rep {α : Type} {p : List Int → PR α} (h : NZ p) (n : Nat) : NZ (pRep p n) := by
  induction n with
  | zero => exact fun l q hp => by unfold pRep at hp; injection hp
  | succ n ih => exact ih.bind fun xs => h.bind fun x => NZ.ret _
theorem nz_num : NZ pNum := fun l q hp => by
  unfold pNum at hp
  split at hp
  · injection hp
  · rename_i h; injection hp with hp; exact hp ▸ h
theorem nz_up (most er : Int) (h : er ≠ 0) : NZ (pUp most er) := nz_num.bind fun n l q hp => by
  split at hp
  · injection hp with hp; exact hp ▸ h
  · injection hp
theorem ByL.app {a b : List Int} (h : ByL a) (k : ByL b) : ByL (a ++ b) := fun x hx => (List.mem_append.1 hx).elim (h x) (k x)
theorem ByL.flat {α : Type} {l : List α} {f : α → List Int} (h : ∀ a ∈ l, ByL (f a)) : ByL (l.flatMap f) := fun x hx => by
  obtain ⟨a, ha, hx⟩ := List.mem_flatMap.1 hx
  exact h a ha x hx
end Go.Proofs.YtceibabhmomfiaaDoor.H

/- The values' own types: a place, a pair, a chart. -/
namespace Go.Proofs.YtceibabhmomfiaaDoor.H
open Go.RowKit Go.Proofs.YtceibabhmomfiaaDoorW.PrintWords
set_option linter.unusedVariables false
set_option linter.unusedSimpArgs false

/-! #### struct type 50 -/
structure SLoc where
  f0 : Int
  f1 : Int
def zLoc : SLoc := ⟨(0 : Int), (0 : Int)⟩
def kLoc : Kd SLoc := Kd.iso (Kd.pair (Kd.int .i64) (Kd.int .i64)) (fun x : SLoc => (x.f0, x.f1))
theorem kLoc_open {w : World} {x : SLoc} {cs : List Value} (h : kLoc.K w x cs) : cs = [.int .i64 x.f0, .int .i64 x.f1] := by
  obtain ⟨_, _, rfl, rfl, rfl⟩ := h
  exact rfl
theorem kLoc_openM {w : World} {base : Nat} {ok : Nat → Prop} {x : SLoc} {cs : List Value} (h : kLoc.M w base ok x cs) : cs = [.int .i64 x.f0, .int .i64 x.f1] := by
  obtain ⟨_, _, rfl, rfl, rfl⟩ := h
  exact rfl
theorem kLoc_mk (w : World) (x : SLoc)  : kLoc.K w x [.int .i64 x.f0, .int .i64 x.f1] := ⟨[.int .i64 x.f0], [.int .i64 x.f1], rfl, rfl, rfl⟩
theorem kLoc_mkM (w : World) (base : Nat) (ok : Nat → Prop) (x : SLoc)  : kLoc.M w base ok x [.int .i64 x.f0, .int .i64 x.f1] := ⟨[.int .i64 x.f0], [.int .i64 x.f1], rfl, rfl, rfl⟩
def rd_TLoc (xs : List SLoc) (i : Int) : SLoc := xs.getD i.toNat zLoc
theorem at_TLoc {w : World} {A : Option Addr} {n : Nat} {xs : List SLoc} (h : Kd.C kLoc w A n xs) (i : Int) (h0 : 0 ≤ i) (h1 : i < n) : ∃ ad , A = some ad ∧ w.cell? (ad.add (i.toNat * 2)) = some (.int .i64 (rd_TLoc xs i).f0) ∧ w.cell? ⟨(ad.add (i.toNat * 2)).block, (ad.add (i.toNat * 2)).off + 1, none⟩ = some (.int .i64 (rd_TLoc xs i).f1) := by
  obtain ⟨ad, c, e, _, hK, hc0⟩ := Kd.C_get h zLoc i h0 h1
  have hc : ∀ j u, c[j]? = some u → w.cell? (ad.add (i.toNat * 2 + j)) = some u := hc0
  obtain rfl := kLoc_open hK
  exact ⟨ad, e, hc 0 _ rfl, by rw [← add_field _ _ 1 (by omega)]; exact hc 1 _ rfl⟩

/-! #### struct type 73 -/
structure SPair where
  f0 : SLoc
  f1 : SLoc
def zPair : SPair := ⟨zLoc, zLoc⟩
def kPair : Kd SPair := Kd.iso (Kd.pair kLoc kLoc) (fun x : SPair => (x.f0, x.f1))
theorem kPair_open {w : World} {x : SPair} {cs : List Value} (h : kPair.K w x cs) : cs = [.int .i64 x.f0.f0, .int .i64 x.f0.f1, .int .i64 x.f1.f0, .int .i64 x.f1.f1] := by
  obtain ⟨_, _, rfl, s0, s2⟩ := h
  obtain rfl := kLoc_open s0
  obtain rfl := kLoc_open s2
  exact rfl
theorem kPair_openM {w : World} {base : Nat} {ok : Nat → Prop} {x : SPair} {cs : List Value} (h : kPair.M w base ok x cs) : cs = [.int .i64 x.f0.f0, .int .i64 x.f0.f1, .int .i64 x.f1.f0, .int .i64 x.f1.f1] := by
  obtain ⟨_, _, rfl, s0, s2⟩ := h
  obtain rfl := kLoc_openM s0
  obtain rfl := kLoc_openM s2
  exact rfl
theorem kPair_mk (w : World) (x : SPair)  : kPair.K w x [.int .i64 x.f0.f0, .int .i64 x.f0.f1, .int .i64 x.f1.f0, .int .i64 x.f1.f1] := ⟨[.int .i64 x.f0.f0, .int .i64 x.f0.f1], [.int .i64 x.f1.f0, .int .i64 x.f1.f1], rfl, (kLoc_mk w x.f0 ), (kLoc_mk w x.f1 )⟩
theorem kPair_mkM (w : World) (base : Nat) (ok : Nat → Prop) (x : SPair)  : kPair.M w base ok x [.int .i64 x.f0.f0, .int .i64 x.f0.f1, .int .i64 x.f1.f0, .int .i64 x.f1.f1] := ⟨[.int .i64 x.f0.f0, .int .i64 x.f0.f1], [.int .i64 x.f1.f0, .int .i64 x.f1.f1], rfl, (kLoc_mkM w base ok x.f0 ), (kLoc_mkM w base ok x.f1 )⟩
def rd_TPair (xs : List SPair) (i : Int) : SPair := xs.getD i.toNat zPair
theorem at_TPair {w : World} {A : Option Addr} {n : Nat} {xs : List SPair} (h : Kd.C kPair w A n xs) (i : Int) (h0 : 0 ≤ i) (h1 : i < n) : ∃ ad , A = some ad ∧ w.cell? (ad.add (i.toNat * 4)) = some (.int .i64 (rd_TPair xs i).f0.f0) ∧ w.cell? ⟨(ad.add (i.toNat * 4)).block, (ad.add (i.toNat * 4)).off + 1, none⟩ = some (.int .i64 (rd_TPair xs i).f0.f1) ∧ w.cell? ⟨(ad.add (i.toNat * 4)).block, (ad.add (i.toNat * 4)).off + 2, none⟩ = some (.int .i64 (rd_TPair xs i).f1.f0) ∧ w.cell? ⟨(ad.add (i.toNat * 4)).block, (ad.add (i.toNat * 4)).off + 3, none⟩ = some (.int .i64 (rd_TPair xs i).f1.f1) := by
  obtain ⟨ad, c, e, _, hK, hc0⟩ := Kd.C_get h zPair i h0 h1
  have hc : ∀ j u, c[j]? = some u → w.cell? (ad.add (i.toNat * 4 + j)) = some u := hc0
  obtain rfl := kPair_open hK
  exact ⟨ad, e, hc 0 _ rfl, by rw [← add_field _ _ 1 (by omega)]; exact hc 1 _ rfl, by rw [← add_field _ _ 2 (by omega)]; exact hc 2 _ rfl, by rw [← add_field _ _ 3 (by omega)]; exact hc 3 _ rfl⟩

def rd_L3 (xs : List (List SLoc)) (i : Int) : (List SLoc) := xs.getD i.toNat ([] : List SLoc)
theorem at_L3 {w : World} {A : Option Addr} {n : Nat} {xs : List (List SLoc)} (h : Kd.C (Kd.slice 50 kLoc) w A n xs) (i : Int) (h0 : 0 ≤ i) (h1 : i < n) : ∃ ad A0 c0, A = some ad ∧ w.cell? (ad.add i.toNat) = some (.slice A0 (rd_L3 xs i).length c0) ∧ (rd_L3 xs i).length ≤ c0 ∧ kLoc.C w A0 (rd_L3 xs i).length (rd_L3 xs i) := by
  obtain ⟨ad, c, e, _, hK, hc0⟩ := Kd.C_get h ([] : List SLoc) i h0 h1
  have hc : ∀ j u, c[j]? = some u → w.cell? (ad.add (i.toNat * 1 + j)) = some u := hc0
  obtain ⟨A0, c0, rfl, l0, g0⟩ := hK
  exact ⟨ad, A0, c0, e, by have hq := hc 0 _ rfl; rwa [Nat.mul_one, Nat.add_zero] at hq, l0, g0⟩

def rd_L4 (xs : List (List SPair)) (i : Int) : (List SPair) := xs.getD i.toNat ([] : List SPair)
theorem at_L4 {w : World} {A : Option Addr} {n : Nat} {xs : List (List SPair)} (h : Kd.C (Kd.slice 73 kPair) w A n xs) (i : Int) (h0 : 0 ≤ i) (h1 : i < n) : ∃ ad A0 c0, A = some ad ∧ w.cell? (ad.add i.toNat) = some (.slice A0 (rd_L4 xs i).length c0) ∧ (rd_L4 xs i).length ≤ c0 ∧ kPair.C w A0 (rd_L4 xs i).length (rd_L4 xs i) := by
  obtain ⟨ad, c, e, _, hK, hc0⟩ := Kd.C_get h ([] : List SPair) i h0 h1
  have hc : ∀ j u, c[j]? = some u → w.cell? (ad.add (i.toNat * 1 + j)) = some u := hc0
  obtain ⟨A0, c0, rfl, l0, g0⟩ := hK
  exact ⟨ad, A0, c0, e, by have hq := hc 0 _ rfl; rwa [Nat.mul_one, Nat.add_zero] at hq, l0, g0⟩

/-! #### struct type 36 -/
structure SChart where
  f0 : Int
  f1 : (List SLoc)
  f2 : (List SPair)
def zChart : SChart := ⟨(0 : Int), ([] : List SLoc), ([] : List SPair)⟩
def kChart : Kd SChart := Kd.iso (Kd.pair (Kd.int .i64) (Kd.pair (Kd.slice 50 kLoc) (Kd.slice 73 kPair))) (fun x : SChart => (x.f0, x.f1, x.f2))
theorem kChart_open {w : World} {x : SChart} {cs : List Value} (h : kChart.K w x cs) : ∃ A1 c1 A2 c2, cs = [.int .i64 x.f0, .slice A1 x.f1.length c1, .slice A2 x.f2.length c2] ∧ x.f1.length ≤ c1 ∧ kLoc.C w A1 x.f1.length x.f1 ∧ x.f2.length ≤ c2 ∧ kPair.C w A2 x.f2.length x.f2 := by
  obtain ⟨_, _, rfl, rfl, ⟨_, _, rfl, ⟨A1, c1, rfl, l1, g1⟩, ⟨A2, c2, rfl, l2, g2⟩⟩⟩ := h
  exact ⟨A1, c1, A2, c2, rfl, l1, g1, l2, g2⟩
theorem kChart_openM {w : World} {base : Nat} {ok : Nat → Prop} {x : SChart} {cs : List Value} (h : kChart.M w base ok x cs) : ∃ v1 v2, cs = [.int .i64 x.f0, v1, v2] ∧ kLoc.R 50 w base ok v1 x.f1 ∧ kPair.R 73 w base ok v2 x.f2 := by
  obtain ⟨_, _, rfl, rfl, ⟨_, _, rfl, ⟨v1, rfl, g1⟩, ⟨v2, rfl, g2⟩⟩⟩ := h
  exact ⟨v1, v2, rfl, g1, g2⟩
theorem kChart_mk (w : World) (x : SChart) {A1 : Option Addr} {c1 : Nat} (l1 : x.f1.length ≤ c1) (g1 : kLoc.C w A1 x.f1.length x.f1) {A2 : Option Addr} {c2 : Nat} (l2 : x.f2.length ≤ c2) (g2 : kPair.C w A2 x.f2.length x.f2) : kChart.K w x [.int .i64 x.f0, .slice A1 x.f1.length c1, .slice A2 x.f2.length c2] := ⟨[.int .i64 x.f0], [.slice A1 x.f1.length c1, .slice A2 x.f2.length c2], rfl, rfl, ⟨[.slice A1 x.f1.length c1], [.slice A2 x.f2.length c2], rfl, ⟨A1, c1, rfl, l1, g1⟩, ⟨A2, c2, rfl, l2, g2⟩⟩⟩
theorem kChart_mkM (w : World) (base : Nat) (ok : Nat → Prop) (x : SChart) {v1 : Value} (g1 : kLoc.R 50 w base ok v1 x.f1) {v2 : Value} (g2 : kPair.R 73 w base ok v2 x.f2) : kChart.M w base ok x [.int .i64 x.f0, v1, v2] := ⟨[.int .i64 x.f0], [v1, v2], rfl, rfl, ⟨[v1], [v2], rfl, ⟨v1, rfl, g1⟩, ⟨v2, rfl, g2⟩⟩⟩
def rd_TChart (xs : List SChart) (i : Int) : SChart := xs.getD i.toNat zChart
theorem at_TChart {w : World} {A : Option Addr} {n : Nat} {xs : List SChart} (h : Kd.C kChart w A n xs) (i : Int) (h0 : 0 ≤ i) (h1 : i < n) : ∃ ad A1 c1 A2 c2, A = some ad ∧ w.cell? (ad.add (i.toNat * 3)) = some (.int .i64 (rd_TChart xs i).f0) ∧ w.cell? ⟨(ad.add (i.toNat * 3)).block, (ad.add (i.toNat * 3)).off + 1, none⟩ = some (.slice A1 (rd_TChart xs i).f1.length c1) ∧ w.cell? ⟨(ad.add (i.toNat * 3)).block, (ad.add (i.toNat * 3)).off + 2, none⟩ = some (.slice A2 (rd_TChart xs i).f2.length c2) ∧ (rd_TChart xs i).f1.length ≤ c1 ∧ kLoc.C w A1 (rd_TChart xs i).f1.length (rd_TChart xs i).f1 ∧ (rd_TChart xs i).f2.length ≤ c2 ∧ kPair.C w A2 (rd_TChart xs i).f2.length (rd_TChart xs i).f2 := by
  obtain ⟨ad, c, e, _, hK, hc0⟩ := Kd.C_get h zChart i h0 h1
  have hc : ∀ j u, c[j]? = some u → w.cell? (ad.add (i.toNat * 3 + j)) = some u := hc0
  obtain ⟨A1, c1, A2, c2, rfl, l1, g1, l2, g2⟩ := kChart_open hK
  exact ⟨ad, A1, c1, A2, c2, e, hc 0 _ rfl, by rw [← add_field _ _ 1 (by omega)]; exact hc 1 _ rfl, by rw [← add_field _ _ 2 (by omega)]; exact hc 2 _ rfl, l1, g1, l2, g2⟩

end Go.Proofs.YtceibabhmomfiaaDoor.H

/- Plain: places, pairs, charts, and what is read of bytes. -/
namespace Go.Proofs.YtceibabhmomfiaaDoor.H
open Go.RowKit
set_option linter.unusedVariables false
set_option linter.unusedSimpArgs false

deriving instance DecidableEq for SLoc, SPair, SChart
/-- a place that may be -/
def mayL (x : SLoc) : Bool := if x.f0 = 1 then decide (0 ≤ x.f1 ∧ x.f1 < 32) else if x.f0 = 2 then decide (0 ≤ x.f1 ∧ x.f1 < 160) else false
def befL (x y : SLoc) : Bool := decide (x.f0 < y.f0 ∨ (x.f0 = y.f0 ∧ x.f1 < y.f1))
/-- a place's number, and back -/
def nOf (x : SLoc) : Int := 2 * x.f1 + x.f0
def locN (n : Int) : SLoc := ⟨2 - n % 2, (n - (2 - n % 2)).tdiv 2⟩
/-- a list, each of whose things is read in the light of those before it -/
def pGrow {α : Type} (p : List α → List Int → PR α) : Nat → List Int → PR (List α)
  | 0, l => .ok ([], l)
  | k + 1, l => pBind (pGrow p k) (fun xs => pBind (p xs) fun x => pRet (xs ++ [x])) l
abbrev mx : Int := 9223372036854775807
def pLoc : List Int → PR SLoc := pBind (pUp mx 5) fun n => pBind (pChk (!mayL (locN n)) 5) fun _ => pRet (locN n)
def pAbove (last top : Int) : List Int → PR Int := pBind (pUp mx 5) fun n => pBind (pChk (n == 0) 10) fun _ => pBind (pChk (decide (top - last < n)) 5) fun _ => pRet (last + n)
def lastI (xs : List Int) : Int := xs.getLast?.getD (-1)
def lastA (xs : List SChart) : Int := (xs.getLast?.map SChart.f0).getD 0
def bitsOf (m : Int) : List SLoc := ((List.range 32).filter fun i => decide (m / 2 ^ i % 2 = 1)).map fun (i : Nat) => ⟨1, (i : Int)⟩
def pRefs : List Int → PR (List SLoc) := pBind (pUp 4294967295 5) fun m => pBind (pUp 160 9) fun n => pBind (pGrow (fun xs => pAbove (lastI xs) 159) n.toNat) fun ks => pRet (bitsOf m ++ ks.map fun k => ⟨2, k⟩)
def pPair (rs : List SLoc) (xs : List SPair) : List Int → PR SPair :=
  pBind pLoc fun b => pBind (pChk (decide (b ∈ rs)) 5) fun _ => pBind (pChk (xs.getLast?.any fun y => !befL y.f0 b) 10) fun _ => pBind pLoc fun d => pBind (pChk (!decide (d ∈ rs)) 5) fun _ => pRet ⟨b, d⟩
def pDers (rs : List SLoc) : List Int → PR (List SPair) := pBind (pUp 192 9) fun n => pGrow (pPair rs) n.toNat
def pChart (last : Int) : List Int → PR SChart := pBind (pAbove last 1099511627776) fun a => pBind pRefs fun rs => pBind (pDers rs) fun ds => pRet ⟨a, rs, ds⟩
def pCharts : List Int → PR (List SChart) := pBind (pUp 2000 9) fun n => pBind (pGrow (fun xs => pChart (lastA xs)) n.toNat) fun cs => pBind pEnd fun _ => pRet cs
def dcE (l : List Int) : Int := match pCharts l with | .ok _ => 0 | .error q => q
def dcL (l : List Int) : List SChart := match pCharts l with | .ok x => x.1 | .error _ => []
section
variable {α : Type} {p : List α → List Int → PR α} {l l1 l2 : List Int} {e e1 e2 : Int} {x : α}
theorem Ran.grow0 (p : List α → List Int → PR α) (l : List Int) (e : Int) : Ran (pGrow p 0) l e [] l e := Ran.ret [] l e
theorem Ran.grow1 {k : Nat} {xs : List α} (h1 : Ran (pGrow p k) l e xs l1 e1) (h2 : Ran (p xs) l1 e1 x l2 e2) : Ran (pGrow p (k + 1)) l e (xs ++ [x]) l2 e2 := h1.bind (h2.bind (Ran.ret _ _ _))
theorem Ran.growEarly {k n : Nat} {xs : List α} (h1 : Ran (pGrow p k) l e xs l1 e1) (he : e1 ≠ 0) (hk : k ≤ n) (ys : List α) : Ran (pGrow p n) l e ys l1 e1 := by
  induction n with
  | zero =>
    have : k = 0 := by omega
    subst this
    refine ⟨h1.bad, fun h => ?_, h1.er⟩
    intro y r hp
    exact absurd (h1.ok h y r hp).1 he
  | succ n ih =>
    by_cases hkn : k ≤ n
    · exact (ih hkn).err he ys
    · have : k = n + 1 := by omega
      subst this
      exact ⟨h1.bad, fun h y r hp => absurd (h1.ok h y r hp).1 he, h1.er⟩
end
/-- after an error it is no matter what is left -/
theorem Ran.bad_left {α : Type} {p : List Int → PR α} {l l1 l2 : List Int} {e e1 : Int} {x y : α} (h : Ran p l e x l1 e1) (he : e1 ≠ 0) : Ran p l e y l2 e1 :=
  ⟨h.bad, fun h0 z r hp => absurd (h.ok h0 z r hp).1 he, h.er⟩
/-- what the whole reading came to -/
theorem Ran.wholeC {l l' : List Int} {cs : List SChart} {e' : Int} (h : Ran pCharts l 0 cs l' e') : e' = dcE l ∧ (e' = 0 → cs = dcL l) ∧ (e' ≠ 0 → dcL l = []) := by
  unfold dcE dcL
  cases hp : pCharts l with
  | ok x =>
    obtain ⟨a, b⟩ := x
    obtain ⟨h1, h2, h3⟩ := h.ok rfl a b hp
    exact ⟨h1, fun _ => h2, fun hn => absurd h1 hn⟩
  | error q =>
    obtain ⟨h1, h2⟩ := h.er rfl q hp
    exact ⟨h1, fun h0 => absurd (h1.symm.trans h0) h2, fun _ => rfl⟩
end Go.Proofs.YtceibabhmomfiaaDoor.H

/- Words of this work: append of one element, with what it owns, to a row of one's own made from a base on. -/
namespace Go.Proofs.YtceibabhmomfiaaDoor.H
open Go.RowKit Go.Proofs.YtceibabhmomfiaaDoorW.PrintWords
set_option linter.unusedVariables false
set_option linter.unusedSimpArgs false

/-- what is written only from w's size on doesn't count for w -/
theorem KT.after {ts : List Nat} {base : Nat} {w W W1 : World} (h : KT ts base w W) (k : Below w.heap.size W W1) (hb : base ≤ w.heap.size) : KT ts base w W1 :=
  ⟨h.below.trans (k.mono hb), fun i cs t fr hi hn => (k.block i (blk_lt hi)).trans (h.keep i cs t fr hi hn)⟩

section
variable {ops : Array Oper} {rest : List Oper} {o : Oper} {a : Act} {Q : Exit → Act → World → Prop}
theorem app_own_step {α : Type} (d : Kd α) (e t : Nat) (z : Value) (bytes : Nat) (ht : Tryd.prog.underlying t = some (.slice e)) (hinfo : (Tryd.prog.info? e).map (fun i => (i.zero, i.size, i.bytes)) = some (some z, d.sz, bytes)) (hz : z.cells.size = d.sz) (hs0 : 0 < d.sz) (hb0 : 0 < bytes) (hE : e ∉ d.E)
    {Kc : Act → World → Prop} {base : Nat} {W : World} {v : Value} {xs : List α} (p : α) (cs : List Value) (HO : OwnAt d e base W v xs) (HP : Aside0 (d.M W base (fun _ => True) p cs)) (hbase : base ≤ W.heap.size) (hgd : o.guard = none) (s x : Operand)
    (ho : o.op = .call { callee := .builtin .append, args := #[s, x], argTypes := #[t, t] })
    (hl : (xs.length + 1) * bytes ≤ 140737488355328) (hs : a.eval s = v) (hx : a.eval x = .slice (some ⟨W.heap.size, 0, none⟩) 1 1)
    (h : ∀ v1 w1, OwnAt d e base w1 v1 (xs ++ [p]) → KT [e] base W w1 → Kc (a.put o.dst v1) w1) :
    if Region.wanted o (yielded ops a.tmps) = true then Oper.wp Tryd.prog o a (W.alloc (.cells cs.toArray e)) Kc Q else Kc (a.put o.dst undef) (W.alloc (.cells cs.toArray e)) := by
  refine Kd.R_append_step d (w0 := W) base (by simp [Region.wanted, hgd]) s x t e z bytes ho ht hinfo hz hs0 hb0 v xs p cs (fun _ => True) _ hs hx (d.M_bound HP.out) ?_ (fun _ _ => trivial) HO.out (Below.refl _ _) hbase hl ?_
  · intro k hk
    refine ⟨trivial, fun hv => ?_⟩
    obtain ⟨_, _, _, q, hq, cells, hc⟩ := hk
    obtain ⟨cells', hc'⟩ := Kd.R_typed HO.out k hv.symm
    rw [hc] at hc'
    injection hc' with hc'
    injection hc' with _ hc' _
    exact hE (hc' ▸ hq)
  · intro v1 w1 ho hb hg hat
    obtain ⟨inner, hrow⟩ := Kd.R_own HO.out
    exact h v1 w1 ⟨ho⟩ (KT.grown hrow hg (by simp) (Nat.le_refl _) hbase)
end
section
variable {ops : Array Oper} {rest : List Oper} {o : Oper} {a : Act} {Q : Exit → Act → World → Prop}
/-- the same in a region whose order is fixed -/
theorem app_own {α : Type} (d : Kd α) (e t : Nat) (z : Value) (bytes : Nat) (ht : Tryd.prog.underlying t = some (.slice e)) (hinfo : (Tryd.prog.info? e).map (fun i => (i.zero, i.size, i.bytes)) = some (some z, d.sz, bytes)) (hz : z.cells.size = d.sz) (hs0 : 0 < d.sz) (hb0 : 0 < bytes) (hE : e ∉ d.E)
    {base : Nat} {W : World} {v : Value} {xs : List α} (p : α) (cs : List Value) (HO : OwnAt d e base W v xs) (HP : Aside0 (d.M W base (fun _ => True) p cs)) (hbase : base ≤ W.heap.size) (hgd : o.guard = none) (s x : Operand)
    (ho : o.op = .call { callee := .builtin .append, args := #[s, x], argTypes := #[t, t] })
    (hl : (xs.length + 1) * bytes ≤ 140737488355328) (hs : a.eval s = v) (hx : a.eval x = .slice (some ⟨W.heap.size, 0, none⟩) 1 1)
    (h : ∀ v1 w1, OwnAt d e base w1 v1 (xs ++ [p]) → KT [e] base W w1 → wpList Tryd.prog ops Q rest (a.put o.dst v1) w1) :
    wpList Tryd.prog ops Q (o :: rest) a (W.alloc (.cells cs.toArray e)) := by
  refine Kd.R_append d (w0 := W) base hgd s x t e z bytes ho ht hinfo hz hs0 hb0 v xs p cs (fun _ => True) _ hs hx (d.M_bound HP.out) ?_ (fun _ _ => trivial) HO.out (Below.refl _ _) hbase hl ?_
  · intro k hk
    refine ⟨trivial, fun hv => ?_⟩
    obtain ⟨_, _, _, q, hq, cells, hc⟩ := hk
    obtain ⟨cells', hc'⟩ := Kd.R_typed HO.out k hv.symm
    rw [hc] at hc'
    injection hc' with hc'
    injection hc' with _ hc' _
    exact hE (hc' ▸ hq)
  · intro v1 w1 ho hb hg hat
    obtain ⟨inner, hrow⟩ := Kd.R_own HO.out
    exact h v1 w1 ⟨ho⟩ (KT.grown hrow hg (by simp) (Nat.le_refl _) hbase)
end
theorem info_Loc : (Tryd.prog.info? 50).map (fun i => (i.zero, i.size, i.bytes)) = some (some (.agg #[.int .i64 0, .int .i64 0]), 2, 16) := by kernel_rfl
theorem info_Pair : (Tryd.prog.info? 73).map (fun i => (i.zero, i.size, i.bytes)) = some (some (.agg #[.int .i64 0, .int .i64 0, .int .i64 0, .int .i64 0]), 4, 32) := by kernel_rfl
theorem info_Chart : (Tryd.prog.info? 36).map (fun i => (i.zero, i.size, i.bytes)) = some (some (.agg #[.int .i64 0, .slice none 0 0, .slice none 0 0]), 3, 56) := by kernel_rfl
section
variable {ops : Array Oper} {rest : List Oper} {o : Oper} {a : Act} {Q : Exit → Act → World → Prop}
theorem app_int_at {Kc : Act → World → Prop} {base : Nat} {W : World} {v : Value} {xs : List Int} (p : Int) (cs : List Value) (HO : OwnAt (Kd.int .i64) 3 base W v xs) (HP : Aside0 ((Kd.int .i64).M W base (fun _ => True) p cs)) (hbase : base ≤ W.heap.size) (hgd : o.guard = none) (s x : Operand)
    (ho : o.op = .call { callee := .builtin .append, args := #[s, x], argTypes := #[52, 52] })
    (hl : xs.length ≤ 1000000000) (hs : a.eval s = v) (hx : a.eval x = .slice (some ⟨W.heap.size, 0, none⟩) 1 1)
    (h : ∀ v1 w1, OwnAt (Kd.int .i64) 3 base w1 v1 (xs ++ [p]) → KT [3] base W w1 → Kc (a.put o.dst v1) w1) :
    if Region.wanted o (yielded ops a.tmps) = true then Oper.wp Tryd.prog o a (W.alloc (.cells cs.toArray 3)) Kc Q else Kc (a.put o.dst undef) (W.alloc (.cells cs.toArray 3)) :=
  app_own_step (Kd.int .i64) 3 52 (.int .i64 0) 8 Tryd.underlying52 info_int rfl (by decide) (by decide) (by decide) p cs HO HP hbase hgd s x ho (by omega) hs hx h
theorem app_int_at_ {base : Nat} {W : World} {v : Value} {xs : List Int} (p : Int) (cs : List Value) (HO : OwnAt (Kd.int .i64) 3 base W v xs) (HP : Aside0 ((Kd.int .i64).M W base (fun _ => True) p cs)) (hbase : base ≤ W.heap.size) (hgd : o.guard = none) (s x : Operand)
    (ho : o.op = .call { callee := .builtin .append, args := #[s, x], argTypes := #[52, 52] })
    (hl : xs.length ≤ 1000000000) (hs : a.eval s = v) (hx : a.eval x = .slice (some ⟨W.heap.size, 0, none⟩) 1 1)
    (h : ∀ v1 w1, OwnAt (Kd.int .i64) 3 base w1 v1 (xs ++ [p]) → KT [3] base W w1 → wpList Tryd.prog ops Q rest (a.put o.dst v1) w1) :
    wpList Tryd.prog ops Q (o :: rest) a (W.alloc (.cells cs.toArray 3)) :=
  app_own (Kd.int .i64) 3 52 (.int .i64 0) 8 Tryd.underlying52 info_int rfl (by decide) (by decide) (by decide) p cs HO HP hbase hgd s x ho (by omega) hs hx h
end
section
variable {ops : Array Oper} {rest : List Oper} {o : Oper} {a : Act} {Q : Exit → Act → World → Prop}
theorem app_loc_at {Kc : Act → World → Prop} {base : Nat} {W : World} {v : Value} {xs : List SLoc} (p : SLoc) (cs : List Value) (HO : OwnAt kLoc 50 base W v xs) (HP : Aside0 (kLoc.M W base (fun _ => True) p cs)) (hbase : base ≤ W.heap.size) (hgd : o.guard = none) (s x : Operand)
    (ho : o.op = .call { callee := .builtin .append, args := #[s, x], argTypes := #[33, 33] })
    (hl : xs.length ≤ 1000000000) (hs : a.eval s = v) (hx : a.eval x = .slice (some ⟨W.heap.size, 0, none⟩) 1 1)
    (h : ∀ v1 w1, OwnAt kLoc 50 base w1 v1 (xs ++ [p]) → KT [50] base W w1 → Kc (a.put o.dst v1) w1) :
    if Region.wanted o (yielded ops a.tmps) = true then Oper.wp Tryd.prog o a (W.alloc (.cells cs.toArray 50)) Kc Q else Kc (a.put o.dst undef) (W.alloc (.cells cs.toArray 50)) :=
  app_own_step kLoc 50 33 (.agg #[.int .i64 0, .int .i64 0]) 16 Tryd.underlying33 info_Loc rfl (by decide) (by decide) (by decide) p cs HO HP hbase hgd s x ho (by omega) hs hx h
theorem app_loc_at_ {base : Nat} {W : World} {v : Value} {xs : List SLoc} (p : SLoc) (cs : List Value) (HO : OwnAt kLoc 50 base W v xs) (HP : Aside0 (kLoc.M W base (fun _ => True) p cs)) (hbase : base ≤ W.heap.size) (hgd : o.guard = none) (s x : Operand)
    (ho : o.op = .call { callee := .builtin .append, args := #[s, x], argTypes := #[33, 33] })
    (hl : xs.length ≤ 1000000000) (hs : a.eval s = v) (hx : a.eval x = .slice (some ⟨W.heap.size, 0, none⟩) 1 1)
    (h : ∀ v1 w1, OwnAt kLoc 50 base w1 v1 (xs ++ [p]) → KT [50] base W w1 → wpList Tryd.prog ops Q rest (a.put o.dst v1) w1) :
    wpList Tryd.prog ops Q (o :: rest) a (W.alloc (.cells cs.toArray 50)) :=
  app_own kLoc 50 33 (.agg #[.int .i64 0, .int .i64 0]) 16 Tryd.underlying33 info_Loc rfl (by decide) (by decide) (by decide) p cs HO HP hbase hgd s x ho (by omega) hs hx h
end
section
variable {ops : Array Oper} {rest : List Oper} {o : Oper} {a : Act} {Q : Exit → Act → World → Prop}
theorem app_pair_at {Kc : Act → World → Prop} {base : Nat} {W : World} {v : Value} {xs : List SPair} (p : SPair) (cs : List Value) (HO : OwnAt kPair 73 base W v xs) (HP : Aside0 (kPair.M W base (fun _ => True) p cs)) (hbase : base ≤ W.heap.size) (hgd : o.guard = none) (s x : Operand)
    (ho : o.op = .call { callee := .builtin .append, args := #[s, x], argTypes := #[34, 34] })
    (hl : xs.length ≤ 1000000000) (hs : a.eval s = v) (hx : a.eval x = .slice (some ⟨W.heap.size, 0, none⟩) 1 1)
    (h : ∀ v1 w1, OwnAt kPair 73 base w1 v1 (xs ++ [p]) → KT [73] base W w1 → Kc (a.put o.dst v1) w1) :
    if Region.wanted o (yielded ops a.tmps) = true then Oper.wp Tryd.prog o a (W.alloc (.cells cs.toArray 73)) Kc Q else Kc (a.put o.dst undef) (W.alloc (.cells cs.toArray 73)) :=
  app_own_step kPair 73 34 (.agg #[.int .i64 0, .int .i64 0, .int .i64 0, .int .i64 0]) 32 Tryd.underlying34 info_Pair rfl (by decide) (by decide) (by decide) p cs HO HP hbase hgd s x ho (by omega) hs hx h
theorem app_pair_at_ {base : Nat} {W : World} {v : Value} {xs : List SPair} (p : SPair) (cs : List Value) (HO : OwnAt kPair 73 base W v xs) (HP : Aside0 (kPair.M W base (fun _ => True) p cs)) (hbase : base ≤ W.heap.size) (hgd : o.guard = none) (s x : Operand)
    (ho : o.op = .call { callee := .builtin .append, args := #[s, x], argTypes := #[34, 34] })
    (hl : xs.length ≤ 1000000000) (hs : a.eval s = v) (hx : a.eval x = .slice (some ⟨W.heap.size, 0, none⟩) 1 1)
    (h : ∀ v1 w1, OwnAt kPair 73 base w1 v1 (xs ++ [p]) → KT [73] base W w1 → wpList Tryd.prog ops Q rest (a.put o.dst v1) w1) :
    wpList Tryd.prog ops Q (o :: rest) a (W.alloc (.cells cs.toArray 73)) :=
  app_own kPair 73 34 (.agg #[.int .i64 0, .int .i64 0, .int .i64 0, .int .i64 0]) 32 Tryd.underlying34 info_Pair rfl (by decide) (by decide) (by decide) p cs HO HP hbase hgd s x ho (by omega) hs hx h
end
section
variable {ops : Array Oper} {rest : List Oper} {o : Oper} {a : Act} {Q : Exit → Act → World → Prop}
theorem app_chart_at {Kc : Act → World → Prop} {base : Nat} {W : World} {v : Value} {xs : List SChart} (p : SChart) (cs : List Value) (HO : OwnAt kChart 36 base W v xs) (HP : Aside0 (kChart.M W base (fun _ => True) p cs)) (hbase : base ≤ W.heap.size) (hgd : o.guard = none) (s x : Operand)
    (ho : o.op = .call { callee := .builtin .append, args := #[s, x], argTypes := #[24, 24] })
    (hl : xs.length ≤ 1000000000) (hs : a.eval s = v) (hx : a.eval x = .slice (some ⟨W.heap.size, 0, none⟩) 1 1)
    (h : ∀ v1 w1, OwnAt kChart 36 base w1 v1 (xs ++ [p]) → KT [36] base W w1 → Kc (a.put o.dst v1) w1) :
    if Region.wanted o (yielded ops a.tmps) = true then Oper.wp Tryd.prog o a (W.alloc (.cells cs.toArray 36)) Kc Q else Kc (a.put o.dst undef) (W.alloc (.cells cs.toArray 36)) :=
  app_own_step kChart 36 24 (.agg #[.int .i64 0, .slice none 0 0, .slice none 0 0]) 56 Tryd.underlying24 info_Chart rfl (by decide) (by decide) (by decide) p cs HO HP hbase hgd s x ho (by omega) hs hx h
theorem app_chart_at_ {base : Nat} {W : World} {v : Value} {xs : List SChart} (p : SChart) (cs : List Value) (HO : OwnAt kChart 36 base W v xs) (HP : Aside0 (kChart.M W base (fun _ => True) p cs)) (hbase : base ≤ W.heap.size) (hgd : o.guard = none) (s x : Operand)
    (ho : o.op = .call { callee := .builtin .append, args := #[s, x], argTypes := #[24, 24] })
    (hl : xs.length ≤ 1000000000) (hs : a.eval s = v) (hx : a.eval x = .slice (some ⟨W.heap.size, 0, none⟩) 1 1)
    (h : ∀ v1 w1, OwnAt kChart 36 base w1 v1 (xs ++ [p]) → KT [36] base W w1 → wpList Tryd.prog ops Q rest (a.put o.dst v1) w1) :
    wpList Tryd.prog ops Q (o :: rest) a (W.alloc (.cells cs.toArray 36)) :=
  app_own kChart 36 24 (.agg #[.int .i64 0, .slice none 0 0, .slice none 0 0]) 56 Tryd.underlying24 info_Chart rfl (by decide) (by decide) (by decide) p cs HO HP hbase hgd s x ho (by omega) hs hx h
end
end Go.Proofs.YtceibabhmomfiaaDoor.H
