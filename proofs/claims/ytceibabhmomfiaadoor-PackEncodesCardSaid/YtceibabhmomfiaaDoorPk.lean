/- The values' own types: a place, a pair, a chart. -/
import Derived.Test.YtceibabhmomfiaaDoorBa
namespace Go.Proofs.YtceibabhmomfiaaDoor.H
open Go.RowKit Go.Proofs.YtceibabhmomfiaaDoorW.PrintWords
set_option linter.unusedVariables false
set_option linter.unusedSimpArgs false

/-! #### struct type 50 -/
structure SLoc where
  f0 : Int
  f1 : Int
def zLoc : SLoc := ⟨(0 : Int), (0 : Int)⟩
def kLoc : Kd SLoc := Kd.iso (Kd.pair (Kd.int .i64) (Kd.int .i64)) (fun x : SLoc => (x.f0, x.f1))
theorem kLoc_open {w : World} {x : SLoc} {cs : List Value} (h : kLoc.K w x cs) : cs = [.int .i64 x.f0, .int .i64 x.f1] := by
  obtain ⟨_, _, rfl, rfl, rfl⟩ := h
  exact rfl
theorem kLoc_openM {w : World} {base : Nat} {ok : Nat → Prop} {x : SLoc} {cs : List Value} (h : kLoc.M w base ok x cs) : cs = [.int .i64 x.f0, .int .i64 x.f1] := by
  obtain ⟨_, _, rfl, rfl, rfl⟩ := h
  exact rfl
theorem kLoc_mk (w : World) (x : SLoc)  : kLoc.K w x [.int .i64 x.f0, .int .i64 x.f1] := ⟨[.int .i64 x.f0], [.int .i64 x.f1], rfl, rfl, rfl⟩
theorem kLoc_mkM (w : World) (base : Nat) (ok : Nat → Prop) (x : SLoc)  : kLoc.M w base ok x [.int .i64 x.f0, .int .i64 x.f1] := ⟨[.int .i64 x.f0], [.int .i64 x.f1], rfl, rfl, rfl⟩
def rd_TLoc (xs : List SLoc) (i : Int) : SLoc := xs.getD i.toNat zLoc
theorem at_TLoc {w : World} {A : Option Addr} {n : Nat} {xs : List SLoc} (h : Kd.C kLoc w A n xs) (i : Int) (h0 : 0 ≤ i) (h1 : i < n) : ∃ ad , A = some ad ∧ w.cell? (ad.add (i.toNat * 2)) = some (.int .i64 (rd_TLoc xs i).f0) ∧ w.cell? ⟨(ad.add (i.toNat * 2)).block, (ad.add (i.toNat * 2)).off + 1, none⟩ = some (.int .i64 (rd_TLoc xs i).f1) := by
  obtain ⟨ad, c, e, _, hK, hc0⟩ := Kd.C_get h zLoc i h0 h1
  have hc : ∀ j u, c[j]? = some u → w.cell? (ad.add (i.toNat * 2 + j)) = some u := hc0
  obtain rfl := kLoc_open hK
  exact ⟨ad, e, hc 0 _ rfl, by rw [← add_field _ _ 1 (by omega)]; exact hc 1 _ rfl⟩

/-! #### struct type 73 -/
structure SPair where
  f0 : SLoc
  f1 : SLoc
def zPair : SPair := ⟨zLoc, zLoc⟩
def kPair : Kd SPair := Kd.iso (Kd.pair kLoc kLoc) (fun x : SPair => (x.f0, x.f1))
theorem kPair_open {w : World} {x : SPair} {cs : List Value} (h : kPair.K w x cs) : cs = [.int .i64 x.f0.f0, .int .i64 x.f0.f1, .int .i64 x.f1.f0, .int .i64 x.f1.f1] := by
  obtain ⟨_, _, rfl, s0, s2⟩ := h
  obtain rfl := kLoc_open s0
  obtain rfl := kLoc_open s2
  exact rfl
theorem kPair_openM {w : World} {base : Nat} {ok : Nat → Prop} {x : SPair} {cs : List Value} (h : kPair.M w base ok x cs) : cs = [.int .i64 x.f0.f0, .int .i64 x.f0.f1, .int .i64 x.f1.f0, .int .i64 x.f1.f1] := by
  obtain ⟨_, _, rfl, s0, s2⟩ := h
  obtain rfl := kLoc_openM s0
  obtain rfl := kLoc_openM s2
  exact rfl
theorem kPair_mk (w : World) (x : SPair)  : kPair.K w x [.int .i64 x.f0.f0, .int .i64 x.f0.f1, .int .i64 x.f1.f0, .int .i64 x.f1.f1] := ⟨[.int .i64 x.f0.f0, .int .i64 x.f0.f1], [.int .i64 x.f1.f0, .int .i64 x.f1.f1], rfl, (kLoc_mk w x.f0 ), (kLoc_mk w x.f1 )⟩
theorem kPair_mkM (w : World) (base : Nat) (ok : Nat → Prop) (x : SPair)  : kPair.M w base ok x [.int .i64 x.f0.f0, .int .i64 x.f0.f1, .int .i64 x.f1.f0, .int .i64 x.f1.f1] := ⟨[.int .i64 x.f0.f0, .int .i64 x.f0.f1], [.int .i64 x.f1.f0, .int .i64 x.f1.f1], rfl, (kLoc_mkM w base ok x.f0 ), (kLoc_mkM w base ok x.f1 )⟩
def rd_TPair (xs : List SPair) (i : Int) : SPair := xs.getD i.toNat zPair
theorem at_TPair {w : World} {A : Option Addr} {n : Nat} {xs : List SPair} (h : Kd.C kPair w A n xs) (i : Int) (h0 : 0 ≤ i) (h1 : i < n) : ∃ ad , A = some ad ∧ w.cell? (ad.add (i.toNat * 4)) = some (.int .i64 (rd_TPair xs i).f0.f0) ∧ w.cell? ⟨(ad.add (i.toNat * 4)).block, (ad.add (i.toNat * 4)).off + 1, none⟩ = some (.int .i64 (rd_TPair xs i).f0.f1) ∧ w.cell? ⟨(ad.add (i.toNat * 4)).block, (ad.add (i.toNat * 4)).off + 2, none⟩ = some (.int .i64 (rd_TPair xs i).f1.f0) ∧ w.cell? ⟨(ad.add (i.toNat * 4)).block, (ad.add (i.toNat * 4)).off + 3, none⟩ = some (.int .i64 (rd_TPair xs i).f1.f1) := by
  obtain ⟨ad, c, e, _, hK, hc0⟩ := Kd.C_get h zPair i h0 h1
  have hc : ∀ j u, c[j]? = some u → w.cell? (ad.add (i.toNat * 4 + j)) = some u := hc0
  obtain rfl := kPair_open hK
  exact ⟨ad, e, hc 0 _ rfl, by rw [← add_field _ _ 1 (by omega)]; exact hc 1 _ rfl, by rw [← add_field _ _ 2 (by omega)]; exact hc 2 _ rfl, by rw [← add_field _ _ 3 (by omega)]; exact hc 3 _ rfl⟩

def rd_L3 (xs : List (List SLoc)) (i : Int) : (List SLoc) := xs.getD i.toNat ([] : List SLoc)
theorem at_L3 {w : World} {A : Option Addr} {n : Nat} {xs : List (List SLoc)} (h : Kd.C (Kd.slice 50 kLoc) w A n xs) (i : Int) (h0 : 0 ≤ i) (h1 : i < n) : ∃ ad A0 c0, A = some ad ∧ w.cell? (ad.add i.toNat) = some (.slice A0 (rd_L3 xs i).length c0) ∧ (rd_L3 xs i).length ≤ c0 ∧ kLoc.C w A0 (rd_L3 xs i).length (rd_L3 xs i) := by
  obtain ⟨ad, c, e, _, hK, hc0⟩ := Kd.C_get h ([] : List SLoc) i h0 h1
  have hc : ∀ j u, c[j]? = some u → w.cell? (ad.add (i.toNat * 1 + j)) = some u := hc0
  obtain ⟨A0, c0, rfl, l0, g0⟩ := hK
  exact ⟨ad, A0, c0, e, by have hq := hc 0 _ rfl; rwa [Nat.mul_one, Nat.add_zero] at hq, l0, g0⟩

def rd_L4 (xs : List (List SPair)) (i : Int) : (List SPair) := xs.getD i.toNat ([] : List SPair)
theorem at_L4 {w : World} {A : Option Addr} {n : Nat} {xs : List (List SPair)} (h : Kd.C (Kd.slice 73 kPair) w A n xs) (i : Int) (h0 : 0 ≤ i) (h1 : i < n) : ∃ ad A0 c0, A = some ad ∧ w.cell? (ad.add i.toNat) = some (.slice A0 (rd_L4 xs i).length c0) ∧ (rd_L4 xs i).length ≤ c0 ∧ kPair.C w A0 (rd_L4 xs i).length (rd_L4 xs i) := by
  obtain ⟨ad, c, e, _, hK, hc0⟩ := Kd.C_get h ([] : List SPair) i h0 h1
  have hc : ∀ j u, c[j]? = some u → w.cell? (ad.add (i.toNat * 1 + j)) = some u := hc0
  obtain ⟨A0, c0, rfl, l0, g0⟩ := hK
  exact ⟨ad, A0, c0, e, by have hq := hc 0 _ rfl; rwa [Nat.mul_one, Nat.add_zero] at hq, l0, g0⟩

/-! #### struct type 36 -/
structure SChart where
  f0 : Int
  f1 : (List SLoc)
  f2 : (List SPair)
def zChart : SChart := ⟨(0 : Int), ([] : List SLoc), ([] : List SPair)⟩
def kChart : Kd SChart := Kd.iso (Kd.pair (Kd.int .i64) (Kd.pair (Kd.slice 50 kLoc) (Kd.slice 73 kPair))) (fun x : SChart => (x.f0, x.f1, x.f2))
theorem kChart_open {w : World} {x : SChart} {cs : List Value} (h : kChart.K w x cs) : ∃ A1 c1 A2 c2, cs = [.int .i64 x.f0, .slice A1 x.f1.length c1, .slice A2 x.f2.length c2] ∧ x.f1.length ≤ c1 ∧ kLoc.C w A1 x.f1.length x.f1 ∧ x.f2.length ≤ c2 ∧ kPair.C w A2 x.f2.length x.f2 := by
  obtain ⟨_, _, rfl, rfl, ⟨_, _, rfl, ⟨A1, c1, rfl, l1, g1⟩, ⟨A2, c2, rfl, l2, g2⟩⟩⟩ := h
  exact ⟨A1, c1, A2, c2, rfl, l1, g1, l2, g2⟩
theorem kChart_openM {w : World} {base : Nat} {ok : Nat → Prop} {x : SChart} {cs : List Value} (h : kChart.M w base ok x cs) : ∃ v1 v2, cs = [.int .i64 x.f0, v1, v2] ∧ kLoc.R 50 w base ok v1 x.f1 ∧ kPair.R 73 w base ok v2 x.f2 := by
  obtain ⟨_, _, rfl, rfl, ⟨_, _, rfl, ⟨v1, rfl, g1⟩, ⟨v2, rfl, g2⟩⟩⟩ := h
  exact ⟨v1, v2, rfl, g1, g2⟩
theorem kChart_mk (w : World) (x : SChart) {A1 : Option Addr} {c1 : Nat} (l1 : x.f1.length ≤ c1) (g1 : kLoc.C w A1 x.f1.length x.f1) {A2 : Option Addr} {c2 : Nat} (l2 : x.f2.length ≤ c2) (g2 : kPair.C w A2 x.f2.length x.f2) : kChart.K w x [.int .i64 x.f0, .slice A1 x.f1.length c1, .slice A2 x.f2.length c2] := ⟨[.int .i64 x.f0], [.slice A1 x.f1.length c1, .slice A2 x.f2.length c2], rfl, rfl, ⟨[.slice A1 x.f1.length c1], [.slice A2 x.f2.length c2], rfl, ⟨A1, c1, rfl, l1, g1⟩, ⟨A2, c2, rfl, l2, g2⟩⟩⟩
theorem kChart_mkM (w : World) (base : Nat) (ok : Nat → Prop) (x : SChart) {v1 : Value} (g1 : kLoc.R 50 w base ok v1 x.f1) {v2 : Value} (g2 : kPair.R 73 w base ok v2 x.f2) : kChart.M w base ok x [.int .i64 x.f0, v1, v2] := ⟨[.int .i64 x.f0], [v1, v2], rfl, rfl, ⟨[v1], [v2], rfl, ⟨v1, rfl, g1⟩, ⟨v2, rfl, g2⟩⟩⟩
def rd_TChart (xs : List SChart) (i : Int) : SChart := xs.getD i.toNat zChart
theorem at_TChart {w : World} {A : Option Addr} {n : Nat} {xs : List SChart} (h : Kd.C kChart w A n xs) (i : Int) (h0 : 0 ≤ i) (h1 : i < n) : ∃ ad A1 c1 A2 c2, A = some ad ∧ w.cell? (ad.add (i.toNat * 3)) = some (.int .i64 (rd_TChart xs i).f0) ∧ w.cell? ⟨(ad.add (i.toNat * 3)).block, (ad.add (i.toNat * 3)).off + 1, none⟩ = some (.slice A1 (rd_TChart xs i).f1.length c1) ∧ w.cell? ⟨(ad.add (i.toNat * 3)).block, (ad.add (i.toNat * 3)).off + 2, none⟩ = some (.slice A2 (rd_TChart xs i).f2.length c2) ∧ (rd_TChart xs i).f1.length ≤ c1 ∧ kLoc.C w A1 (rd_TChart xs i).f1.length (rd_TChart xs i).f1 ∧ (rd_TChart xs i).f2.length ≤ c2 ∧ kPair.C w A2 (rd_TChart xs i).f2.length (rd_TChart xs i).f2 := by
  obtain ⟨ad, c, e, _, hK, hc0⟩ := Kd.C_get h zChart i h0 h1
  have hc : ∀ j u, c[j]? = some u → w.cell? (ad.add (i.toNat * 3 + j)) = some u := hc0
  obtain ⟨A1, c1, A2, c2, rfl, l1, g1, l2, g2⟩ := kChart_open hK
  exact ⟨ad, A1, c1, A2, c2, e, hc 0 _ rfl, by rw [← add_field _ _ 1 (by omega)]; exact hc 1 _ rfl, by rw [← add_field _ _ 2 (by omega)]; exact hc 2 _ rfl, l1, g1, l2, g2⟩

end Go.Proofs.YtceibabhmomfiaaDoor.H
