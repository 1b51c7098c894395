/- Layer 3, walks: may counts be? has an instruction nothing beside its parts? -/
import Derived.Test.YtijdmnjkiiemlaaDoorCw1
namespace Go.Proofs.YtijdmnjkiiemlaaDoor.H
open Go.RowKit Go.Proofs.YtijdmnjkiiemlaaDoorW.PrintWords
set_option linter.unusedVariables false
set_option linter.unusedSimpArgs false

/-- an instruction as a value -/
def insV (x : SIns) (A : Option Addr) (c : Nat) : Value := .agg #[.int .i64 x.f0, .int .i64 x.f1, .int .i64 x.f2, .int .i64 x.f3, .int .i64 x.f4, .int .i64 x.f5, .slice A x.f6.length c]
/-- an instruction as a block's cells -/
def insC (x : SIns) (v : Value) : Array Value := #[.int .i64 x.f0, .int .i64 x.f1, .int .i64 x.f2, .int .i64 x.f3, .int .i64 x.f4, .int .i64 x.f5, v]
/-- a call with too many arguments -/
def longB (x : SIns) : Bool := x.f0 == 19 && decide (4 < x.f6.length)

set_option maxHeartbeats 400000 in
theorem long_any (x : SIns) (A : Option Addr) (c : Nat) (w : World) (hl : x.f6.length ≤ 9223372036854775807) :
    Calls Tryd.prog 41 #[insV x A c] w fun e w' => e = .returned (.bool (longB x)) ∧ Bel w w' := by
  unfold insV longB
  by_cases h : x.f0 = 19
  · have b1 : (x.f0 == 19) = true := by simpa using h
    have b2 : decide (4 < (x.f6.length : Int)) = decide (4 < x.f6.length) := by simp; omega
    clear h
    go_enter Tryd.func41, Tryd.ntmps41
    go_wp2
    go_ret
    exact ⟨by rw [b1]; rfl, (Bel.refl _).alloc _⟩
  · have b1 : (x.f0 == 19) = false := by simpa using h
    clear h
    go_enter Tryd.func41, Tryd.ntmps41
    go_wp2
    go_ret
    exact ⟨by rw [b1]; rfl, (Bel.refl _).alloc _⟩

/-- where the first such element lies, or -1 -/
def idxOf {α : Type} (p : α → Bool) (l : List α) : Int := if l.any p then (l.findIdx p : Int) else -1
theorem idxOf_ge {α : Type} (p : α → Bool) (l : List α) : decide (0 ≤ idxOf p l) = l.any p := by
  unfold idxOf
  split
  · rename_i h; rw [h]; simp
  · rename_i h; simp at h ⊢; exact h
theorem idxOf_none {α : Type} (p : α → Bool) (l : List α) (h : ∀ x ∈ l, p x = false) : idxOf p l = -1 := by
  unfold idxOf; rw [if_neg (by simpa using h)]
theorem idxOf_at {α : Type} (p : α → Bool) (l : List α) (k : Nat) (hk : k < l.length) (h : p l[k] = true) (hb : ∀ j (hj : j < k), p (l[j]'(by omega)) = false) : idxOf p l = k := by
  unfold idxOf
  rw [if_pos (List.any_eq_true.2 ⟨_, List.getElem_mem hk, h⟩), (List.findIdx_eq hk).2 ⟨h, hb⟩]
theorem ins_at {W : World} {A : Option Addr} {l : List SIns} (h : Rd kIns W A l) (k : Nat) (hk : k < l.length) : ∃ ad A6 c6, A = some ad ∧ W.cell? (ad.add (k * 7)) = some (.int .i64 (l[k]).f0) ∧ W.cell? ⟨(ad.add (k * 7)).block, (ad.add (k * 7)).off + 1, none⟩ = some (.int .i64 (l[k]).f1) ∧ W.cell? ⟨(ad.add (k * 7)).block, (ad.add (k * 7)).off + 2, none⟩ = some (.int .i64 (l[k]).f2) ∧ W.cell? ⟨(ad.add (k * 7)).block, (ad.add (k * 7)).off + 3, none⟩ = some (.int .i64 (l[k]).f3) ∧ W.cell? ⟨(ad.add (k * 7)).block, (ad.add (k * 7)).off + 4, none⟩ = some (.int .i64 (l[k]).f4) ∧ W.cell? ⟨(ad.add (k * 7)).block, (ad.add (k * 7)).off + 5, none⟩ = some (.int .i64 (l[k]).f5) ∧ W.cell? ⟨(ad.add (k * 7)).block, (ad.add (k * 7)).off + 6, none⟩ = some (.slice A6 (l[k]).f6.length c6) ∧ (l[k]).f6.length ≤ c6 ∧ RdI W A6 (l[k]).f6 := by
  obtain ⟨ad, A6, c6, e, h0, h1, h2, h3, h4, h5, h6, hl, hR⟩ := at_TIns h.out (k : Int) (by omega) (by omega)
  have e1 : rd_TIns l (k : Int) = l[k] := by simp [rd_TIns, List.getD_eq_getElem?_getD, List.getElem?_eq_getElem hk]
  rw [e1] at h0 h1 h2 h3 h4 h5 h6 hl hR
  simp only [Int.toNat_natCast] at h0 h1 h2 h3 h4 h5 h6
  exact ⟨ad, A6, c6, e, h0, h1, h2, h3, h4, h5, h6, hl, ⟨hR⟩⟩

theorem block_at {W : World} {A : Option Addr} {l : List SBlock} (h : Rd kBlock W A l) (k : Nat) (hk : k < l.length) : ∃ ad A0 c0, A = some ad ∧ W.cell? (ad.add k) = some (.slice A0 (l[k]).f0.length c0) ∧ (l[k]).f0.length ≤ c0 ∧ Rd kIns W A0 (l[k]).f0 := by
  obtain ⟨ad, A0, c0, e, h0, hl, hR⟩ := at_TBlock h.out (k : Int) (by omega) (by omega)
  have e1 : rd_TBlock l (k : Int) = l[k] := by simp [rd_TBlock, List.getD_eq_getElem?_getD, List.getElem?_eq_getElem hk]
  rw [e1] at h0 hl hR
  simp only [Int.toNat_natCast] at h0
  exact ⟨ad, A0, c0, e, h0, hl, ⟨hR⟩⟩
theorem func_at {W : World} {A : Option Addr} {l : List SFunc} (h : Rd kFunc W A l) (k : Nat) (hk : k < l.length) : ∃ ad A0 A1 A4 c0 c1 c4, A = some ad ∧ W.cell? (ad.add (k * 5)) = some (.slice A0 (l[k]).f0.length c0) ∧ W.cell? ⟨(ad.add (k * 5)).block, (ad.add (k * 5)).off + 1, none⟩ = some (.slice A1 (l[k]).f1.length c1) ∧ W.cell? ⟨(ad.add (k * 5)).block, (ad.add (k * 5)).off + 2, none⟩ = some (.int .i64 (l[k]).f2) ∧ W.cell? ⟨(ad.add (k * 5)).block, (ad.add (k * 5)).off + 3, none⟩ = some (.int .i64 (l[k]).f3) ∧ W.cell? ⟨(ad.add (k * 5)).block, (ad.add (k * 5)).off + 4, none⟩ = some (.slice A4 (l[k]).f4.length c4) ∧ RdI W A0 (l[k]).f0 ∧ RdI W A1 (l[k]).f1 ∧ Rd kBlock W A4 (l[k]).f4 ∧ (l[k]).f0.length ≤ c0 ∧ (l[k]).f1.length ≤ c1 ∧ (l[k]).f4.length ≤ c4 := by
  obtain ⟨ad, A0, c0, A1, c1, A4, c4, hh⟩ := at_TFunc h.out (k : Int) (by omega) (by omega)
  have e1 : rd_TFunc l (k : Int) = l[k] := by simp [rd_TFunc, List.getD_eq_getElem?_getD, List.getElem?_eq_getElem hk]
  rw [e1] at hh
  simp only [Int.toNat_natCast] at hh
  obtain ⟨e, h0, h1, h2, h3, h4, l0, g0, l1, g1, l4, g4⟩ := hh
  exact ⟨ad, A0, A1, A4, c0, c1, c4, e, h0, h1, h2, h3, h4, ⟨g0⟩, ⟨g1⟩, ⟨g4⟩, l0, l1, l4⟩

/-- one more -/
theorem upto_snoc {α : Type} {p : α → Bool} {b : Bool} {l : List α} {k : Nat} (hk : k < l.length) (hno : ∀ j (hj : j < k) (hjl : j < l.length), p l[j] = b) (h : p l[k] = b) : ∀ j (hj : j < k + 1) (hjl : j < l.length), p l[j] = b := by
  intro j hj hjl
  rcases Nat.lt_or_ge j k with h1 | h1
  · exact hno j h1 hjl
  · obtain rfl : j = k := by omega
    exact h
/-- none so far, then all -/
theorem none_all {α : Type} (p : α → Bool) (l : List α) (h : ∀ j (hj : j < l.length), p l[j] = false) : ∀ x ∈ l, p x = false := by
  intro x hx
  obtain ⟨j, hj, rfl⟩ := List.mem_iff_getElem.1 hx
  exact h j hj

set_option maxHeartbeats 1000000 in
theorem idxLong_any (A : Option Addr) (c : Nat) (l : List SIns) (w : World) (HR : Rd kIns w A l) :
    Calls Tryd.prog 55 #[.slice A l.length c, .func (.func 41) #[] #[]] w fun e w' => e = .returned (.int .i64 (idxOf longB l)) ∧ Bel w w' := by
  have hm := HR.len
  go_enter Tryd.func55, Tryd.ntmps55
  go_wp2
  go_loopw [8] (fun i W => ∃ k : Nat, k ≤ l.length ∧ i = .int .i64 k ∧ Aside0 (∀ j (hj : j < k) (hjl : j < l.length), longB l[j] = false) ∧ Bel w W) (fun i _ => l.length - (intOf i).toNat)
  case atStart => exact ⟨0, by omega, rfl, ⟨fun j h => by omega⟩, Bel.refl _⟩
  case round =>
    obtain ⟨k, hk, rfl, hno, hB⟩ := hrel
    by_cases hlt : k < l.length
    · obtain ⟨ad, A6, c6, rfl, h0, h1, h2, h3, h4, h5, h6, hc6, hR6⟩ := ins_at (HR.step hB) k hlt
      have hll := hR6.len
      obtain ⟨x, hx⟩ : ∃ x, Aside0 (l[k] = x) := ⟨_, ⟨rfl⟩⟩
      rw [hx.out] at h0 h1 h2 h3 h4 h5 h6 hll
      have hcall := Aside0.mk (fun W => long_any x A6 c6 W hll)
      unfold insV at hcall
      clear hc6 hR6
      by_cases hb : longB x = true
      · go_wp2_with (go_at_call 41; ((with_reducible refine (hcall.out _).mono ?_); rintro e w' ⟨rfl, hB1⟩; replace hB := hB.trans hB1; clear hB1))
        go_ret
        exact ⟨by rw [idxOf_at longB l k hlt (by rw [hx.out]; exact hb) (fun j hj => hno.out j hj _)]; rfl, hB⟩
      · have hb' : longB x = false := by simpa using hb
        clear hb
        go_wp2_with (go_at_call 41; ((with_reducible refine (hcall.out _).mono ?_); rintro e w' ⟨rfl, hB1⟩; replace hB := hB.trans hB1; clear hB1))
        go_roundw
        case rel => exact ⟨k + 1, by omega, by go_num, ⟨upto_snoc hlt hno.out (by rw [hx.out]; exact hb')⟩, hB⟩
        case measure => simp [intOf]; omega
    · have hn := Aside0.mk (idxOf_none longB l (none_all longB l (fun j hj => hno.out j (by omega) hj)))
      go_wp2
      go_ret
      exact ⟨by rw [hn.out]; rfl, hB⟩
set_option maxHeartbeats 400000 in
theorem hasLong_any (A : Option Addr) (c : Nat) (l : List SIns) (w : World) (HR : Rd kIns w A l) :
    Calls Tryd.prog 42 #[.slice A l.length c, .func (.func 41) #[] #[]] w fun e w' => e = .returned (.bool (l.any longB)) ∧ Bel w w' := by
  have hge := Aside0.mk (idxOf_ge longB l)
  obtain ⟨n, hn⟩ : ∃ n, Aside0 (idxOf longB l = n) := ⟨_, ⟨rfl⟩⟩
  rw [hn.out] at hge
  go_enter Tryd.func42, Tryd.ntmps42
  go_wp2_with (go_at_call 55; ((with_reducible refine (idxLong_any A c l _ HR).mono ?_); rintro e w' ⟨rfl, hB⟩; rw [hn.out]))
  go_ret
  exact ⟨by rw [← hge.out]; rfl, hB⟩

/-- a function as a value -/
def funcV (f : SFunc) (A0 A1 A4 : Option Addr) (c0 c1 c4 : Nat) : Value := .agg #[.slice A0 f.f0.length c0, .slice A1 f.f1.length c1, .int .i64 f.f2, .int .i64 f.f3, .slice A4 f.f4.length c4]
/-- may a block's counts be? -/
def blockB (b : SBlock) : Bool := decide (b.f0.length ≤ 40) && !b.f0.any longB
/-- may a function's be? -/
def countsB (f : SFunc) : Bool := decide (f.f0.length ≤ 48) && (decide (f.f4.length ≤ 40) && f.f4.all blockB)

set_option maxHeartbeats 2000000 in
theorem counts_any (f : SFunc) (A0 A1 A4 : Option Addr) (c0 c1 c4 : Nat) (w : World) (hl0 : f.f0.length ≤ 9223372036854775807) (HR : Rd kBlock w A4 f.f4) :
    Calls Tryd.prog 21 #[funcV f A0 A1 A4 c0 c1 c4] w fun e w' => e = .returned (.bool (countsB f)) ∧ Bel w w' := by
  have hm := HR.len
  unfold funcV
  by_cases h1 : 48 < f.f0.length
  · have hv : Aside0 (countsB f = false) := ⟨by unfold countsB; rw [decide_eq_false (by omega)]; rfl⟩
    go_enter Tryd.func21, Tryd.ntmps21
    go_wp2
    go_ret
    exact ⟨by rw [hv.out]; rfl, (Bel.refl _).alloc _⟩
  by_cases h2 : 40 < f.f4.length
  · have hv : Aside0 (countsB f = false) := ⟨by unfold countsB; rw [decide_eq_false (show ¬ f.f4.length ≤ 40 by omega)]; simp⟩
    go_enter Tryd.func21, Tryd.ntmps21
    go_wp2
    go_ret
    exact ⟨by rw [hv.out]; rfl, (Bel.refl _).alloc _⟩
  have hv : Aside0 (countsB f = f.f4.all blockB) := ⟨by unfold countsB; rw [decide_eq_true (show f.f0.length ≤ 48 by omega), decide_eq_true (show f.f4.length ≤ 40 by omega)]; simp⟩
  go_enter Tryd.func21, Tryd.ntmps21
  go_wp2
  go_loopw [19] (fun i W => ∃ k : Nat, k ≤ f.f4.length ∧ i = .int .i64 k ∧ Aside0 (∀ j (hj : j < k) (hjl : j < f.f4.length), blockB f.f4[j] = true) ∧ Bel w W) (fun i _ => f.f4.length - (intOf i).toNat)
  case atStart => exact ⟨0, by omega, rfl, ⟨fun j h => by omega⟩, (Bel.refl _).alloc _⟩
  case round =>
    obtain ⟨k, hk, rfl, hno, hB⟩ := hrel
    by_cases hlt : k < f.f4.length
    · obtain ⟨ad, A, c, rfl, hc0, hcc, hR⟩ := block_at (HR.step hB) k hlt
      obtain ⟨x, hx⟩ : ∃ x, Aside0 (f.f4[k] = x) := ⟨_, ⟨rfl⟩⟩
      rw [hx.out] at hc0 hcc hR
      obtain ⟨l, hl⟩ : ∃ l, Aside0 (x.f0 = l) := ⟨_, ⟨rfl⟩⟩
      rw [hl.out] at hc0 hcc hR
      have hml := hR.len
      have hcall := Aside0.mk (fun W k => hasLong_any A c l W (hR.step k))
      by_cases h3 : 40 < l.length
      · have hb : Aside0 (f.f4.all blockB = false) := ⟨by rw [List.all_eq_false]; exact ⟨_, List.getElem_mem hlt, by rw [hx.out]; unfold blockB; rw [hl.out, decide_eq_false (by omega)]; simp⟩⟩
        go_wp2
        go_ret
        exact ⟨by rw [hv.out, hb.out]; rfl, by repeat (first | exact hB | apply Bel.alloc)⟩
      · cases hany : l.any longB with
        | true =>
          rw [hany] at hcall
          have hb : Aside0 (f.f4.all blockB = false) := ⟨by rw [List.all_eq_false]; exact ⟨_, List.getElem_mem hlt, by rw [hx.out]; unfold blockB; rw [hl.out, hany]; simp⟩⟩
          replace hany := Aside0.mk hany
          go_wp2_with (go_at_call 42; ((with_reducible refine (hcall.out _ ((Bel.refl wr).alloc _)).mono ?_); rintro e w' ⟨rfl, hB1⟩; replace hB := (hB.alloc _).trans hB1; clear hB1))
          go_ret
          exact ⟨by rw [hv.out, hb.out]; rfl, hB⟩
        | false =>
          rw [hany] at hcall
          have hb : Aside0 (blockB x = true) := ⟨by unfold blockB; rw [hl.out, hany, decide_eq_true (by omega)]; rfl⟩
          replace hany := Aside0.mk hany
          go_wp2_with (go_at_call 42; ((with_reducible refine (hcall.out _ ((Bel.refl wr).alloc _)).mono ?_); rintro e w' ⟨rfl, hB1⟩; replace hB := (hB.alloc _).trans hB1; clear hB1))
          go_roundw
          case rel => exact ⟨k + 1, by omega, by go_num, ⟨upto_snoc hlt hno.out (by rw [hx.out]; exact hb.out)⟩, hB⟩
          case measure => simp [intOf]; omega
    · have hb : Aside0 (f.f4.all blockB = true) := ⟨by rw [List.all_eq_true]; intro x hx; obtain ⟨j, hj, rfl⟩ := List.mem_iff_getElem.1 hx; exact hno.out j (by omega) hj⟩
      go_wp2
      go_ret
      exact ⟨by rw [hv.out, hb.out]; rfl, hB⟩

set_option maxHeartbeats 400000 in
theorem notCounts_any (f : SFunc) (A0 A1 A4 : Option Addr) (c0 c1 c4 : Nat) (w : World) (hl0 : f.f0.length ≤ 9223372036854775807) (HR : Rd kBlock w A4 f.f4) :
    Calls Tryd.prog 20 #[funcV f A0 A1 A4 c0 c1 c4] w fun e w' => e = .returned (.bool (!countsB f)) ∧ Bel w w' := by
  have hcall := Aside0.mk (fun W (k : Bel w W) => counts_any f A0 A1 A4 c0 c1 c4 W hl0 (HR.step k))
  unfold funcV at hcall ⊢
  go_enter Tryd.func20, Tryd.ntmps20
  go_wp2_with (go_at_call 21; ((with_reducible refine (hcall.out _ ((Bel.refl w).alloc _)).mono ?_); rintro e w' ⟨rfl, hB⟩))
  go_ret
  exact ⟨rfl, ((Bel.refl w).alloc _).trans hB⟩

set_option maxHeartbeats 1000000 in
theorem idxCounts_any (A : Option Addr) (c : Nat) (l : List SFunc) (w : World) (HR : Rd kFunc w A l) :
    Calls Tryd.prog 40 #[.slice A l.length c, .func (.func 20) #[] #[]] w fun e w' => e = .returned (.int .i64 (idxOf (fun f => !countsB f) l)) ∧ Bel w w' := by
  have hm := HR.len
  go_enter Tryd.func40, Tryd.ntmps40
  go_wp2
  go_loopw [8] (fun i W => ∃ k : Nat, k ≤ l.length ∧ i = .int .i64 k ∧ Aside0 (∀ j (hj : j < k) (hjl : j < l.length), (!countsB l[j]) = false) ∧ Bel w W) (fun i _ => l.length - (intOf i).toNat)
  case atStart => exact ⟨0, by omega, rfl, ⟨fun j h => by omega⟩, Bel.refl _⟩
  case round =>
    obtain ⟨k, hk, rfl, hno, hB⟩ := hrel
    by_cases hlt : k < l.length
    · obtain ⟨ad, A0, A1, A4, c0, c1, c4, rfl, h0, h1, h2, h3, h4, hR0, hR1, hR4, hc0, hc1, hc4⟩ := func_at (HR.step hB) k hlt
      obtain ⟨x, hx⟩ : ∃ x, Aside0 (l[k] = x) := ⟨_, ⟨rfl⟩⟩
      rw [hx.out] at h0 h1 h2 h3 h4 hR0 hR4
      have hcall := Aside0.mk (notCounts_any x A0 A1 A4 c0 c1 c4 wr hR0.len hR4)
      unfold funcV at hcall
      clear hR0 hR1 hR4 hc0 hc1 hc4
      cases hb : countsB x with
      | false =>
        rw [hb] at hcall
        replace hb := Aside0.mk hb
        go_wp2_with (go_at_call 20; ((with_reducible refine hcall.out.mono ?_); rintro e w' ⟨rfl, hB1⟩; replace hB := hB.trans hB1; clear hB1))
        go_ret
        exact ⟨by rw [idxOf_at (fun f => !countsB f) l k hlt (by rw [hx.out, hb.out]; rfl) (fun j hj => hno.out j hj _)]; rfl, hB⟩
      | true =>
        rw [hb] at hcall
        replace hb := Aside0.mk hb
        go_wp2_with (go_at_call 20; ((with_reducible refine hcall.out.mono ?_); rintro e w' ⟨rfl, hB1⟩; replace hB := hB.trans hB1; clear hB1))
        go_roundw
        case rel => exact ⟨k + 1, by omega, by go_num, ⟨upto_snoc (p := fun f => !countsB f) hlt hno.out (by rw [hx.out, hb.out]; rfl)⟩, hB⟩
        case measure => simp [intOf]; omega
    · have hn := Aside0.mk (idxOf_none (fun f => !countsB f) l (none_all (fun f => !countsB f) l (fun j hj => hno.out j (by omega) hj)))
      go_wp2
      go_ret
      exact ⟨by rw [hn.out]; rfl, hB⟩
set_option maxHeartbeats 400000 in
theorem hasCounts_any (A : Option Addr) (c : Nat) (l : List SFunc) (w : World) (HR : Rd kFunc w A l) :
    Calls Tryd.prog 19 #[.slice A l.length c, .func (.func 20) #[] #[]] w fun e w' => e = .returned (.bool (l.any fun f => !countsB f)) ∧ Bel w w' := by
  have hge := Aside0.mk (idxOf_ge (fun f => !countsB f) l)
  obtain ⟨n, hn⟩ : ∃ n, Aside0 (idxOf (fun f => !countsB f) l = n) := ⟨_, ⟨rfl⟩⟩
  rw [hn.out] at hge
  go_enter Tryd.func19, Tryd.ntmps19
  go_wp2_with (go_at_call 40; ((with_reducible refine (idxCounts_any A c l _ HR).mono ?_); rintro e w' ⟨rfl, hB⟩; rw [hn.out]))
  go_ret
  exact ⟨by rw [← hge.out]; rfl, hB⟩
end Go.Proofs.YtijdmnjkiiemlaaDoor.H
