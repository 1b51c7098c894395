/- Texts of this work, joined. Conditions: each stands with its theorem. -/
import Derived.Test.YtodjpbidjldblaaX16
/- Layer 1, law10: a program without prints tells nothing, one without allocations has no objects. -/
namespace Go.Proofs.Ytodjpbidjldblaa.H
open Go.RowKit Go.Proofs.YtodjpbidjldblaaW.PrintWords Go.Proofs.YtodjpbidjldblaaW.PrintLast Go.Proofs.Ytodjpbidjldblaa.PRunEdges
set_option linter.unusedVariables false
set_option linter.unusedSimpArgs false
set_option maxRecDepth 100000
attribute [local go_sem] run_trace0 run_heap0
def NoK (l : List SIns) (op : Int) (k : Nat) : Prop := ∀ j < k, (l.getD j zIns).f0 ≠ op
def NoB (f : SFunc) (op : Int) (b : Nat) : Prop := ∀ c < b, ∀ k < (f.f4.getD c zBlock).f0.length, ((f.f4.getD c zBlock).f0.getD k zIns).f0 ≠ op
def NoF (p : SProg) (op : Int) (n : Nat) : Prop := ∀ m < n, ∀ b < (fnAt p m).f4.length, ∀ k < (codeAt p m b).length, ((codeAt p m b).getD k zIns).f0 ≠ op
theorem NoK.nil (l : List SIns) (op : Int) : NoK l op 0 := fun j h => by omega
theorem NoB.nil (f : SFunc) (op : Int) : NoB f op 0 := fun j h => by omega
theorem NoF.nil (p : SProg) (op : Int) : NoF p op 0 := fun j h => by omega
theorem NoK.snoc {l : List SIns} {op : Int} {k : Nat} {x : SIns} (h : NoK l op k) (hx : l.getD k zIns = x) (hb : (x.f0 == op) = false) : NoK l op (k + 1) := fun j hj => by
  rcases Nat.lt_or_ge j k with q | q
  · exact h j q
  · obtain rfl : j = k := by omega
    rw [hx]; simpa using hb
theorem NoB.snoc {f : SFunc} {op : Int} {b : Nat} (h : NoB f op b) (hk : NoK (f.f4.getD b zBlock).f0 op (f.f4.getD b zBlock).f0.length) : NoB f op (b + 1) := fun j hj => by
  rcases Nat.lt_or_ge j b with q | q
  · exact h j q
  · obtain rfl : j = b := by omega
    exact hk
theorem NoF.snoc {p : SProg} {op : Int} {n : Nat} (h : NoF p op n) (hk : NoB (fnAt p n) op (fnAt p n).f4.length) : NoF p op (n + 1) := fun j hj => by
  rcases Nat.lt_or_ge j n with q | q
  · exact h j q
  · obtain rfl : j = n := by omega
    exact hk
set_option maxHeartbeats 8000000 in
theorem RunPrints_walk (p : SProg) (PA : Option Addr) (pc : Nat) (n : Int) (w : World) (hP : Rd kFunc w PA p.f0) (hA : Aside0 (AProg p.f0)) (n0 : 0 ≤ n) (n1 : n ≤ 65535) :
    Calls Try.prog 7 #[.agg #[.slice PA p.f0.length pc], .int .u16 n] w fun e w' => e = .returned (.bool true) ∧ Bel w w' := by
  have ew : IntKind.i64.wrap n = n := by rw [IntKind.wrap_i64]; omega
  obtain ⟨g, hg⟩ : ∃ g, w.heap.size = g := ⟨_, rfl⟩
  have hB := (Bel.refl w).alloc (.cells #[.slice PA p.f0.length pc] 24)
  have hbp := heap_new' (o := .cells #[.slice PA p.f0.length pc] 24) hg.symm
  go_enter Try.func7, Try.ntmps7
  go_upto_region 1 with (fail)
  generalize w.alloc (.cells #[.slice PA p.f0.length pc] 24) = wa at hB hbp ⊢
  replace hg := Aside0.mk hg
  have hal := Aside0.mk (alive_any wa)
  have hot := Aside0.mk (fun (X : World) (q : Bel wa X) => out_any p PA pc X (hP.step (hB.trans q)) hA)
  obtain ⟨N, hN⟩ : ∃ N, p.f0.length = N := ⟨_, rfl⟩
  rw [hN] at hbp ⊢
  replace hN := Aside0.mk hN
  simp only [hN.out] at hot
  have y0 : wa.cell? ⟨g, 0, none⟩ = some (.slice PA N pc) := blk_cell hbp 0
  go_wp2_with (first | (go_at_call 8; ((with_reducible refine hal.out.mono ?_); rintro e w1 ⟨rfl, hB1⟩; have hb1 := hB1.blk hbp; have y1 := blk_cell hb1 0)) | (go_at_call 9; ((with_reducible refine (hot.out _ hB1).mono ?_); rintro e w2 ⟨ob, rfl, hpr, hB2⟩; have hb2 := hB2.blk hb1; have y2 := blk_cell hb2 0; cases ob)))
  rotate_left 1
  · go_ret
    exact ⟨rfl, hB.trans (hB1.trans hB2)⟩
  have hpp : Aside0 (ProgP p) := ⟨hpr (by first | trivial | rfl)⟩
  have hBx := hB.trans (hB1.trans hB2)
  have hN8 : N ≤ 8 := by rw [← hN.out]; exact hpp.out.funcs.2
  clear hpr hal hot y0 y1 hbp hb1
  go_loopw [5, 6, 7] (fun v5 v6 i W => ∃ (n : Nat) (b5 b6 : Bool), n ≤ N ∧ i = .int .i64 n ∧ v5 = .bool b5 ∧ v6 = .bool b6 ∧ Aside0 (b5 = false → NoF p 20 n) ∧ Aside0 (b6 = false → NoF p 10 n) ∧ w2 = W) (fun _ _ i _ => N - (intOf i).toNat)
  case atStart => exact ⟨0, false, false, by omega, rfl, rfl, rfl, ⟨fun _ => NoF.nil _ _⟩, ⟨fun _ => NoF.nil _ _⟩, rfl⟩
  case round =>
    obtain ⟨m, b5, b6, hm, rfl, rfl, rfl, h5, h6, rfl⟩ := hrel
    by_cases hlt : m < N
    case neg =>
      obtain rfl : m = N := by omega
      have q1 : ¬ (m : Int) < (m : Int) := by omega
      go_upto_region 18 with (fail)
      have hr5 : Aside0 (b5 = false → ∀ X, Bel w2 X → Calls Try.prog 12 #[.agg #[.slice PA m pc], .int .i64 (n % 500)] X fun e W' => ∃ EA ec a b c, e = .returned (.agg #[.slice EA 0 ec, .int .i64 a, .int .i64 b, .int .i64 c]) ∧ Bel X W') := ⟨fun q X hX => by
        have h1 := Run_any p X PA pc ((hP.step hBx).step hX) hpp (n % 500)
        rw [hN.out] at h1
        refine h1.mono fun e W' h => ?_
        obtain ⟨EA, ec, rfl, _, _, h3⟩ := h
        have h0 : (endL p (n % 500)).evs = [] := no_prints hpp.out (fun a ha => h5.out q a (by rw [← hN.out]; exact ha)) _
        rw [h0]
        exact ⟨EA, ec, _, _, _, rfl, h3⟩⟩
      have hh6 : Aside0 (b6 = false → ∀ X, Bel w2 X → Calls Try.prog 15 #[.agg #[.slice PA m pc], .int .i64 (n % 500)] X fun e W' => ∃ HA hc, e = .returned (.agg #[.slice HA 0 hc]) ∧ Bel X W') := ⟨fun q X hX => by
        have h1 := Heap_any p X PA pc ((hP.step hBx).step hX) hpp (n % 500)
        rw [hN.out] at h1
        refine h1.mono fun e W' h => ?_
        obtain ⟨HA, hc, rfl, _, _, h3⟩ := h
        have h0 : (endL p (n % 500)).heap = [] := no_allocs hpp.out (fun a ha => h6.out q a (by rw [← hN.out]; exact ha)) _
        rw [h0]
        exact ⟨HA, hc, rfl, h3⟩⟩
      have z0 := hb2
      clear h5 h6
      cases b5 with
      | true =>
        cases b6 with
        | true =>
          go_wp2
          go_ret
          exact ⟨rfl, hBx⟩
        | false =>
          go_wp2_with (go_at_call 15; ((with_reducible refine (hh6.out (by first | trivial | rfl) _ (Bel.refl _)).mono ?_); rintro e w3 ⟨HA, hc, rfl, hB3⟩))
          go_ret
          exact ⟨rfl, hBx.trans hB3⟩
      | false =>
        cases b6 with
        | true =>
          go_wp2_with (go_at_call 12; ((with_reducible refine (hr5.out (by first | trivial | rfl) _ (Bel.refl _)).mono ?_); rintro e w3 ⟨EA, ec, a, b, c, rfl, hB3⟩))
          go_ret
          exact ⟨rfl, hBx.trans hB3⟩
        | false =>
          go_wp2_with (first | (go_at_call 12; ((with_reducible refine (hr5.out (by first | trivial | rfl) _ (Bel.refl _)).mono ?_); rintro e w3 ⟨EA, ec, a, b, c, rfl, hB3⟩; have hb3 := hB3.blk hb2; have y3 := blk_cell hb3 0)) | (go_at_call 15; ((with_reducible refine (hh6.out (by first | trivial | rfl) _ hB3).mono ?_); rintro e w4 ⟨HA, hc, rfl, hB4⟩)))
          go_ret
          exact ⟨rfl, (hBx.trans hB3).trans hB4⟩
    have q1 : (m : Int) < (N : Int) := by omega
    have hnp : m < p.f0.length := by rw [hN.out]; exact hlt
    obtain ⟨ad, F0, F1, F4, d0, d1, d4, hPA, -, -, -, -, u4, -, -, r4, -, -, -⟩ := func_at (hP.step hBx) m hnp
    subst hPA
    obtain ⟨f, hf⟩ : ∃ f, fnAt p m = f := ⟨_, by first | rfl | trivial⟩
    have ef : p.f0[m] = fnAt p m := by unfold fnAt; rw [getD_at hnp]
    rw [ef, hf] at u4 r4
    replace hf := Aside0.mk hf
    replace ef := Aside0.mk ef
    obtain ⟨nb, hnb⟩ : ∃ nb, f.f4.length = nb := ⟨_, by first | rfl | trivial⟩
    rw [hnb] at u4
    have hfp := Aside0.mk (hpp.out.func m hnp)
    rw [hf.out] at hfp
    have hnb40 : nb ≤ 40 := by rw [← hnb]; exact hfp.out.blocks.2
    replace hnb := Aside0.mk hnb
    go_wp2
    go_loopw [5, 6, 8] (fun v5 v6 i W => ∃ (b : Nat) (b5 b6 : Bool), b ≤ nb ∧ i = .int .i64 b ∧ v5 = .bool b5 ∧ v6 = .bool b6 ∧ Aside0 (b5 = false → NoF p 20 m ∧ NoB f 20 b) ∧ Aside0 (b6 = false → NoF p 10 m ∧ NoB f 10 b) ∧ w2 = W) (fun _ _ i _ => nb - (intOf i).toNat)
    case atStart => exact ⟨0, b5, b6, by omega, rfl, rfl, rfl, ⟨fun q => ⟨h5.out q, NoB.nil _ _⟩⟩, ⟨fun q => ⟨h6.out q, NoB.nil _ _⟩⟩, by first | rfl | trivial⟩
    case round =>
      clear h5 h6
      obtain ⟨b, b5, b6, hb, rfl, rfl, rfl, h5, h6, rfl⟩ := hrel
      by_cases hlb : b < nb
      case neg =>
        obtain rfl : b = nb := by omega
        have q2 : ¬ (b : Int) < (b : Int) := by omega
        go_wp2
        go_roundw
        case rel => exact ⟨m + 1, b5, b6, by omega, by go_num, rfl, rfl, ⟨fun q => (h5.out q).1.snoc (by rw [hf.out, hnb.out]; exact (h5.out q).2)⟩, ⟨fun q => (h6.out q).1.snoc (by rw [hf.out, hnb.out]; exact (h6.out q).2)⟩, by first | rfl | trivial⟩
        case measure => simp [intOf]; omega
      have q2 : (b : Int) < (nb : Int) := by omega
      have hlb' : b < f.f4.length := by rw [hnb.out]; exact hlb
      obtain ⟨ad4, B0, e0, hF4, z0, -, ri⟩ := block_at r4 b hlb'
      subst hF4
      obtain ⟨l, hl⟩ : ∃ l, (f.f4[b]).f0 = l := ⟨_, by first | rfl | trivial⟩
      rw [hl] at z0 ri
      have el : (f.f4.getD b zBlock).f0 = l := by rw [getD_at hlb']; exact hl
      replace el := Aside0.mk el
      clear hl
      obtain ⟨cl, hcl⟩ : ∃ cl, l.length = cl := ⟨_, by first | rfl | trivial⟩
      rw [hcl] at z0
      have hcl40 : cl ≤ 40 := by rw [← hcl, ← el.out]; exact (hfp.out.code b hlb').2
      replace hcl := Aside0.mk hcl
      go_wp2
      go_loopw [5, 6, 9] (fun v5 v6 i W => ∃ (k : Nat) (b5 b6 : Bool), k ≤ cl ∧ i = .int .i64 k ∧ v5 = .bool b5 ∧ v6 = .bool b6 ∧ Aside0 (b5 = false → (NoF p 20 m ∧ NoB f 20 b) ∧ NoK l 20 k) ∧ Aside0 (b6 = false → (NoF p 10 m ∧ NoB f 10 b) ∧ NoK l 10 k) ∧ w2 = W) (fun _ _ i _ => cl - (intOf i).toNat)
      case atStart => exact ⟨0, b5, b6, by omega, rfl, rfl, rfl, ⟨fun q => ⟨h5.out q, NoK.nil _ _⟩⟩, ⟨fun q => ⟨h6.out q, NoK.nil _ _⟩⟩, by first | rfl | trivial⟩
      case round =>
        clear h5 h6
        obtain ⟨k, b5, b6, hk, rfl, rfl, rfl, h5, h6, rfl⟩ := hrel
        by_cases hlk : k < cl
        case neg =>
          obtain rfl : k = cl := by omega
          have q3 : ¬ (k : Int) < (k : Int) := by omega
          go_wp2
          go_roundw
          case rel => exact ⟨b + 1, b5, b6, by omega, by go_num, rfl, rfl, ⟨fun q => ⟨(h5.out q).1.1, (h5.out q).1.2.snoc (by rw [el.out, hcl.out]; exact (h5.out q).2)⟩⟩, ⟨fun q => ⟨(h6.out q).1.1, (h6.out q).1.2.snoc (by rw [el.out, hcl.out]; exact (h6.out q).2)⟩⟩, by first | rfl | trivial⟩
          case measure => simp [intOf]; omega
        have q3 : (k : Int) < (cl : Int) := by omega
        have hlk' : k < l.length := by rw [hcl.out]; exact hlk
        obtain ⟨ad5, A6, c6, hB0, z1, -, -, -, -, -, -, -, -⟩ := ins_at ri k hlk'
        subst hB0
        obtain ⟨x, hx⟩ : ∃ x, l[k] = x := ⟨_, by first | rfl | trivial⟩
        rw [hx] at z1
        have ex : l.getD k zIns = x := by rw [getD_at hlk']; exact hx
        replace ex := Aside0.mk ex
        clear hx
        cases b5 with
        | true =>
          cases b6 with
          | true =>
            go_wp2
            go_roundw
            case rel => exact ⟨k + 1, true, true, by omega, by go_num, rfl, rfl, ⟨fun q => by cases q⟩, ⟨fun q => by cases q⟩, by first | rfl | trivial⟩
            case measure => simp [intOf]; omega
          | false =>
            go_wp2
            go_roundw
            case rel => exact ⟨k + 1, true, x.f0 == 10, by omega, by go_num, rfl, rfl, ⟨fun q => by cases q⟩, ⟨fun q => ⟨(h6.out rfl).1, (h6.out rfl).2.snoc ex.out q⟩⟩, by first | rfl | trivial⟩
            case measure => simp [intOf]; omega
        | false =>
          cases b6 with
          | true =>
            go_wp2
            go_roundw
            case rel => exact ⟨k + 1, x.f0 == 20, true, by omega, by go_num, rfl, rfl, ⟨fun q => ⟨(h5.out rfl).1, (h5.out rfl).2.snoc ex.out q⟩⟩, ⟨fun q => by cases q⟩, by first | rfl | trivial⟩
            case measure => simp [intOf]; omega
          | false =>
            go_wp2
            go_roundw
            case rel => exact ⟨k + 1, x.f0 == 20, x.f0 == 10, by omega, by go_num, rfl, rfl, ⟨fun q => ⟨(h5.out rfl).1, (h5.out rfl).2.snoc ex.out q⟩⟩, ⟨fun q => ⟨(h6.out rfl).1, (h6.out rfl).2.snoc ex.out q⟩⟩, by first | rfl | trivial⟩
            case measure => simp [intOf]; omega
theorem RunPrints_row (A0 : Option Addr) (c0 : Nat) (l0 : List SFunc) (n : Int) (w : World) (H0 : Rd kFunc w A0 l0) (_ : l0.length ≤ c0) (o0 : AProg l0) (n0 : 0 ≤ n) (n1 : n ≤ 65535) :
    Calls Try.prog 7 #[.agg #[.slice A0 l0.length c0], .int .u16 n] w fun e w' => e = .returned (.bool true) ∧ Bel w w' := RunPrints_walk ⟨l0⟩ A0 c0 n w H0 ⟨o0⟩ n0 n1
end Go.Proofs.Ytodjpbidjldblaa.H
