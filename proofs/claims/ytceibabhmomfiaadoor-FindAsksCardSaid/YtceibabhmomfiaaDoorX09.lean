/- Texts of this work, joined: Fb, Fc, Fd. Conditions: each stands with its theorem. -/
import Derived.Test.YtceibabhmomfiaaDoorX00
import Derived.Test.YtceibabhmomfiaaDoorX08
import Derived.Maps.OwnSet
import Derived.Test.YtceibabhmomfiaaDoorX03
/- Layer 1, law23: a table's block; what laying its places does. -/
namespace Go.Proofs.YtceibabhmomfiaaDoor.H
open Go.RowKit Go.Proofs.YtceibabhmomfiaaDoorW.PrintWords Go.Proofs.YtceibabhmomfiaaDoorW.PrintLast
open Go.Maps (Keyed int_keyed keyOf_int_mk)
set_option linter.unusedVariables false
set_option linter.unusedSimpArgs false
set_option maxRecDepth 100000

/-- From w to w' no block of w but tb's has turned. -/
structure KO (tb : Nat) (w w' : World) : Prop where
  below : Below tb w w'
  keep : ∀ (i : Nat), i < w.heap.size → i ≠ tb → w'.heap[i]? = w.heap[i]?
section
variable {tb : Nat} {w w1 w2 : World}
theorem KO.refl (tb : Nat) (w : World) : KO tb w w := ⟨Below.refl _ _, fun _ _ _ => rfl⟩
theorem KO.size (h : KO tb w w1) : w.heap.size ≤ w1.heap.size := h.below.size
theorem KO.trans (h : KO tb w w1) (k : KO tb w1 w2) : KO tb w w2 := ⟨h.below.trans k.below, fun i hi hn => (k.keep i (Nat.lt_of_lt_of_le hi h.size) hn).trans (h.keep i hi hn)⟩
theorem KO.of_bel (h : Bel w w1) (hb : tb ≤ w.heap.size) : KO tb w w1 := ⟨h.out.mono hb, fun i hi _ => h.out.block i hi⟩
theorem KO.of_drawn (h : Drawn0 w w1) (hb : tb ≤ w.heap.size) : KO tb w w1 := KO.of_bel (Bel.drawn h) hb
theorem KO.set (j : Nat) (u : Value) : KO tb w (w.setCell ⟨tb, j, none⟩ u) :=
  ⟨(Below.refl _ _).setCell (p := ⟨tb, j, none⟩) (Nat.le_refl _) u, fun i _ hn => Below.heap_setCell w ⟨tb, j, none⟩ u i (fun e => hn e)⟩
/-- a block of one's own was written -/
theorem KO.grown {m : Nat} (h : KO tb w w1) (hg : w1.grownBy w2 (some m)) (hm : w.heap.size ≤ m) (hb : tb ≤ w.heap.size) : KO tb w w2 :=
  ⟨h.below.grown hg (Nat.le_trans hb h.size) (fun k hk => by cases hk; exact Nat.le_trans hb hm), fun i hi hn => (hg.block i (Nat.lt_of_lt_of_le hi h.size) (fun e => by cases e; omega)).trans (h.keep i hi hn)⟩
theorem KO.rd {α : Type} {d : Kd α} {A : Option Addr} {xs : List α} {w0 : World} (h : Rd d w0 A xs) (k : Below w0.heap.size w0 w1) : Rd d w1 A xs := ⟨Kd.C_below h.out k⟩
end

/-- the places of the first k charts -/
structure InMap (l : List SChart) (k : Nat) (D : DataW Unit) : Prop where
  isMap : Maps.IsMap D
  hit : ∀ (i : Nat) (h : i < l.length), i < k → Maps.has D (.int .i64 l[i].f0) = true ∧ ∀ z, D.atKey (.int .i64 l[i].f0) z = .lit (.int .i64 i)
  miss : ∀ a : Int, (∀ (i : Nat) (h : i < l.length), i < k → l[i].f0 ≠ a) → Maps.has D (.int .i64 a) = false
theorem InMap.nil (l : List SChart) : InMap l 0 (.map []) := ⟨Maps.isMap_empty, fun i h hk => absurd hk (by omega), fun _ _ => rfl⟩
theorem InMap.snoc {l : List SChart} {k : Nat} {D : DataW Unit} (h : InMap l k D) (hk : k < l.length) (hd : ∀ (i j : Nat) (hi : i < l.length) (hj : j < l.length), i < j → l[i].f0 ≠ l[j].f0) :
    InMap l (k + 1) (D.put (.int .i64 l[k].f0) (.lit (.int .i64 k))) :=
  ⟨h.isMap.put _ _, fun i hi hik => by
    by_cases he : i = k
    · subst he
      exact ⟨Maps.has_put_same h.isMap (by simp [WideAt.IsKeyLit]) _, fun z => Maps.atKey_put_same h.isMap (by simp [WideAt.IsKeyLit]) _ z⟩
    · have hne : (Lit.int IntKind.i64 l[i].f0) ≠ Lit.int IntKind.i64 l[k].f0 := fun e => by
        injection e with _ e
        exact hd i k hi hk (by omega) e
      have h1 := h.hit i hi (by omega)
      exact ⟨by rw [Maps.has_put_other hne]; exact h1.1, fun z => by rw [Maps.atKey_put_other hne]; exact h1.2 z⟩,
   fun a ha => by
    have hne : (Lit.int IntKind.i64 a) ≠ Lit.int IntKind.i64 l[k].f0 := fun e => by
      injection e with _ e
      exact ha k hk (by omega) e.symm
    rw [Maps.has_put_other hne]
    exact h.miss a (fun i hi hik => ha i hi (by omega))⟩

theorem run_makeMap_n (t k e : TypeId) (ht : Tryd.prog.underlying t = some (.map k e)) (q : IntKind) (n : Int) (w : World) : (Instr.makeMap t (some (.int q n))).run Tryd.prog w = .ok (.map (some w.heap.size)) (w.alloc (.map #[] 0)) := by
  simp [Instr.makeMap, run_underlying ht, asInt, Result.andThen, newObj]
  rfl

section
variable {ops : Array Oper} {rest : List Oper} {o : Oper} {a : Act} {Q : Exit → Act → World → Prop}
/-- 'm[k] = v' as one step of a region that draws its order -/
theorem put_step {w : World} {Kc : Act → World → Prop} (hgd : o.guard = none) (m x v : Operand) (ho : o.op = Op.mapUpdate 94 m x v)
    (b n : Nat) (D : DataW Unit) (hm : a.eval m = .map (some b)) (hown : w.ownsMap Tryd.prog 3 (plainElem Tryd.prog 3) b n D) (hn : n < maxLen) (key val : Int) (hx : a.eval x = .int .i64 key) (hv : a.eval v = .int .i64 val)
    (hkw : (Lit.int .i64 key).wf = true) (hvw : (Lit.int .i64 val).wf = true)
    (h : ∀ w', w'.ownsMap Tryd.prog 3 (plainElem Tryd.prog 3) b (n + 1) (D.put (.int .i64 key) (.lit (.int .i64 val))) → w.grownBy w' (some b) → Kc (a.put o.dst undef) w') :
    if Region.wanted o (yielded ops a.tmps) = true then Oper.wp Tryd.prog o a w Kc Q else Kc (a.put o.dst undef) w := by
  obtain ⟨w', hrun, r1, r2⟩ := hown.update (int_keyed Tryd.underlying3) Tryd.underlying94 hn (keyOf_int_mk Tryd.underlying3 hkw) (plainElem_int Tryd.underlying3 hvw)
  rw [if_pos (by simp [Region.wanted, hgd])]
  unfold Oper.wp
  simp [execOp, ho, hm, hx, hv, hrun, Result.andThen]
  exact h w' r1 r2
end

set_option maxHeartbeats 3000000 in
theorem lay_any (tb : Nat) (A : Option Addr) (c : Nat) (l : List SChart) (w : World) (x1 x2 x3 x4 x5 : Value) (hb : w.heap[tb]? = some (.cells #[.slice A l.length c, x1, x2, x3, x4, x5] 99 (0, 0)))
    (hR : Aside0 (∀ W, Below tb w W → Rd kChart W A l)) (hd : Aside0 (∀ (i j : Nat) (hi : i < l.length) (hj : j < l.length), i < j → l[i].f0 ≠ l[j].f0)) (hn : l.length ≤ 1000000) (hw : Aside0 (∀ x ∈ l, (Lit.int .i64 x.f0).wf = true)) :
    Calls Tryd.prog 54 #[.pointer (some ⟨tb, 0, none⟩)] w fun e w' => e = .returned (.tuple #[]) ∧ ∃ m D, w.heap.size ≤ m ∧ w'.heap[tb]? = some (.cells #[.slice A l.length c, x1, x2, x3, .map (some m), x5] 99 (0, 0)) ∧ w'.ownsMap Tryd.prog 3 (plainElem Tryd.prog 3) m l.length D ∧ InMap l l.length D ∧ KO tb w w' := by
  have hmm := run_makeMap_n 94 3 3 Tryd.underlying94 .i64
  have htb := blk_lt hb
  have y0 : ∀ o, (w.alloc o).cell? ⟨tb, 0, none⟩ = some (.slice A l.length c) := fun o => blk_cell (heap_old hb) 0
  have y0' : w.cell? ⟨tb, 0, none⟩ = some (.slice A l.length c) := blk_cell hb 0
  have y4 : ∀ o, (w.alloc o).cell? ⟨tb, 4, none⟩ = some x4 := fun o => blk_cell (heap_old hb) 4
  have g4 : ∀ o, (w.alloc o).frozen? ⟨tb, 4, none⟩ = false := fun o => blk_frozen (heap_old hb) 4
  go_enter Tryd.func54, Tryd.ntmps54
  go_upto_region 1 with (fail)
  have hba : ((w.setCell ⟨tb, 4, none⟩ (.map (some w.heap.size))).alloc (.map #[] 0)).heap[tb]? = some (.cells #[.slice A l.length c, x1, x2, x3, .map (some w.heap.size), x5] 99 (0, 0)) := heap_old ((blk_set hb 4 _).trans rfl)
  have hsz : (w.setCell ⟨tb, 4, none⟩ (.map (some w.heap.size))).heap.size = w.heap.size := by simp
  have hKa : KO tb w ((w.setCell ⟨tb, 4, none⟩ (.map (some w.heap.size))).alloc (.map #[] 0)) := (KO.set 4 _).trans (KO.of_bel ((Bel.refl _).alloc _) (by rw [hsz]; exact Nat.le_of_lt htb))
  have hMa : ((w.setCell ⟨tb, 4, none⟩ (.map (some w.heap.size))).alloc (.map #[] 0)).ownsMap Tryd.prog 3 (plainElem (H := Unit) Tryd.prog 3) w.heap.size 0 (.map []) := by
    have h := World.ownsMap_made (H := Unit) (w.setCell ⟨tb, 4, none⟩ (.map (some w.heap.size))) Tryd.prog 3 (plainElem Tryd.prog 3)
    rw [hsz] at h
    exact h
  clear hsz
  generalize (w.setCell ⟨tb, 4, none⟩ (.map (some w.heap.size))).alloc (.map #[] 0) = wa at hba hKa hMa ⊢
  clear y0 y0' y4 g4 hb
  obtain ⟨m, hm⟩ : ∃ m, w.heap.size = m := ⟨_, rfl⟩
  rw [hm] at hba hMa ⊢
  have hmw : Aside0 (w.heap.size ≤ m) := ⟨by omega⟩
  have htm : tb < m := by omega
  have y0 : wa.cell? ⟨tb, 0, none⟩ = some (.slice A l.length c) := blk_cell hba 0
  replace hm := Aside0.mk hm
  replace hba := Aside0.mk hba
  replace hKa := Aside0.mk hKa
  replace hMa := Aside0.mk hMa
  clear hmm
  go_upto_region 2 with (fail)
  clear y0
  go_loopw [18] (fun i W => ∃ k : Nat, k ≤ l.length ∧ i = .int .i64 k ∧ ∃ D, Aside0 (W.ownsMap Tryd.prog 3 (plainElem Tryd.prog 3) m k D) ∧ Aside0 (InMap l k D) ∧ Aside0 (KO tb w W) ∧ Aside0 (W.heap[tb]? = some (.cells #[.slice A l.length c, x1, x2, x3, .map (some m), x5] 99 (0, 0)))) (fun i _ => l.length - (intOf i).toNat)
  case atStart => exact ⟨0, by omega, rfl, _, hMa, ⟨InMap.nil l⟩, hKa, hba⟩
  case round =>
    obtain ⟨k, hk, rfl, D, hM, hI, hK, hB⟩ := hrel
    by_cases hlt : k < l.length
    · obtain ⟨ad, C1, n1, C2, n2, rfl, c0, c1, c2, c3, c4⟩ := chart_at (hR.out wr hK.out.below) k hlt
      have hdk := Aside0.mk (fun D (h : InMap l k D) => h.snoc hlt hd.out)
      have hwk := hw.out _ (List.getElem_mem hlt)
      obtain ⟨x, hx⟩ : ∃ x, l[k] = x := ⟨_, rfl⟩
      rw [hx] at c0 c1 c2 c3 c4 hdk hwk
      obtain ⟨x0, xr, xd⟩ := x
      simp only at c0 c1 c2 c3 c4 hdk hwk
      have hba2 := heap_alloc_new wr (.cells #[.int .i64 x0, .slice C1 xr.length n1, .slice C2 xd.length n2] 36)
      have hBa := (Bel.refl wr).alloc (.cells #[.int .i64 x0, .slice C1 xr.length n1, .slice C2 xd.length n2] 36)
      clear c3 c4
      go_upto_region 4 with (fail)
      clear c0 c1 c2
      have hka := Aside0.mk (hK.out.trans (KO.of_bel hBa (Nat.le_trans (Nat.le_of_lt htb) hK.out.size)))
      have hMw := Aside0.mk (hM.out.kept (World.grownBy_alloc wr (.cells #[.int .i64 x0, .slice C1 xr.length n1, .slice C2 xd.length n2] 36) none) (by simp))
      have hbb : (wr.alloc (.cells #[.int .i64 x0, .slice C1 xr.length n1, .slice C2 xd.length n2] 36)).heap[tb]? = some (.cells #[.slice (some ad) l.length c, x1, x2, x3, .map (some m), x5] 99 (0, 0)) := heap_old hB.out
      generalize wr.alloc (.cells #[.int .i64 x0, .slice C1 xr.length n1, .slice C2 xd.length n2] 36) = wb at hba2 hBa hka hMw hbb ⊢
      obtain ⟨h, hh⟩ : ∃ h, wr.heap.size = h := ⟨_, rfl⟩
      rw [hh] at hba2 ⊢
      have y4 : wb.cell? ⟨tb, 4, none⟩ = some (.map (some m)) := blk_cell hbb 4
      have z0 : wb.cell? ⟨h, 0, none⟩ = some (.int .i64 x0) := blk_cell hba2 0
      replace hbb := Aside0.mk hbb
      replace hba2 := Aside0.mk hba2
      have hkw : (Lit.int .i64 (k : Int)).wf = true := WalkArith.wf_i64 (by omega)
      have hkm : k < maxLen := by unfold maxLen; omega
      refine wp_region_held_drew (S := fun W => W.cell? ⟨tb, 4, none⟩ = some (.map (some m)) ∧ W.cell? ⟨h, 0, none⟩ = some (.int .i64 x0)) (by kernel_rfl) ⟨y4, z0⟩ (fun hHeld => ?_)
      refine wpAnyH_take (i := 0) (v := ?_) rfl (by kernel_rfl) (by kernel_rfl) (by kernel_rfl) (fun _ _ _ h => h) (Or.inl ⟨by kernel_rfl, ?_⟩) hHeld ?_
      rotate_left 1
      focus (intro w hSw; (try dsimp only at hSw); go_simp; (try with_reducible rfl); done)
      try simp only [Act.put, List.getElem_toArray, List.getElem_cons_zero, List.getElem_cons_succ, List.setIfInBounds_toArray, List.set_cons_zero, List.set_cons_succ]
      refine wpAnyH_take (i := 1) (v := ?_) rfl (by kernel_rfl) (by kernel_rfl) (by kernel_rfl) (fun _ _ _ h => h) (Or.inl ⟨by kernel_rfl, ?_⟩) hHeld ?_
      rotate_left 1
      focus (intro w hSw; (try dsimp only at hSw); go_simp; (try with_reducible rfl); done)
      try simp only [Act.put, List.getElem_toArray, List.getElem_cons_zero, List.getElem_cons_succ, List.setIfInBounds_toArray, List.set_cons_zero, List.set_cons_succ]
      refine wpAnyH_take (i := 2) (v := ?_) rfl (by kernel_rfl) (by kernel_rfl) (by kernel_rfl) (fun _ _ _ h => h) (Or.inl ⟨by kernel_rfl, ?_⟩) hHeld ?_
      rotate_left 1
      focus (intro w hSw; (try dsimp only at hSw); go_simp; (try with_reducible rfl); done)
      try simp only [Act.put, List.getElem_toArray, List.getElem_cons_zero, List.getElem_cons_succ, List.setIfInBounds_toArray, List.set_cons_zero, List.set_cons_succ]
      refine wpAnyH_take (i := 3) (v := ?_) rfl (by kernel_rfl) (by kernel_rfl) (by kernel_rfl) (fun _ _ _ h => h) (Or.inl ⟨by kernel_rfl, ?_⟩) hHeld ?_
      rotate_left 1
      focus (intro w hSw; (try dsimp only at hSw); go_simp; (try with_reducible rfl); done)
      try simp only [Act.put, List.getElem_toArray, List.getElem_cons_zero, List.getElem_cons_succ, List.setIfInBounds_toArray, List.set_cons_zero, List.set_cons_succ]
      refine wpAnyH_take (i := 4) (v := ?_) rfl (by kernel_rfl) (by kernel_rfl) (by kernel_rfl) (fun _ _ _ h => h) (Or.inl ⟨by kernel_rfl, ?_⟩) hHeld ?_
      rotate_left 1
      focus (intro w hSw; (try dsimp only at hSw); go_simp; (try with_reducible rfl); done)
      try simp only [Act.put, List.getElem_toArray, List.getElem_cons_zero, List.getElem_cons_succ, List.setIfInBounds_toArray, List.set_cons_zero, List.set_cons_succ]
      refine wpAnyH_take (i := 5) (v := ?_) rfl (by kernel_rfl) (by kernel_rfl) (by kernel_rfl) (fun _ _ _ h => h) (Or.inl ⟨by kernel_rfl, ?_⟩) hHeld ?_
      rotate_left 1
      focus (intro w hSw; (try dsimp only at hSw); go_simp; (try with_reducible rfl); done)
      try simp only [Act.put, List.getElem_toArray, List.getElem_cons_zero, List.getElem_cons_succ, List.setIfInBounds_toArray, List.set_cons_zero, List.set_cons_succ]
      refine wpAnyH_take (i := 6) (v := ?_) rfl (by kernel_rfl) (by kernel_rfl) (by kernel_rfl) (fun _ _ _ h => h) (Or.inl ⟨by kernel_rfl, ?_⟩) hHeld ?_
      rotate_left 1
      focus (intro w hSw; (try dsimp only at hSw); go_simp; (try with_reducible rfl); done)
      try simp only [Act.put, List.getElem_toArray, List.getElem_cons_zero, List.getElem_cons_succ, List.setIfInBounds_toArray, List.set_cons_zero, List.set_cons_succ]
      refine wpAnyH_ready (rs := [7]) (by kernel_rfl) (by simp) ?_
      refine AllReadyH.cons rfl (fun K hK => ?_) AllReadyH.nil
      refine put_step rfl _ _ _ rfl m k D rfl hMw.out hkm x0 k rfl rfl hwk hkw ?_
      intro w1 hM1 hg1
      replace hg1 : wb.grownBy w1 (some m) := ⟨hg1.os, hg1.tape, hg1.output, hg1.size, fun i hi hn => hg1.block i hi hn⟩
      have hk1 := Aside0.mk (hka.out.grown hg1 hmw.out (Nat.le_of_lt htb))
      have hb1 : Aside0 (w1.heap[tb]? = some (.cells #[.slice (some ad) l.length c, x1, x2, x3, .map (some m), x5] 99 (0, 0))) := ⟨(hg1.block tb (blk_lt hbb.out) (by simp; omega)).trans hbb.out⟩
      have hmh : m < h := by have := hM.out.lt; omega
      have hz1 : w1.cell? ⟨h, 0, none⟩ = some (.int .i64 x0) := blk_cell ((hg1.block h (blk_lt hba2.out) (by simp; omega)).trans hba2.out) 0
      have hI1 := Aside0.mk (hdk.out D hI.out)
      replace hM1 := Aside0.mk hM1
      refine hK.out _ _ ?_ (fun hHeld => ?_)
      rotate_left 1
      clear hK K
      try simp only [Act.put, List.getElem_toArray, List.getElem_cons_zero, List.getElem_cons_succ, List.setIfInBounds_toArray, List.set_cons_zero, List.set_cons_succ]
      rotate_left 1
      · exact ⟨blk_cell hb1.out 4, hz1⟩
      refine wpAnyH_done (by kernel_rfl) ?_ _
      go_wp2
      go_roundw
      case rel => exact ⟨k + 1, by omega, by go_num, _, hM1, hI1, hk1, hb1⟩
      case measure => simp [intOf]; omega
    · go_wp2
      go_end0
      have hkl : k = l.length := by omega
      subst hkl
      exact ⟨rfl, m, D, hmw.out, hB.out, hM.out, hI.out, hK.out⟩
end Go.Proofs.YtceibabhmomfiaaDoor.H

/- Layer 1, law23: once; the places are laid. -/
namespace Go.Proofs.YtceibabhmomfiaaDoor.H
open Go.RowKit Go.Proofs.YtceibabhmomfiaaDoorW.PrintWords Go.Proofs.YtceibabhmomfiaaDoorW.PrintLast
set_option linter.unusedVariables false
set_option linter.unusedSimpArgs false
set_option maxRecDepth 100000

/-- a table's block -/
abbrev TabB (W : World) (tb : Nat) (A : Option Addr) (n c : Nat) (d : Int) (s : Int) (M : Value) (k : Int) : Prop :=
  W.heap[tb]? = some (.cells #[.slice A n c, .int .u32 d, .int .i32 s, .int .u32 0, M, .int .i64 k] 99 (0, 0))
/-- charts, told apart by their addresses, that are read whatever is written from tb on -/
structure ChartsAt (w : World) (tb : Nat) (A : Option Addr) (l : List SChart) : Prop where
  rd : Aside0 (∀ W, Below tb w W → Rd kChart W A l)
  diff : Aside0 (∀ (i j : Nat) (hi : i < l.length) (hj : j < l.length), i < j → l[i].f0 ≠ l[j].f0)
  few : l.length ≤ 1000000
  wf : Aside0 (∀ x ∈ l, (Lit.int .i64 x.f0).wf = true)
theorem ChartsAt.keep {w W : World} {tb : Nat} {A : Option Addr} {l : List SChart} (h : ChartsAt w tb A l) (k : Below tb w W) : ChartsAt W tb A l := ⟨⟨fun W' k' => h.rd.out W' (k.trans k')⟩, h.diff, h.few, h.wf⟩
/-- the places are laid -/
structure Laid (W : World) (tb : Nat) (A : Option Addr) (l : List SChart) (c : Nat) (k : Int) (m : Nat) (D : DataW Unit) : Prop where
  blk : TabB W tb A l.length c 1 0 (.map (some m)) k
  map : W.ownsMap Tryd.prog 3 (plainElem Tryd.prog 3) m l.length D
  inm : InMap l l.length D
  ne : m ≠ tb

set_option maxHeartbeats 3000000 in
theorem slow_any (tb : Nat) (A : Option Addr) (c : Nat) (l : List SChart) (w : World) (M : Value) (k : Int) (hb : TabB w tb A l.length c 0 0 M k) (hl : ChartsAt w tb A l) :
    Calls Tryd.prog 83 #[.pointer (some ⟨tb, 1, none⟩), .func (.func 54) #[.pointer (some ⟨tb, 0, none⟩)] #[]] w fun e w' => e = .returned (.tuple #[]) ∧ ∃ m D, Laid w' tb A l c k m D ∧ KO tb w w' := by
  have hb1 : TabB (w.setCell ⟨tb, 2, none⟩ (.int .i32 1)) tb A l.length c 0 1 M k := (blk_set hb 2 _).trans rfl
  have hk1 : KO tb w (w.setCell ⟨tb, 2, none⟩ (.int .i32 1)) := KO.set 2 _
  have hlk := Aside0.mk (s_lock ⟨tb, 2, none⟩ w (blk_cell hb 2) (blk_frozen hb 2))
  obtain ⟨wl, hwl⟩ : ∃ W, w.setCell ⟨tb, 2, none⟩ (.int .i32 1) = W := ⟨_, rfl⟩
  rw [hwl] at hb1 hk1 hlk
  have hld := Aside0.mk (s_bload ⟨tb, 1, none⟩ 0 wl (blk_cell hb1 1))
  have hly := Aside0.mk (lay_any tb A c l wl _ _ _ _ _ hb1 (hl.keep hk1.below).rd hl.diff hl.few hl.wf)
  rw [show ((0 : Int) != 0) = false from rfl] at hld
  have htb := blk_lt hb
  replace hb := Aside0.mk hb
  replace hb1 := Aside0.mk hb1
  replace hk1 := Aside0.mk hk1
  replace hwl := Aside0.mk hwl
  replace hl := Aside0.mk hl
  go_enter_defers Tryd.func83, Tryd.ntmps83
  go_wp2_with (first | (go_at_call 96; ((with_reducible refine hlk.out.mono ?_); rintro e w' ⟨rfl, rfl⟩)) | (go_at_call 82; ((with_reducible refine hld.out.mono ?_); rintro e w' ⟨rfl, rfl⟩)) | (go_at_call 54; ((with_reducible refine hly.out.mono ?_); rintro e w2 ⟨rfl, m, D, hm, hb2, hM2, hI2, hK2⟩)))
  have hmt : m ≠ tb := by have := (hk1.out.size); omega
  refine leaves_cons (f := 98) (args := #[.pointer (some ⟨tb, 1, none⟩), .bool true]) (by simp) (by simp [go_sem]) ?_
  refine (s_store ⟨tb, 1, none⟩ (.int .u32 0) .returning _ (blk_cell hb2 1) (blk_frozen hb2 1)).mono ?_
  rintro e u' w'' ⟨rfl, rfl, rfl⟩
  have hb3 : TabB (w2.drew.setCell ⟨tb, 1, none⟩ (.int .u32 1)) tb A l.length c 1 1 (.map (some m)) k := (blk_set (show w2.drew.heap[tb]? = _ from hb2) 1 _).trans rfl
  refine leaves_cons (f := 97) (args := #[.pointer (some ⟨tb, 2, none⟩)]) (by simp [settle]) (by simp [go_sem]) ?_
  refine (s_unlock ⟨tb, 2, none⟩ _ _ (blk_cell hb3 2) (blk_frozen hb3 2)).mono ?_
  rintro e u' w'' ⟨rfl, rfl, rfl⟩
  have hb4 : TabB ((w2.drew.setCell ⟨tb, 1, none⟩ (.int .u32 1)).setCell ⟨tb, 2, none⟩ (.int .i32 0)) tb A l.length c 1 0 (.map (some m)) k := (blk_set hb3 2 _).trans rfl
  have hk4 : KO tb w2 ((w2.drew.setCell ⟨tb, 1, none⟩ (.int .u32 1)).setCell ⟨tb, 2, none⟩ (.int .i32 0)) := (KO.of_bel (Bel.drewN (Bel.refl _) 1) (Nat.le_of_lt (blk_lt hb2))).trans ((KO.set 1 _).trans (KO.set 2 _))
  have hM4 : ((w2.drew.setCell ⟨tb, 1, none⟩ (.int .u32 1)).setCell ⟨tb, 2, none⟩ (.int .i32 0)).ownsMap Tryd.prog 3 (plainElem (H := Unit) Tryd.prog 3) m l.length D := by
    have hlt := hM2.lt
    obtain ⟨es, clock, h1, h2, h3, h4⟩ := hM2
    exact ⟨es, clock, (hk4.keep m hlt hmt).trans h1, h2, h3, h4⟩
  generalize (w2.drew.setCell ⟨tb, 1, none⟩ (.int .u32 1)).setCell ⟨tb, 2, none⟩ (.int .i32 0) = w4 at hb4 hk4 hM4 ⊢
  have hfin : ∃ m D, Laid w4 tb A l c k m D ∧ KO tb w w4 := ⟨m, D, ⟨hb4, hM4, hI2, hmt⟩, (hk1.out.trans hK2).trans hk4⟩
  simp only [Leaves, settle]
  exact ⟨.tuple #[], results_none rfl _ _ _, rfl, hfin⟩
set_option maxHeartbeats 2000000 in
theorem do_first (tb : Nat) (A : Option Addr) (c : Nat) (l : List SChart) (w : World) (M : Value) (k : Int) (hb : TabB w tb A l.length c 0 0 M k) (hl : ChartsAt w tb A l) :
    Calls Tryd.prog 53 #[.pointer (some ⟨tb, 1, none⟩), .func (.func 54) #[.pointer (some ⟨tb, 0, none⟩)] #[]] w fun e w' => e = .returned (.tuple #[]) ∧ ∃ m D, Laid w' tb A l c k m D ∧ KO tb w w' := by
  have hld := Aside0.mk (s_bload ⟨tb, 1, none⟩ 0 w (blk_cell hb 1))
  have hsl := Aside0.mk (slow_any tb A c l w M k hb hl)
  rw [show ((0 : Int) != 0) = false from rfl] at hld
  replace hb := Aside0.mk hb
  replace hl := Aside0.mk hl
  go_enter Tryd.func53, Tryd.ntmps53
  go_wp2_with (first | (go_at_call 83; ((with_reducible refine hsl.out.mono ?_); rintro e w' ⟨rfl, hq⟩))     | (go_at_call 82; ((with_reducible refine hld.out.mono ?_); rintro e w' ⟨rfl, rfl⟩)))
  go_end0
  exact ⟨rfl, hq⟩
set_option maxHeartbeats 2000000 in
theorem do_done (tb : Nat) (A : Option Addr) (n c : Nat) (w : World) (s : Int) (M F : Value) (k : Int) (hb : TabB w tb A n c 1 s M k) :
    Calls Tryd.prog 53 #[.pointer (some ⟨tb, 1, none⟩), F] w fun e w' => e = .returned (.tuple #[]) ∧ w' = w := by
  have hld := Aside0.mk (s_bload ⟨tb, 1, none⟩ 1 w (blk_cell hb 1))
  rw [show ((1 : Int) != 0) = true from rfl] at hld
  replace hb := Aside0.mk hb
  go_enter Tryd.func53, Tryd.ntmps53
  go_wp2_with (first | (go_at_call 82; ((with_reducible refine hld.out.mono ?_); rintro e w' ⟨rfl, rfl⟩)))
  go_end0
  exact ⟨rfl, rfl⟩
set_option maxHeartbeats 2000000 in
theorem Len_nil (w : World) : Calls Tryd.prog 27 #[.pointer none] w fun e w' => e = .returned (.int .i64 0) ∧ w' = w := by
  go_enter Tryd.func27, Tryd.ntmps27
  go_wp2
  go_ret
  exact ⟨rfl, rfl⟩
set_option maxHeartbeats 2000000 in
theorem Len_any (tb : Nat) (A : Option Addr) (n c : Nat) (d s : Int) (M : Value) (k : Int) (w : World) (hb : TabB w tb A n c d s M k) :
    Calls Tryd.prog 27 #[.pointer (some ⟨tb, 0, none⟩)] w fun e w' => e = .returned (.int .i64 n) ∧ w' = w := by
  have y0 := blk_cell hb 0
  replace hb := Aside0.mk hb
  go_enter Tryd.func27, Tryd.ntmps27
  go_wp2
  go_ret
  exact ⟨rfl, rfl⟩
set_option maxHeartbeats 2000000 in
theorem Asked_nil (w : World) : Calls Tryd.prog 28 #[.pointer none] w fun e w' => e = .returned (.int .i64 0) ∧ w' = w := by
  go_enter Tryd.func28, Tryd.ntmps28
  go_wp2
  go_ret
  exact ⟨rfl, rfl⟩
set_option maxHeartbeats 2000000 in
theorem Asked_any (tb : Nat) (A : Option Addr) (n c : Nat) (d s : Int) (M : Value) (k : Int) (w : World) (hb : TabB w tb A n c d s M k) :
    Calls Tryd.prog 28 #[.pointer (some ⟨tb, 0, none⟩)] w fun e w' => e = .returned (.int .i64 k) ∧ w' = w := by
  have hld := Aside0.mk (s_iload ⟨tb, 5, none⟩ k w (blk_cell hb 5))
  replace hb := Aside0.mk hb
  go_enter Tryd.func28, Tryd.ntmps28
  go_wp2_with (first | (go_at_call 58; ((with_reducible refine hld.out.mono ?_); rintro e w' ⟨rfl, rfl⟩)))
  go_ret
  exact ⟨rfl, rfl⟩
end Go.Proofs.YtceibabhmomfiaaDoor.H

/- Layer 1, law23: copies of a chart's rows. -/
namespace Go.Proofs.YtceibabhmomfiaaDoor.H
open Go.RowKit Go.Proofs.YtceibabhmomfiaaDoorW.PrintWords Go.Proofs.YtceibabhmomfiaaDoorW.PrintLast
set_option linter.unusedVariables false
set_option linter.unusedSimpArgs false
set_option maxRecDepth 100000

theorem Own.lit0 {α : Type} (d : Kd α) (e : Nat) (W : World) : Own d e W (W.alloc (.cells #[] e)) (.slice (some ⟨W.heap.size, 0, none⟩) 0 0) [] :=
  ⟨fun _ _ => trivial, [], by
    have h2 := World.ownsRow_lit (base := W.heap.size) (e := e) (size := d.sz) W #[] 0 (Nat.le_refl _) (by decide) (by simp)
    simpa using h2, Reps.none _ _⟩
set_option maxHeartbeats 1000000 in
theorem cloneLoc_any (A : Option Addr) (c : Nat) (l : List SLoc) (w : World) (HR : Rd kLoc w A l) (hl : l.length ≤ 1000000) :
    Calls Tryd.prog 55 #[.slice A l.length c] w fun e w' => ∃ v : Value, e = .returned v ∧ Own kLoc 50 w w' v l ∧ Bel w w' := by
  have hA := HR.nil_of
  cases A with
  | none =>
    obtain rfl := hA rfl
    clear hA HR
    have hq := fun w => Lib.run_eql_slice_nil (P := Tryd.prog) w 33 50 none 0 c 0 0 Tryd.underlying33
    go_enter Tryd.func55, Tryd.ntmps55
    go_wp2
    go_ret
    exact ⟨_, rfl, Own.nil _ _ _ _, Bel.refl _⟩
  | some ad =>
    clear hA
    have hq := fun w => Lib.run_eql_slice_nil (P := Tryd.prog) w 33 50 (some ad) l.length c 0 0 Tryd.underlying33
    have HR1 : Rd kLoc (w.alloc (.cells #[] 50)) (some ad) l := HR.step ((Bel.refl w).alloc _)
    have HO := Own.lit0 kLoc 50 w
    have HB1 : Below w.heap.size w (w.alloc (.cells #[] 50)) := ((Bel.refl w).alloc _).out
    have hs1 : w.heap.size ≤ (w.alloc (.cells #[] 50)).heap.size := HB1.size
    go_enter Tryd.func55, Tryd.ntmps55
    go_wp2_with ((with_reducible refine gate_b (b := .append) rfl ?_); refine Kd.R_append_rows kLoc (Rr := kLoc.K (w.alloc (.cells #[] 50))) (w0 := w) w.heap.size rfl _ _ 33 50 (.agg #[.int .i64 0, .int .i64 0]) 16 rfl Tryd.underlying33 info_Loc rfl (by decide) (by decide) _ [] l (some ad) l.length c (fun _ => True) (fun _ => False) rfl rfl HO.out HR1.out (fun _ _ h => h) (fun _ h => h.elim) (fun _ _ => trivial) HB1 hs1 (by simp; omega) ?_; intro v1 w1 hR hB hG hX)
    go_ret
    exact ⟨_, rfl, ⟨hR⟩, ⟨hB⟩⟩
set_option maxHeartbeats 1000000 in
theorem clonePair_any (A : Option Addr) (c : Nat) (l : List SPair) (w : World) (HR : Rd kPair w A l) (hl : l.length ≤ 1000000) :
    Calls Tryd.prog 56 #[.slice A l.length c] w fun e w' => ∃ v : Value, e = .returned v ∧ Own kPair 73 w w' v l ∧ Bel w w' := by
  have hA := HR.nil_of
  cases A with
  | none =>
    obtain rfl := hA rfl
    clear hA HR
    have hq := fun w => Lib.run_eql_slice_nil (P := Tryd.prog) w 34 73 none 0 c 0 0 Tryd.underlying34
    go_enter Tryd.func56, Tryd.ntmps56
    go_wp2
    go_ret
    exact ⟨_, rfl, Own.nil _ _ _ _, Bel.refl _⟩
  | some ad =>
    clear hA
    have hq := fun w => Lib.run_eql_slice_nil (P := Tryd.prog) w 34 73 (some ad) l.length c 0 0 Tryd.underlying34
    have HR1 : Rd kPair (w.alloc (.cells #[] 73)) (some ad) l := HR.step ((Bel.refl w).alloc _)
    have HO := Own.lit0 kPair 73 w
    have HB1 : Below w.heap.size w (w.alloc (.cells #[] 73)) := ((Bel.refl w).alloc _).out
    have hs1 : w.heap.size ≤ (w.alloc (.cells #[] 73)).heap.size := HB1.size
    go_enter Tryd.func56, Tryd.ntmps56
    go_wp2_with ((with_reducible refine gate_b (b := .append) rfl ?_); refine Kd.R_append_rows kPair (Rr := kPair.K (w.alloc (.cells #[] 73))) (w0 := w) w.heap.size rfl _ _ 34 73 (.agg #[.int .i64 0, .int .i64 0, .int .i64 0, .int .i64 0]) 32 rfl Tryd.underlying34 info_Pair rfl (by decide) (by decide) _ [] l (some ad) l.length c (fun _ => True) (fun _ => False) rfl rfl HO.out HR1.out (fun _ _ h => h) (fun _ h => h.elim) (fun _ _ => trivial) HB1 hs1 (by simp; omega) ?_; intro v1 w1 hR hB hG hX)
    go_ret
    exact ⟨_, rfl, ⟨hR⟩, ⟨hB⟩⟩
end Go.Proofs.YtceibabhmomfiaaDoor.H
