/- Texts joined. Conditions: each stands with its theorem. -/
import Derived.Test.YtodjpbidjldblaaX00
import Derived.Test.YtodjpbidjldblaaX07
import Derived.Test.YtodjpbidjldblaaX02
namespace Go.Proofs.Ytodjpbidjldblaa.H
open Go.RowKit Go.Proofs.YtodjpbidjldblaaW.PrintWords Go.Proofs.YtodjpbidjldblaaW.PrintLast Go.Proofs.YtodjpbidjldblaaW.PrintMore
set_option linter.unusedVariables false
set_option linter.unusedSimpArgs false
set_option maxRecDepth 100000
def SetsAt (base : Nat) (W : World) (b n : Nat) : Prop := ∃ vs : List Value, vs.length = n ∧ W.heap[b]? = some (.cells vs.toArray 81 (0, 0)) ∧ ∀ v ∈ vs, SetO base W v
section
variable {base n b : Nat} {W W1 : World}
theorem SetsAt.step (h : SetsAt base W b n) (k : Bel W W1) : SetsAt base W1 b n := by
 obtain ⟨vs, h1, h2, h3⟩ := h
 exact ⟨vs, h1, k.blk h2, fun v hv => (h3 v hv).step k⟩
theorem SetO.ko {v : Value} {b : Nat} {cs : Array Value} (h : SetO base W v) (hb : W.heap[b]? = some (.cells cs 81 (0, 0))) (k : KO b W W1) : SetO base W1 v := by
 obtain ⟨l, h1, h2⟩ := h
 exact ⟨l, h1.koE rfl k (h1.ne hb (by decide)), h2⟩
theorem SetsAt.typed (h : SetsAt base W b n) : ∃ cs, W.heap[b]? = some (.cells cs 81 (0, 0)) := by
 obtain ⟨vs, _, h2, _⟩ := h
 exact ⟨_, h2⟩
theorem SetsAt.put (h : SetsAt base W b n) (k : Nat) {v : Value} (hv : SetO base W v) : SetsAt base (W.setCell ⟨b, k, none⟩ v) b n := by
 obtain ⟨vs, h1, h2, h3⟩ := h
 refine ⟨vs.set k v, by simpa using h1, ?_, fun u hu => ?_⟩
 ·have := blk_set h2 k v
  simpa using this
 ·rcases List.mem_or_eq_of_mem_set hu with hu | rfl
  ·exact (h3 u hu).ko h2 (KO.set b k W v)
  ·exact hv.ko h2 (KO.set b k W u)
theorem SetsAt.far {c : Nat} {cs : Array Value} (h : SetsAt base W b n) (hc : W.heap[c]? = some (.cells cs 81 (0, 0))) (hne : b ≠ c) (k : KO c W W1) : SetsAt base W1 b n := by
 obtain ⟨vs, h1, h2, h3⟩ := h
 exact ⟨vs, h1, k.blk h2 hne, fun v hv => (h3 v hv).ko hc k⟩
theorem SetsAt.at_ (h : SetsAt base W b n) (k : Nat) (hk : k < n) : ∃ A l c, W.cell? ⟨b, k, none⟩ = some (.slice A l c) ∧ W.frozen? ⟨b, k, none⟩ = false ∧ SetO base W (.slice A l c) := by
 obtain ⟨vs, h1, h2, h3⟩ := h
 obtain ⟨l, hl, h64⟩ := h3 (vs[k]'(by omega)) (List.getElem_mem _)
 obtain ⟨A, c, e, _, _⟩ := hl.reads
 refine ⟨A, l.length, c, ?_, blk_frozen h2 k, l, by rw [← e]; exact hl, h64⟩
 rw [blk_cell h2 k, ← e]
 simp [List.getElem?_eq_getElem (show k < vs.length by omega)]
end
theorem info_set : (Try.prog.info? 81).map (fun i => (i.zero, i.size, i.bytes)) = some (some (.slice none 0 0), 1, 24) := by kernel_rfl
theorem make_sets (n : Nat) (hn : n ≤ 1000000) (W : World) : (Instr.makeSlice 76 (.int .i64 (n : Int)) (.int .i64 (n : Int))).run Try.prog W = .ok (.slice (some ⟨W.heap.size, 0, none⟩) n n) (W.alloc (.cells (Array.replicate n (.slice none 0 0)) 81)) := by
 obtain ⟨i0, hi, hz0, hz1, hz2⟩ := info_parts info_set
 have h := run_make (P := Try.prog) W 76 81 i0 (.slice none 0 0) Try.underlying76 hi hz0 .i64 .i64 (n : Int) (n : Int) (by omega) (by omega) (by rw [hz2]; omega) (by omega)
 rw [h, hz1]
 have e : madeCells (Value.slice none 0 0).cells ((n : Int).toNat * 1) = (Array.replicate n (.slice none 0 0)) := by
  refine Array.ext (by simp [madeCells]) fun j h1 h2 => ?_
  simp [madeCells, Value.cells, Nat.mod_one]
 rw [e]
 rfl
theorem sets_new {base : Nat} {W : World} (n : Nat) {b : Nat} (h : W.heap[b]? = some (.cells (Array.replicate n (.slice none 0 0)) 81 (0, 0))) : SetsAt base W b n :=
 ⟨List.replicate n (.slice none 0 0), by simp, by rw [h, List.toArray_replicate], fun v hv => by rw [List.eq_of_mem_replicate hv]; exact SetO.nil _ _⟩
def Sets2 (base b5 b6 n : Nat) (wa W : World) : Prop := SetsAt base W b5 n ∧ SetsAt base W b6 n ∧ KT [81] base wa W
theorem Sets2.step {base b5 b6 n : Nat} {wa W W1 : World} (h : Sets2 base b5 b6 n wa W) (k : Bel W W1) (hb : base ≤ W.heap.size) : Sets2 base b5 b6 n wa W1 := ⟨h.1.step k, h.2.1.step k, h.2.2.trans (KT.of_bel k hb _)⟩
theorem Sets2.put5 {base b5 b6 n : Nat} {wa W : World} (h : Sets2 base b5 b6 n wa W) (hne : b5 ≠ b6) (h5 : base ≤ b5) (k : Nat) {v : Value} (hv : SetO base W v) : Sets2 base b5 b6 n wa (W.setCell ⟨b5, k, none⟩ v) := by
 obtain ⟨cs, hc⟩ := h.1.typed
 exact ⟨h.1.put k hv, h.2.1.far hc (fun e => hne e.symm) (KO.set b5 k W v), h.2.2.trans (KT.set hc (by simp) h5 k v)⟩
theorem Sets2.put6 {base b5 b6 n : Nat} {wa W : World} (h : Sets2 base b5 b6 n wa W) (hne : b5 ≠ b6) (h6 : base ≤ b6) (k : Nat) {v : Value} (hv : SetO base W v) : Sets2 base b5 b6 n wa (W.setCell ⟨b6, k, none⟩ v) := by
 obtain ⟨cs, hc⟩ := h.2.1.typed
 exact ⟨h.1.far hc hne (KO.set b6 k W v), h.2.1.put k hv, h.2.2.trans (KT.set hc (by simp) h6 k v)⟩
def StatesIs (n : Nat) (w : World) (e : Ending) (w' : World) : Prop := ∃ b5 b6, e = .returned (.tuple #[.slice (some ⟨b5, 0, none⟩) n n, .slice (some ⟨b6, 0, none⟩) n n]) ∧ SetsAt w.heap.size w' b5 n ∧ SetsAt w.heap.size w' b6 n ∧ w.heap.size ≤ b5 ∧ w.heap.size ≤ b6 ∧ Bel w w'
set_option maxHeartbeats 8000000 in
theorem States_any (f : SFunc) (A0 : Option Addr) (c0 : Nat) (A1 : Option Addr) (c1 : Nat) (A4 : Option Addr) (c4 : Nat) (w : World) (hF : FuncAt w f A0 c0 A1 c1 A4 c4) (h48 : f.f0.length ≤ 48) (hbl : f.f1.length = f.f0.length) (hpar : 0 ≤ f.f2 ∧ f.f2 ≤ 4)
  (hn1 : 1 ≤ f.f4.length) (hn : f.f4.length ≤ 40) (hc : Aside0 (∀ b < f.f4.length, 1 ≤ (f.f4.getD b zBlock).f0.length ∧ (f.f4.getD b zBlock).f0.length ≤ 40))
  (hnx : Aside0 (∀ b < f.f4.length, ∀ v ∈ nextB f b, 1 ≤ v ∧ v < (f.f4.length : Int))) (hx : Aside0 (∀ b < f.f4.length, ∀ k < (f.f4.getD b zBlock).f0.length, RefsP f ((f.f4.getD b zBlock).f0.getD k zIns))) :
  Calls Try.prog 30 #[funcV f A0 c0 A1 c1 A4 c4] w (StatesIs f.f4.length w) := by
 obtain ⟨g, hg⟩ : ∃ g, w.heap.size = g := ⟨_, rfl⟩
 have hB := (Bel.refl w).alloc (.cells #[.slice A0 f.f0.length c0, .slice A1 f.f1.length c1, .int .i64 f.f2, .int .i64 f.f3, .slice A4 f.f4.length c4] 52)
 have hbk := heap_new' (o := .cells #[.slice A0 f.f0.length c0, .slice A1 f.f1.length c1, .int .i64 f.f2, .int .i64 f.f3, .slice A4 f.f4.length c4] 52) hg.symm
 obtain ⟨n, hnn⟩ : ∃ n, f.f4.length = n := ⟨_, rfl⟩
 have hwi := Aside0.mk (fun W (q : Bel w W) => Within_any hn hc.out hn1 (hF.step q))
 have hed := Aside0.mk (fun W (q : Bel w W) => Edges_any f A0 c0 A1 c1 A4 c4 W (hF.step q) hn hc hnx)
 have hal := Aside0.mk (fun W => all_any f A0 c0 A1 c1 A4 c4 W h48)
 have hbk2 := Aside0.mk (fun (b : Nat) (hb : b < f.f4.length) W (q : Bel w W) v2 v3 (h2 : SetO w.heap.size W v2) (h3 : SetO w.heap.size W v3) => block_any f A0 c0 A1 c1 A4 c4 b v2 v3 W (hF.step q) h48 hbl hb (hc.out b hb).2 ⟨hx.out b hb⟩ w.heap.size q.size h2 h3)
 simp only [funcV, hnn] at hbk hwi hed hbk2 hn1 hn hal ⊢
 replace hnn := Aside0.mk hnn
 clear hc hnx hx hbl
 go_enter Try.func30, Try.ntmps30
 go_upto_region 1 with (fail)
 rw [hnn.out] at hB
 generalize w.alloc (.cells #[.slice A0 f.f0.length c0, .slice A1 f.f1.length c1, .int .i64 f.f2, .int .i64 f.f3, .slice A4 n c4] 52) = wa at hB hbk ⊢
 replace hg := Aside0.mk hg
 have z4 : wa.cell? ⟨g, 4, none⟩ = some (.slice A4 n c4) := blk_cell hbk 4
 go_upto_region 2 with (fail)
 clear z4
 obtain ⟨sz, hsz⟩ : ∃ sz, wa.heap.size = sz := ⟨_, rfl⟩
 have hmk := make_sets n (by omega)
 go_cut [5, 6, 19, 20, 21, 22] (fun v5 v6 _ _ _ _ W1 => ∃ b5 b6, v5 = .slice (some ⟨b5, 0, none⟩) n n ∧ v6 = .slice (some ⟨b6, 0, none⟩) n n ∧ b5 ≠ b6 ∧ sz ≤ b5 ∧ sz ≤ b6 ∧ SetsAt w.heap.size W1 b5 n ∧ SetsAt w.heap.size W1 b6 n ∧ Bel wa W1)
 case first =>
  go_region_law (fail)
  all_goals
   go_wp2
   go_meet
  all_goals
   case rel =>
    have e1 : ((wa.alloc (.cells (Array.replicate n (.slice none 0 0)) 81)).alloc (.cells (Array.replicate n (.slice none 0 0)) 81)).drew.heap[sz]? = some (.cells (Array.replicate n (.slice none 0 0)) 81 (0, 0))   := heap_old (W := wa.alloc _) (heap_new' hsz.symm)
    have e2 : ((wa.alloc (.cells (Array.replicate n (.slice none 0 0)) 81)).alloc (.cells (Array.replicate n (.slice none 0 0)) 81)).drew.heap[sz + 1]? = some (.cells (Array.replicate n (.slice none 0 0)) 81 (0, 0)) := heap_new' (W := wa.alloc _) (by simp [hsz])
    have e3 : Bel wa ((wa.alloc (.cells (Array.replicate n (.slice none 0 0)) 81)).alloc (.cells (Array.replicate n (.slice none 0 0)) 81)).drew := (((Bel.refl wa).alloc _).alloc _).drewN 1
    first
     | exact ⟨sz, sz + 1, rfl, rfl, by omega, by omega, by omega, sets_new n e1, sets_new n e2, e3⟩
     | exact ⟨sz + 1, sz, rfl, rfl, by omega, by omega, by omega, sets_new n e2, sets_new n e1, e3⟩
 case rest =>
  obtain ⟨b5, b6, rfl, rfl, hne, hb5, hb6, hS5, hS6, hBc⟩ := hcut
  clear hmk
  have hwsz := hB.size
  have hs0 : Sets2 w.heap.size b5 b6 n wa wc := ⟨hS5, hS6, KT.of_bel hBc hwsz _⟩
  have h5 : w.heap.size ≤ b5 := by omega
  have h6 : w.heap.size ≤ b6 := by omega
  have hBw := hB.trans hBc
  have hbc := hBc.blk hbk
  clear hS5 hS6
  have z0 : wc.cell? ⟨g, 0, none⟩ = some (.slice A0 f.f0.length c0) := blk_cell hbc 0
  have z1 : wc.cell? ⟨g, 1, none⟩ = some (.slice A1 f.f1.length c1) := blk_cell hbc 1
  have z2 : wc.cell? ⟨g, 2, none⟩ = some (.int .i64 f.f2) := blk_cell hbc 2
  have z3 : wc.cell? ⟨g, 3, none⟩ = some (.int .i64 f.f3) := blk_cell hbc 3
  have z4 : wc.cell? ⟨g, 4, none⟩ = some (.slice A4 n c4) := blk_cell hbc 4
  have hwi := Aside0.mk (hwi.out wc hBw)
  replace hne := Aside0.mk hne
  have hszw := hBw.size
  go_upto_region 4 with (go_at_call 31; ((with_reducible refine hwi.out.mono ?_); rintro e w2 ⟨v7, l7, rfl, hO7, hl7, hB7⟩))
  have hO7 := OwnAt.of_own hO7 hszw
  have hs2 := hs0.step hB7 hszw
  clear z0 z1 z2 z3 z4 hwi hs0
  obtain ⟨A7, c7, rfl, hc7, hR7⟩ := hO7.reads
  rw [hl7] at hc7 hO7 ⊢
  have hs2 : Sets2 w.heap.size b5 b6 n w2 w2 := ⟨hs2.1, hs2.2.1, KT.refl _ _ _⟩
  have hb2 := hB7.blk hbc
  have hBw2 := hBw.trans hB7
  clear hR7 hbc hBc hB7
  replace hb5 := Aside0.mk hb5
  replace hb6 := Aside0.mk hb6
  have hbt : ∀ q, q ∈ 4 :: (Kd.bool).E → q ∉ [81] := by intro q hq; rw [List.mem_singleton.1 hq]; decide
  replace hbt := Aside0.mk hbt
  have fns := Aside0.mk (fun W (q : KT [81] w.heap.size w2 W) => And.intro (q.blk hb2 (by decide)) (And.intro (Aside0.mk (hBw2.out.trans q.below)) (hO7.keep q hbt.out).rdOf))
  have hSf := Aside0.mk (fun (X : World) (q : KT [81] w.heap.size w2 X) => And.intro (blk_cell (q.blk hb2 (by decide)) 0) (And.intro (blk_cell (q.blk hb2 (by decide)) 1) (And.intro (blk_cell (q.blk hb2 (by decide)) 2) (And.intro (blk_cell (q.blk hb2 (by decide)) 3) (blk_cell (q.blk hb2 (by decide)) 4)))))
  go_wp2
  go_loopw [8] (fun i W => ∃ k : Nat, k ≤ n ∧ i = .int .i64 k ∧ Sets2 w.heap.size b5 b6 n w2 W) (fun i _ => n - (intOf i).toNat)
  case atStart => exact ⟨0, by omega, rfl, hs2⟩
  case round =>
   obtain ⟨k, hk, rfl, hs⟩ := hrel
   obtain ⟨hbr, hBr, hRr⟩ := fns.out _ hs.2.2
   by_cases hlt : k < n
   ·have q1 : (k : Int) < (n : Int) := by omega
    have q0 : (0 : Int) ≤ (k : Int) := by omega
    obtain ⟨ad, e, hcell⟩ := Kd.at_bool hRr.out (k : Int) (by omega) (by omega)
    subst e
    simp only [Int.toNat_natCast] at hcell
    obtain ⟨mb, hmb⟩ : ∃ b, rdOf false l7 (k : Int) = b := ⟨_, rfl⟩
    rw [hmb] at hcell
    clear hmb hRr
    cases mb with
    | false =>
     go_wp2
     go_roundw
     case rel => exact ⟨k + 1, by omega, by go_num, hs⟩
     case measure => simp [intOf]; omega
    | true =>
     go_upto_region 8 with (fail)
     clear hcell
     have hBd : Bel wr wr.drew := (Bel.refl wr).drewN 1
     have hszr := hBr.out.size
     refine wp_region_held_drew (S := fun w' => w'.cell? ⟨g, 0, none⟩ = some (.slice A0 f.f0.length c0) ∧ w'.cell? ⟨g, 1, none⟩ = some (.slice A1 f.f1.length c1) ∧ w'.cell? ⟨g, 2, none⟩ = some (.int .i64 f.f2) ∧ w'.cell? ⟨g, 3, none⟩ = some (.int .i64 f.f3) ∧ w'.cell? ⟨g, 4, none⟩ = some (.slice A4 n c4)) (by kernel_rfl) (hSf.out _ (hs.step hBd hszr).2.2) (fun hHeld => ?_)
     refine takeH [0, 1, 2, 3, 4, 6] (by kernel_rfl) (by kernel_rfl) hHeld ?_
     iterate 6 (refine takeI (v := ?_) rfl rfl (fun _ _ _ h => h) (Or.inl ⟨by kernel_rfl, ?_⟩) ?_; rotate_left 1; focus (intro w hSw; (try dsimp only at hSw); go_simp; (try with_reducible rfl); done); try simp only [Act.put, z1, z2, z3, z4, z5, z6])
     refine takeE ?_
     try dsimp only
     refine wpAnyH_ready (rs := [5]) (by kernel_rfl) (by simp) ?_
     refine AllReadyH.cons rfl (fun K hK => ?_) AllReadyH.nil
     go_simp
     (go_at_call 48; refine (hal.out _).mono ?_; rintro ex w3 ⟨v3, l3, rfl, hO3, hl3, hB3⟩)
     refine hK.out _ _ ?_ (fun hHeld => ?_)
     rotate_left 1
     clear hK K
     try simp only [Act.put, z1, z2, z3, z4, z5, z6]
     rotate_left 1
     ·exact hSf.out _ (hs.step (hBd.trans hB3) hszr).2.2
     refine wpAnyH_ready (rs := [7]) (by kernel_rfl) (by simp) ?_
     refine AllReadyH.cons rfl (fun K hK => ?_) AllReadyH.nil
     go_simp
     (go_at_call 48; refine (hal.out _).mono ?_; rintro ex w4 ⟨v4, l4, rfl, hO4, hl4, hB4⟩)
     refine hK.out _ _ ?_ (fun hHeld => ?_)
     rotate_left 1
     clear hK K
     try simp only [Act.put, z1, z2, z3, z4, z5, z6]
     rotate_left 1
     ·exact hSf.out _ (hs.step (hBd.trans (hB3.trans hB4)) hszr).2.2
     have hB34 := hBd.trans (hB3.trans hB4)
     have hs4 := hs.step hB34 hszr
     have hv3 : SetO w.heap.size w4 v3 := SetO.step (SetO.of hO3 hl3 hszr) hB4
     have hv4 : SetO w.heap.size w4 v4 := SetO.of hO4 hl4 (Nat.le_trans hszr (hBd.trans hB3).size)
     obtain ⟨A3, c3, rfl, _, _⟩ := hO3.reads
     obtain ⟨A5, c5, rfl, _, _⟩ := hO4.reads
     obtain ⟨_, _, _, y0, y1, _⟩ := hs4.1.at_ k hlt
     refine takeH [8] (by kernel_rfl) (by kernel_rfl) hHeld ?_
     iterate 1 (refine takeI (v := ?_) rfl rfl (fun _ _ _ h => h) (Or.inl ⟨by kernel_rfl, ?_⟩) ?_; rotate_left 1; focus (intro w hSw; (try dsimp only at hSw); go_simp; (try with_reducible rfl); done); try simp only [Act.put, z1, z2, z3, z4, z5, z6])
     refine takeE ?_
     try dsimp only
     refine wpAnyH_ready (rs := [9]) (by kernel_rfl) (by simp) ?_
     refine AllReadyH.cons rfl (fun K hK => ?_) AllReadyH.nil
     go_simp
     have hs5 := hs4.put5 hne.out h5 k hv3
     obtain ⟨cs5, hc5⟩ := hs4.1.typed
     have hv5 := hv4.ko hc5 (KO.set b5 k w4 (.slice A3 l3.length c3))
     clear y0 y1 hc5
     generalize w4.setCell ⟨b5, k, none⟩ (.slice A3 l3.length c3) = w5 at hs5 hv5 ⊢
     refine hK.out _ _ ?_ (fun hHeld => ?_)
     rotate_left 1
     clear hK K
     try simp only [Act.put, z1, z2, z3, z4, z5, z6]
     rotate_left 1
     ·exact hSf.out _ hs5.2.2
     obtain ⟨_, _, _, y0, y1, _⟩ := hs5.2.1.at_ k hlt
     refine takeH [10] (by kernel_rfl) (by kernel_rfl) hHeld ?_
     iterate 1 (refine takeI (v := ?_) rfl rfl (fun _ _ _ h => h) (Or.inl ⟨by kernel_rfl, ?_⟩) ?_; rotate_left 1; focus (intro w hSw; (try dsimp only at hSw); go_simp; (try with_reducible rfl); done); try simp only [Act.put, z1, z2, z3, z4, z5, z6])
     refine takeE ?_
     try dsimp only
     refine wpAnyH_ready (rs := [11]) (by kernel_rfl) (by simp) ?_
     refine AllReadyH.cons rfl (fun K hK => ?_) AllReadyH.nil
     go_simp
     have hs6 := hs5.put6 hne.out h6 k hv5
     clear y0 y1
     generalize w5.setCell ⟨b6, k, none⟩ (.slice A5 l4.length c5) = w6 at hs6 ⊢
     refine hK.out _ _ ?_ (fun hHeld => ?_)
     rotate_left 1
     clear hK K
     try simp only [Act.put, z1, z2, z3, z4, z5, z6]
     rotate_left 1
     ·exact hSf.out _ hs6.2.2
     refine wpAnyH_done (by kernel_rfl) ?_ _
     go_wp2
     go_roundw
     case rel => exact ⟨k + 1, by omega, by go_num, hs6⟩
     case measure => simp [intOf]; omega
   ·have q1 : ¬ (k : Int) < (n : Int) := by omega
    clear hRr
    go_upto_region 9 with (fail)
    have hn0 : 0 < n := by omega
    obtain ⟨_, _, _, y0, y1, _⟩ := hs.1.at_ 0 hn0
    obtain ⟨_, _, _, y2, y3, _⟩ := hs.2.1.at_ 0 hn0
    have hs1 := (hs.put5 hne.out h5 0 (SetO.nil _ _)).put6 hne.out h6 0 (SetO.nil _ _)
    obtain ⟨_, _, _, y4, y5, _⟩ := (hs.put5 hne.out h5 0 (SetO.nil _ _)).2.1.at_ 0 hn0
    have q2 : (0 : Int) < (n : Int) := by omega
    go_upto_region 10 with (fail)
    clear y0 y1 y2 y3 y4 y5 hs
    generalize ((wr.setCell ⟨b5, 0, none⟩ (.slice none 0 0)).setCell ⟨b6, 0, none⟩ (.slice none 0 0)) = wz at hs1 ⊢
    clear hbr hBr
    obtain ⟨P, hP⟩ : ∃ P : Nat, f.f2 = (P : Int) := ⟨f.f2.toNat, by omega⟩
    have hP4 : P ≤ 4 := by omega
    replace hP := Aside0.mk hP
    go_wp2
    go_loopw [9] (fun i W => ∃ k : Nat, k ≤ P ∧ i = .int .i64 k ∧ Sets2 w.heap.size b5 b6 n w2 W) (fun i _ => P - (intOf i).toNat)
    case atStart => exact ⟨0, by omega, rfl, hs1⟩
    case round =>
     obtain ⟨k2, hk2, rfl, hs⟩ := hrel
     clear hs1
     obtain ⟨hbr, hBr, hRr⟩ := fns.out _ hs.2.2
     have z2 : wr.cell? ⟨g, 2, none⟩ = some (.int .i64 P) := by rw [← hP.out]; exact blk_cell hbr 2
     by_cases hlt2 : k2 < P
     ·have p1 : (k2 : Int) < (P : Int) := by omega
      obtain ⟨Aw, lw, cw, y0, y1, hvw⟩ := hs.1.at_ 0 hn0
      have hwo := Aside0.mk (With_one _ k2 wr hvw.at_ (by omega))
      have hszr := hBr.out.size
      go_wp2_with (go_at_call 49; ((with_reducible refine hwo.out.mono ?_); rintro e w3 ⟨v3, l3, rfl, hO3, hl3, hB3⟩; have hs3 := hs.step hB3 hszr; have hv3 := SetO.of hO3 hl3 hszr; obtain ⟨A3, c3, rfl, _, _⟩ := hO3.reads; obtain ⟨_, _, _, y4, y5, _⟩ := hs3.1.at_ 0 hn0))
      go_roundw
      case rel => exact ⟨k2 + 1, by omega, by go_num, hs3.put5 hne.out h5 0 hv3⟩
      case measure => simp [intOf]; omega
     ·have p1 : ¬ (k2 : Int) < (P : Int) := by omega
      go_upto_region 14 with (fail)
      clear z2
      obtain ⟨z0, z1, z2, z3, z4⟩ := hSf.out _ hs.2.2
      have hed := Aside0.mk (hed.out wr hBr)
      have hszr := hBr.out.size
      clear hRr
      go_upto_region 15 with (go_at_call 50; ((with_reducible refine hed.out.mono ?_); rintro e we ⟨vE, lE, rfl, hOE, hEok, hEl, hBE⟩))
      have hse := hs.step hBE hszr
      have hOE := OwnAt.of_own hOE hszr
      obtain ⟨AE, cE, rfl, _, _⟩ := hOE.reads
      have hKe := hse.2.2
      have hse : Sets2 w.heap.size b5 b6 n we we := ⟨hse.1, hse.2.1, KT.refl _ _ _⟩
      have hEt : ∀ q, q ∈ 108 :: kEdge.E → q ∉ [81] := by intro q hq; rw [List.mem_singleton.1 hq]; decide
      have fnE := Aside0.mk (fun W (q : KT [81] w.heap.size we W) => (hOE.keep q hEt).rdOf)
      clear z0 z1 z2 z3 z4 hed hOE hEt hs hbr hBr hBE
      replace hEok := Aside0.mk hEok
      have hE80 : lE.length ≤ 80 := by omega
      clear hEl
      obtain ⟨nk, hnk⟩ : ∃ nk, f.f0.length = nk := ⟨_, rfl⟩
      have m0 : (0 : Int) ≤ (n : Int) * (nk : Int) := Int.mul_nonneg (by omega) (by omega)
      have m1 : (n : Int) * (nk : Int) ≤ 1920 := by
       have h1 : (n : Int) * (nk : Int) ≤ (n : Int) * 48 := Int.mul_le_mul_of_nonneg_left (by omega) (by omega)
       omega
      obtain ⟨M, hM⟩ : ∃ M : Nat, (n : Int) * (nk : Int) * 2 + 2 = (M : Int) := ⟨((n : Int) * (nk : Int) * 2 + 2).toNat, by omega⟩
      replace hnk := Aside0.mk hnk
      have hM := Aside0.mk hM
      go_wp2
      go_loopw [11] (fun i W => ∃ k : Nat, k ≤ M ∧ i = .int .i64 k ∧ Sets2 w.heap.size b5 b6 n we W) (fun i _ => M - (intOf i).toNat)
      case atStart => exact ⟨0, by omega, rfl, hse⟩
      case round =>
       obtain ⟨k3, hk3, rfl, hs⟩ := hrel
       obtain ⟨z0, z1, z2, z3, z4⟩ := hSf.out _ (hKe.trans hs.2.2)
       rw [hnk.out] at z0
       by_cases hlt3 : k3 < M
       ·have p2 : (k3 : Int) < (n : Int) * (nk : Int) * 2 + 2 := by have := hM.out; omega
        go_wp2
        go_loopw [12] (fun i W => ∃ j : Nat, j ≤ lE.length ∧ i = .int .i64 j ∧ Sets2 w.heap.size b5 b6 n we W) (fun i _ => lE.length - (intOf i).toNat)
        case atStart => exact ⟨0, by omega, rfl, hs⟩
        case round =>
         clear z0 z1 z2 z3 z4 hs
         obtain ⟨j, hj, rfl, hs⟩ := hrel
         by_cases hltj : j < lE.length
         ·have p3 : (j : Int) < (lE.length : Int) := by omega
          obtain ⟨ad, e, y0, y1⟩ := at_TEdge (fnE.out wr hs.2.2).out (j : Int) (by omega) (by omega)
          subst e
          have hm := hEok.out lE[j] (List.getElem_mem hltj)
          have e1 : rd_TEdge lE (j : Int) = lE[j] := by simp [rd_TEdge, List.getD_eq_getElem?_getD, List.getElem?_eq_getElem hltj]
          rw [e1] at y0 y1
          simp only [Int.toNat_natCast] at y0 y1
          obtain ⟨ed, hede⟩ : ∃ x, lE[j] = x := ⟨_, rfl⟩
          rw [hede] at hm y0 y1
          clear hede e1
          obtain ⟨ef, et⟩ := ed
          obtain ⟨fr, rfl⟩ : ∃ k : Nat, ef = (k : Int) := ⟨ef.toNat, by have := hm.1.1; simp only at this; omega⟩
          obtain ⟨dt, rfl⟩ : ∃ k : Nat, et = (k : Int) := ⟨et.toNat, by have := hm.2.1; simp only at this; omega⟩
          have hfr : fr < n := by have := hm.1.2; simp only at this; omega
          have hto : dt < n := by have := hm.2.2; simp only at this; omega
          clear hm
          have hBa := (Bel.refl wr).alloc (.cells #[.int .i64 fr, .int .i64 dt] 108)
          obtain ⟨X, hX⟩ : ∃ X, wr.heap.size = X := ⟨_, rfl⟩
          have hbX := heap_new' (o := .cells #[.int .i64 fr, .int .i64 dt] 108) hX.symm
          have hszr : w.heap.size ≤ wr.heap.size := Nat.le_trans hBw2.out.size (hKe.trans hs.2.2).size
          have hs1 := hs.step hBa hszr
          go_upto_region 22 with (fail)
          clear y0 y1 hs
          generalize wr.alloc (.cells #[.int .i64 fr, .int .i64 dt] 108) = wx at hBa hbX hs1 ⊢
          have hszx : w.heap.size ≤ wx.heap.size := Nat.le_trans hszr hBa.size
          clear hBa hszr
          replace hX := Aside0.mk hX
          have x0 : wx.cell? ⟨X, 0, none⟩ = some (.int .i64 fr) := blk_cell hbX 0
          have hKx := hKe.trans hs1.2.2
          have qf : (fr : Int) < (n : Int) := by omega
          have qt : (dt : Int) < (n : Int) := by omega
          obtain ⟨ab, e, hcell⟩ := Kd.at_bool (fns.out _ hKx).2.2.out (fr : Int) (by omega) (by omega)
          subst e
          simp only [Int.toNat_natCast] at hcell
          obtain ⟨mb, hmb⟩ : ∃ b, rdOf false l7 (fr : Int) = b := ⟨_, rfl⟩
          rw [hmb] at hcell
          clear hmb
          cases mb with
          | false =>
           go_wp2
           go_roundw
           case rel => exact ⟨j + 1, by omega, by go_num, hs1⟩
           case measure => simp [intOf]; omega
          | true =>
           go_upto_region 23 with (fail)
           clear hcell x0
           obtain ⟨Ap, lp, cp, g0, _, hvp⟩ := hs1.1.at_ fr hfr
           obtain ⟨Aq, lq, cq, g2, _, hvq⟩ := hs1.2.1.at_ fr hfr
           have hBd : Bel wx wx.drew := (Bel.refl wx).drewN 1
           have hS := Aside0.mk (fun (Y : World) (q : Bel wx Y) => And.intro (hSf.out Y (hKx.trans (KT.of_bel q hszx _))) (And.intro (blk_cell (q.blk hbX) 0) (And.intro (Bel.cell q g0) (Bel.cell q g2))))
           have hblk := Aside0.mk (hbk2.out fr hfr wx.drew (Bel.trans (⟨hBw2.out.trans hKx.below⟩ : Bel w wx) hBd) _ _ (hvp.step hBd) (hvq.step hBd))
           clear g0 g2 hvp hvq
           refine wp_region_held_drew (S := fun w' => (w'.cell? ⟨g, 0, none⟩ = some (.slice A0 f.f0.length c0) ∧ w'.cell? ⟨g, 1, none⟩ = some (.slice A1 f.f1.length c1) ∧ w'.cell? ⟨g, 2, none⟩ = some (.int .i64 f.f2) ∧ w'.cell? ⟨g, 3, none⟩ = some (.int .i64 f.f3) ∧ w'.cell? ⟨g, 4, none⟩ = some (.slice A4 n c4)) ∧ w'.cell? ⟨X, 0, none⟩ = some (.int .i64 fr) ∧ w'.cell? ⟨b5, fr, none⟩ = some (.slice Ap lp cp) ∧ w'.cell? ⟨b6, fr, none⟩ = some (.slice Aq lq cq)) (by kernel_rfl) (hS.out _ hBd) (fun hHeld => ?_)
           refine takeH [0, 1, 2, 3, 4, 5, 6, 7, 8, 9, 10, 11, 12] (by kernel_rfl) (by kernel_rfl) hHeld ?_
           iterate 13 (refine takeI (v := ?_) rfl rfl (fun _ _ _ h => h) (Or.inl ⟨by kernel_rfl, ?_⟩) ?_; rotate_left 1; focus (intro w hSw; (try dsimp only at hSw); go_simp; (try with_reducible rfl); done); try simp only [Act.put, z1, z2, z3, z4, z5, z6])
           refine takeE ?_
           try dsimp only
           refine wpAnyH_ready (rs := [13]) (by kernel_rfl) (by simp) ?_
           refine AllReadyH.cons rfl (fun K hK => ?_) AllReadyH.nil
           go_simp
           (go_at_call 51; refine hblk.out.mono ?_; rintro ex wy ⟨v4, v5, rfl, hv4, hv5, hBy⟩)
           refine hK.out _ _ ?_ (fun hHeld => ?_)
           rotate_left 1
           clear hK K
           try simp only [Act.put, z1, z2, z3, z4, z5, z6]
           rotate_left 1
           ·exact hS.out _ (hBd.trans hBy)
           refine takeH [14, 15, 16, 17, 18] (by kernel_rfl) (by kernel_rfl) hHeld ?_
           iterate 5 (refine takeI (v := ?_) rfl rfl (fun _ _ _ h => h) (Or.inl ⟨by kernel_rfl, ?_⟩) ?_; rotate_left 1; focus (intro w hSw; (try dsimp only at hSw); go_simp; (try with_reducible rfl); done); try simp only [Act.put, z1, z2, z3, z4, z5, z6])
           refine takeE ?_
           try dsimp only
           refine wpAnyH_done (by kernel_rfl) ?_ _
           have hBxy := hBd.trans hBy
           have hs2 := hs1.step hBxy hszx
           have hbY := hBxy.blk hbX
           have hszy : w.heap.size ≤ wy.heap.size := Nat.le_trans hszx hBxy.size
           have ho4 := hv4.at_
           have ho5 := hv5.at_
           obtain ⟨A4', l4, c4', rfl, _, _, _⟩ := ho4
           obtain ⟨A5', l5, c5', rfl, _, _, _⟩ := ho5
           clear hblk hS hHeld hs1 hbX hBy hBd hszx hBxy hKx
           go_upto_region 24 with (fail)
           obtain ⟨Ap, lp, cp, g0, _, hvp⟩ := SetsAt.at_ hs2.1 dt hto
           have hBd : Bel wy (wy).drew := (Bel.refl wy).drewN 1
           have hS := Aside0.mk (fun (Y : World) (q : Bel wy Y) => And.intro (blk_cell (q.blk hbY) 1) (Bel.cell q g0))
           have hp1 := (hvp.step hBd).at_
           have hp2 := (SetO.step hv4 hBd).at_
           obtain ⟨_, lA, _, eA, hRA, hlA, _⟩ := hp1
           injection eA with eA1 eA2 eA3
           subst eA1 eA2 eA3
           obtain ⟨_, lB, _, eB, hRB, hlB, _⟩ := hp2
           injection eB with eB1 eB2 eB3
           subst eB1 eB3
           replace eB2 := Aside0.mk eB2
           have hmt := Aside0.mk (Meet_any Ap cp lA A4' c4' lB _ hRA hlA hRB hlB)
           clear g0 hvp hRA hRB
           refine wp_region_last_drew (S := fun w' => w'.cell? ⟨X, 1, none⟩ = some (.int .i64 dt) ∧ w'.cell? ⟨b5, dt, none⟩ = some (.slice Ap lA.length cp)) (ds := [11]) (by kernel_rfl) (hS.out _ hBd) (fun hHeld => ?_)
           refine takeL [0, 1, 2, 3, 4, 5, 6, 7, 8] (by kernel_rfl) (by kernel_rfl) hHeld ?_
           iterate 9 (refine takeI (v := ?_) rfl rfl (fun _ _ _ h => h) (Or.inl ⟨by kernel_rfl, ?_⟩) ?_; rotate_left 1; focus (intro w hSw; (try dsimp only at hSw); go_simp; (try with_reducible rfl); done); try simp only [Act.put, z1, z2, z3, z4, z5, z6])
           refine takeE ?_
           try dsimp only
           refine wpAnyLast_ready (rs := [9]) (by kernel_rfl) (by simp) ?_
           refine AllReadyL.cons rfl (by decide) (fun K hK => ?_) AllReadyL.nil
           go_simp
           (go_at_call 52; (try rw [eB2.out]); refine hmt.out.mono ?_; rintro ex wz3 ⟨v9, l9, rfl, hO9, hl9, hB9⟩)
           refine hK.out _ _ ?_ (fun hHeld => ?_)
           rotate_left 1
           clear hK K
           try simp only [Act.put, z1, z2, z3, z4, z5, z6]
           rotate_left 1
           ·exact hS.out _ (hBd.trans hB9)
           have hBzz := hBd.trans hB9
           have hv9 : SetO w.heap.size wz3 v9 := SetO.of hO9 hl9 (Nat.le_trans hszy hBd.size)
           obtain ⟨A9, c9, rfl, _, _⟩ := hO9.reads
           obtain ⟨_, _, _, y0, y1, _⟩ := SetsAt.at_ (SetsAt.step hs2.1 hBzz) dt hto
           refine wpAnyLast_any (i := 10) (v := ?_) rfl (Region.noSelect_spec (by kernel_rfl)) (fun _ _ _ h => h) _ _ _ _ (Region.free_spec rfl (by kernel_rfl)) (mem_of_contains (by kernel_rfl)) (Or.inl ⟨by kernel_rfl, ?_⟩) ?_
           rotate_left 1
           focus (intro w; go_simp; (try with_reducible rfl); done)
           try simp only [Act.put, z1, z2, z3, z4, z5, z6]
           refine wpAnyLast_ready (rs := [11]) (by kernel_rfl) (by simp) ?_
           refine AllReadyL.cons_last rfl (by decide) (fun K hK => ?_) AllReadyL.nil
           go_simp
           refine hK.out _ _ ?_
           clear hK K
           try simp only [Act.put, z1, z2, z3, z4, z5, z6]
           refine wpAnyLast_done (by kernel_rfl) ?_ _
           clear y0 y1 hS hHeld hmt
           have hv5 := (hv5.step hBzz)
           obtain ⟨_, hct⟩ := (hs2.step hBzz hszy).1.typed
           have hv5 := hv5.ko hct (KO.set b5 dt wz3 (.slice A9 l9.length c9))
           have hs3 := (hs2.step hBzz hszy).put5 hne.out h5 dt hv9
           have hbZ := (KO.set b5 dt wz3 (.slice A9 l9.length c9)).blk (hBzz.blk hbY) (two_types (hBzz.blk hbY) hct (by decide))
           have hszz := Nat.le_trans hszy hBzz.size
           clear hct hBzz hs2 hbY hszy hv4 hv9 hO9
           have hsz3 : wz3.heap.size ≤ (wz3.setCell ⟨b5, dt, none⟩ (.slice A9 l9.length c9)).heap.size := (KO.set b5 dt wz3 _).size
           generalize wz3.setCell ⟨b5, dt, none⟩ (.slice A9 l9.length c9) = wt at hs3 hbZ hv5 hsz3 ⊢
           have hszt : w.heap.size ≤ wt.heap.size := Nat.le_trans hszz hsz3
           clear hszz hsz3
           go_upto_region 25 with (fail)
           obtain ⟨Ap, lp, cp, g0, _, hvp⟩ := SetsAt.at_ hs3.2.1 dt hto
           have hBd : Bel wt (wt).drew := (Bel.refl wt).drewN 1
           have hS := Aside0.mk (fun (Y : World) (q : Bel wt Y) => And.intro (blk_cell (q.blk hbZ) 1) (Bel.cell q g0))
           have hp1 := (hvp.step hBd).at_
           have hp2 := (SetO.step hv5 hBd).at_
           obtain ⟨_, lA, _, eA, hRA, hlA, _⟩ := hp1
           injection eA with eA1 eA2 eA3
           subst eA1 eA2 eA3
           obtain ⟨_, lB, _, eB, hRB, hlB, _⟩ := hp2
           injection eB with eB1 eB2 eB3
           subst eB1 eB3
           replace eB2 := Aside0.mk eB2
           have hmt := Aside0.mk (Meet_any Ap cp lA A5' c5' lB _ hRA hlA hRB hlB)
           clear g0 hvp hRA hRB
           refine wp_region_last_drew (S := fun w' => w'.cell? ⟨X, 1, none⟩ = some (.int .i64 dt) ∧ w'.cell? ⟨b6, dt, none⟩ = some (.slice Ap lA.length cp)) (ds := [11]) (by kernel_rfl) (hS.out _ hBd) (fun hHeld => ?_)
           refine takeL [0, 1, 2, 3, 4, 5, 6, 7, 8] (by kernel_rfl) (by kernel_rfl) hHeld ?_
           iterate 9 (refine takeI (v := ?_) rfl rfl (fun _ _ _ h => h) (Or.inl ⟨by kernel_rfl, ?_⟩) ?_; rotate_left 1; focus (intro w hSw; (try dsimp only at hSw); go_simp; (try with_reducible rfl); done); try simp only [Act.put, z1, z2, z3, z4, z5, z6])
           refine takeE ?_
           try dsimp only
           refine wpAnyLast_ready (rs := [9]) (by kernel_rfl) (by simp) ?_
           refine AllReadyL.cons rfl (by decide) (fun K hK => ?_) AllReadyL.nil
           go_simp
           (go_at_call 52; (try rw [eB2.out]); refine hmt.out.mono ?_; rintro ex wz3 ⟨v9, l9, rfl, hO9, hl9, hB9⟩)
           refine hK.out _ _ ?_ (fun hHeld => ?_)
           rotate_left 1
           clear hK K
           try simp only [Act.put, z1, z2, z3, z4, z5, z6]
           rotate_left 1
           ·exact hS.out _ (hBd.trans hB9)
           have hBzz := hBd.trans hB9
           have hv9 : SetO w.heap.size wz3 v9 := SetO.of hO9 hl9 (Nat.le_trans hszt hBd.size)
           obtain ⟨A9, c9, rfl, _, _⟩ := hO9.reads
           obtain ⟨_, _, _, y0, y1, _⟩ := SetsAt.at_ (SetsAt.step hs3.2.1 hBzz) dt hto
           refine wpAnyLast_any (i := 10) (v := ?_) rfl (Region.noSelect_spec (by kernel_rfl)) (fun _ _ _ h => h) _ _ _ _ (Region.free_spec rfl (by kernel_rfl)) (mem_of_contains (by kernel_rfl)) (Or.inl ⟨by kernel_rfl, ?_⟩) ?_
           rotate_left 1
           focus (intro w; go_simp; (try with_reducible rfl); done)
           try simp only [Act.put, z1, z2, z3, z4, z5, z6]
           refine wpAnyLast_ready (rs := [11]) (by kernel_rfl) (by simp) ?_
           refine AllReadyL.cons_last rfl (by decide) (fun K hK => ?_) AllReadyL.nil
           go_simp
           refine hK.out _ _ ?_
           clear hK K
           try simp only [Act.put, z1, z2, z3, z4, z5, z6]
           refine wpAnyLast_done (by kernel_rfl) ?_ _
           clear y0 y1 hS hHeld hmt
           have hs4 := (hs3.step hBzz hszt).put6 hne.out h6 dt hv9
           go_wp2
           go_roundw
           case rel => exact ⟨j + 1, by omega, by go_num, hs4⟩
           case measure => simp [intOf]; omega
         ·have p3 : ¬ (j : Int) < (lE.length : Int) := by omega
          go_wp2
          go_roundw
          case rel => exact ⟨k3 + 1, by omega, by go_num, hs⟩
          case measure => simp [intOf]; omega
       ·have p2 : ¬ (k3 : Int) < (n : Int) * (nk : Int) * 2 + 2 := by have := hM.out; omega
        go_wp2
        go_ret2
        exact ⟨b5, b6, rfl, hs.1, hs.2.1, h5, h6, ⟨hBw2.out.trans (hKe.trans hs.2.2).below⟩⟩
end Go.Proofs.Ytodjpbidjldblaa.H
