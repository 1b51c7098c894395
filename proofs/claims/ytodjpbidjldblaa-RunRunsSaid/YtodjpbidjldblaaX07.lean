/- Texts joined. Conditions: each stands with its theorem. -/
import Derived.Test.YtodjpbidjldblaaX00
import Derived.Test.YtodjpbidjldblaaX04
import Derived.Test.YtodjpbidjldblaaX06
namespace Go.Proofs.Ytodjpbidjldblaa.H
open Go.RowKit Go.Proofs.YtodjpbidjldblaaW.PrintWords Go.Proofs.YtodjpbidjldblaaW.PrintLast Go.Proofs.YtodjpbidjldblaaW.PrintMore
set_option linter.unusedVariables false
set_option linter.unusedSimpArgs false
set_option maxRecDepth 100000
structure RefsP (f : SFunc) (x : SIns) : Prop where
 d : has x.f0 68 → 0 ≤ x.f1 ∧ x.f1 < f.f0.length
 a : has x.f0 65 → 0 ≤ x.f2 ∧ x.f2 < f.f0.length
theorem InsP.refs {p : SProg} {f : SFunc} {x : SIns} (h : InsP p f x) : RefsP f x := ⟨h.d, h.a⟩
def SetO (base : Nat) (W : World) (v : Value) : Prop := ∃ l, OwnAt (Kd.int .u64) 115 base W v l ∧ l.length ≤ 64
theorem SetO.at_ {base : Nat} {W : World} {v : Value} (h : SetO base W v) : SetAt W v := by
 obtain ⟨l, h1, h2⟩ := h
 obtain ⟨A, c, rfl, hc, hR⟩ := h1.reads
 exact ⟨A, l, c, rfl, hR, h2, hc⟩
theorem SetO.step {base : Nat} {W W1 : World} {v : Value} (h : SetO base W v) (k : Bel W W1) : SetO base W1 v := by
 obtain ⟨l, h1, h2⟩ := h
 exact ⟨l, h1.step k, h2⟩
theorem SetO.nil (base : Nat) (W : World) : SetO base W (.slice none 0 0) := ⟨[], OwnAt.nil _ _ _ _, by simp⟩
theorem SetO.of {base : Nat} {w W : World} {v : Value} {l : List Int} (h : OwnU w W v l) (hl : l.length ≤ 64) (hb : base ≤ w.heap.size) : SetO base W v := ⟨l, OwnAt.of_own h hb, hl⟩
def TwoSets (base : Nat) (w : World) (e : Ending) (w' : World) : Prop := ∃ v1 v2, e = .returned (.tuple #[v1, v2]) ∧ SetO base w' v1 ∧ SetO base w' v2 ∧ Bel w w'
theorem getD_at {α : Type} {l : List α} {k : Nat} {d : α} (h : k < l.length) : l.getD k d = l[k] := by rw [List.getD_eq_getElem?_getD, List.getElem?_eq_getElem h, Option.getD_some]
set_option maxHeartbeats 4000000 in
theorem block_any (f : SFunc) (A0 : Option Addr) (c0 : Nat) (A1 : Option Addr) (c1 : Nat) (A4 : Option Addr) (c4 : Nat) (b : Nat) (v2 v3 : Value) (w : World) (hF : FuncAt w f A0 c0 A1 c1 A4 c4) (h48 : f.f0.length ≤ 48) (hbl : f.f1.length = f.f0.length)
  (hb : b < f.f4.length) (hcl : (f.f4.getD b zBlock).f0.length ≤ 40) (hx : Aside0 (∀ k < (f.f4.getD b zBlock).f0.length, RefsP f ((f.f4.getD b zBlock).f0.getD k zIns))) (base : Nat) (hbase : base ≤ w.heap.size) (hs2 : SetO base w v2) (hs3 : SetO base w v3) :
  Calls Try.prog 51 #[funcV f A0 c0 A1 c1 A4 c4, .int .i64 b, v2, v3] w (TwoSets base w) := by
 obtain ⟨g, hg⟩ : ∃ g, w.heap.size = g := ⟨_, rfl⟩
 have hB := (Bel.refl w).alloc (.cells #[.slice A0 f.f0.length c0, .slice A1 f.f1.length c1, .int .i64 f.f2, .int .i64 f.f3, .slice A4 f.f4.length c4] 52)
 have hbk := heap_new' (o := .cells #[.slice A0 f.f0.length c0, .slice A1 f.f1.length c1, .int .i64 f.f2, .int .i64 f.f3, .slice A4 f.f4.length c4] 52) hg.symm
 obtain ⟨ad4, B0, d0, rfl, y0, hd0, hri⟩ := block_at hF.r4 b hb
 rw [getD_at hb] at hcl hx
 obtain ⟨l, hl⟩ : ∃ l, (f.f4[b]).f0 = l := ⟨_, rfl⟩
 rw [hl] at hcl hx y0 hd0 hri
 have hblt : (b : Int) < (f.f4.length : Int) := by omega
 replace hbl := Aside0.mk hbl
 clear hl
 go_enter Try.func51, Try.ntmps51
 go_upto_region 1 with (fail)
 generalize w.alloc (.cells #[.slice A0 f.f0.length c0, .slice A1 f.f1.length c1, .int .i64 f.f2, .int .i64 f.f3, .slice (some ad4) f.f4.length c4] 52) = wa at hB hbk ⊢
 replace hg := Aside0.mk hg
 have z4 : wa.cell? ⟨g, 4, none⟩ = some (.slice (some ad4) f.f4.length c4) := blk_cell hbk 4
 have y0 := Bel.cell hB y0
 have hF := hF.step hB
 have hri := hri.step hB
 have hs2 := hs2.step hB
 have hs3 := hs3.step hB
 go_wp2
 clear z4 y0
 go_loopw [2, 3, 11] (fun v2 v3 i W => ∃ (k : Nat), k ≤ l.length ∧ i = .int .i64 k ∧ SetO base W v2 ∧ SetO base W v3 ∧ Bel wa W) (fun _ _ i _ => l.length - (intOf i).toNat)
 case atStart => exact ⟨0, by omega, rfl, hs2, hs3, Bel.refl _⟩
 case round =>
  obtain ⟨k, hk, rfl, hS2, hS3, hB1⟩ := hrel
  clear hs2 hs3
  by_cases hlt : k < l.length
  ·have q1 : (k : Int) < (l.length : Int) := by omega
   have q0 : (0 : Int) ≤ (k : Int) := by omega
   obtain ⟨ad5, A6, c6, rfl, y0, y1, y2, y3, y4, y5, y6, hl6, hR6⟩ := ins_at (hri.step hB1) k hlt
   have hxk := hx.out k hlt
   rw [getD_at hlt] at hxk
   obtain ⟨x, hxe⟩ : ∃ x, l[k] = x := ⟨_, rfl⟩
   rw [hxe] at y0 y1 y2 y3 y4 y5 y6 hl6 hR6 hxk
   clear hxe
   have hbk1 := hB1.blk hbk
   have hS := Aside0.mk (fun (X : World) (q : Bel wr X) => And.intro (blk_cell (q.blk hbk1) 0) (And.intro (blk_cell (q.blk hbk1) 1) (And.intro (blk_cell (q.blk hbk1) 2) (And.intro (blk_cell (q.blk hbk1) 3) (And.intro (blk_cell (q.blk hbk1) 4) (And.intro (Bel.cell q y0) (And.intro (Bel.cell q y1) (And.intro (Bel.cell q y2) (And.intro (Bel.cell q y3) (And.intro (Bel.cell q y4) (And.intro (Bel.cell q y5) (Bel.cell q y6))))))))))))
   have hBd : Bel wr wr.drew := (Bel.refl wr).drewN 1
   have hst := Aside0.mk (Step_any f A0 c0 A1 c1 (some ad4) c4 x A6 c6 u2 u3 wr.drew (hF.step (hB1.trans hBd)) h48 hbl.out (hR6.step hBd) hl6 hxk.d (fun e => hxk.a (by rw [e]; decide)) (hS2.step hBd).at_ (hS3.step hBd).at_)
   clear y0 y1 y2 y3 y4 y5 y6 hxk
   go_upto_region 5 with (fail)
   refine wp_region_held_drew (S := fun w' => w'.cell? ⟨g, 0, none⟩ = some (.slice A0 f.f0.length c0) ∧ w'.cell? ⟨g, 1, none⟩ = some (.slice A1 f.f1.length c1) ∧ w'.cell? ⟨g, 2, none⟩ = some (.int .i64 f.f2) ∧ w'.cell? ⟨g, 3, none⟩ = some (.int .i64 f.f3) ∧ w'.cell? ⟨g, 4, none⟩ = some (.slice (some ad4) f.f4.length c4) ∧ w'.cell? (ad5.add (k * 7)) = some (.int .i64 x.f0) ∧ w'.cell? ⟨(ad5.add (k * 7)).block, (ad5.add (k * 7)).off + 1, none⟩ = some (.int .i64 x.f1) ∧ w'.cell? ⟨(ad5.add (k * 7)).block, (ad5.add (k * 7)).off + 2, none⟩ = some (.int .i64 x.f2) ∧ w'.cell? ⟨(ad5.add (k * 7)).block, (ad5.add (k * 7)).off + 3, none⟩ = some (.int .i64 x.f3) ∧ w'.cell? ⟨(ad5.add (k * 7)).block, (ad5.add (k * 7)).off + 4, none⟩ = some (.int .i64 x.f4) ∧ w'.cell? ⟨(ad5.add (k * 7)).block, (ad5.add (k * 7)).off + 5, none⟩ = some (.int .i64 x.f5) ∧ w'.cell? ⟨(ad5.add (k * 7)).block, (ad5.add (k * 7)).off + 6, none⟩ = some (.slice A6 x.f6.length c6)) (by kernel_rfl) (hS.out _ hBd) (fun hHeld => ?_)
   refine takeH [0, 1, 2, 3, 4, 5, 6] (by kernel_rfl) (by kernel_rfl) hHeld ?_
   iterate 7 (refine takeI (v := ?_) rfl rfl (fun _ _ _ h => h) (Or.inl ⟨by kernel_rfl, ?_⟩) ?_; rotate_left 1; focus (intro w hSw; (try dsimp only at hSw); go_simp; (try with_reducible rfl); done); try simp only [Act.put, z1, z2, z3, z4, z5, z6])
   refine takeE ?_
   try dsimp only
   refine wpAnyH_ready (rs := [7]) (by kernel_rfl) (by simp) ?_
   refine AllReadyH.cons rfl (fun K hK => ?_) AllReadyH.nil
   go_simp
   (go_at_call 35; refine hst.out.mono ?_; rintro ex w2 ⟨v5, l5, v6, l6, rfl, h1, h2, h3, h4, hB2⟩)
   refine hK.out _ _ ?_ (fun hHeld => ?_)
   rotate_left 1
   clear hK K
   try simp only [Act.put, z1, z2, z3, z4, z5, z6]
   rotate_left 1
   ·exact hS.out _ (hBd.trans hB2)
   refine takeH [8, 9, 10, 11, 12] (by kernel_rfl) (by kernel_rfl) hHeld ?_
   iterate 5 (refine takeI (v := ?_) rfl rfl (fun _ _ _ h => h) (Or.inl ⟨by kernel_rfl, ?_⟩) ?_; rotate_left 1; focus (intro w hSw; (try dsimp only at hSw); go_simp; (try with_reducible rfl); done); try simp only [Act.put, z1, z2, z3, z4, z5, z6])
   refine takeE ?_
   try dsimp only
   refine wpAnyH_done (by kernel_rfl) ?_ _
   go_wp2
   go_roundw
   case rel =>
    have hbd : base ≤ wr.drew.heap.size := Nat.le_trans hbase (hB.trans (hB1.trans hBd)).size
    exact ⟨k + 1, by omega, by go_num, SetO.of h1 h2 hbd, SetO.of h3 h4 hbd, hB1.trans (hBd.trans hB2)⟩
   case measure => simp [intOf]; omega
  ·have q1 : ¬ (k : Int) < (l.length : Int) := by omega
   go_wp2
   go_ret2
   exact ⟨_, _, rfl, hS2, hS3, hB.trans hB1⟩
structure SEdge where
 f0 : Int
 f1 : Int
def zEdge : SEdge := ⟨(0 : Int), (0 : Int)⟩
def kEdge : Kd SEdge := Kd.iso (Kd.pair (Kd.int .i64) (Kd.int .i64)) (fun x : SEdge => (x.f0, x.f1))
theorem kEdge_open {w : World} {x : SEdge} {cs : List Value} (h : kEdge.K w x cs) : cs = [.int .i64 x.f0, .int .i64 x.f1] := by
 obtain ⟨_, _, rfl, rfl, rfl⟩ := h
 exact rfl
theorem kEdge_mkM (w : World) (base : Nat) (ok : Nat → Prop) (x : SEdge)  : kEdge.M w base ok x [.int .i64 x.f0, .int .i64 x.f1] := ⟨[.int .i64 x.f0], [.int .i64 x.f1], rfl, rfl, rfl⟩
def rd_TEdge (xs : List SEdge) (i : Int) : SEdge := xs.getD i.toNat zEdge
theorem at_TEdge {w : World} {A : Option Addr} {n : Nat} {xs : List SEdge} (h : Kd.C kEdge w A n xs) (i : Int) (h0 : 0 ≤ i) (h1 : i < n) : ∃ ad , A = some ad ∧ w.cell? (ad.add (i.toNat * 2)) = some (.int .i64 (rd_TEdge xs i).f0) ∧ w.cell? ⟨(ad.add (i.toNat * 2)).block, (ad.add (i.toNat * 2)).off + 1, none⟩ = some (.int .i64 (rd_TEdge xs i).f1) := by
 obtain ⟨ad, c, e, _, hK, hc0⟩ := Kd.C_get h zEdge i h0 h1
 have hc : ∀ j u, c[j]? = some u → w.cell? (ad.add (i.toNat * 2 + j)) = some u := hc0
 obtain rfl := kEdge_open hK
 exact ⟨ad, e, hc 0 _ rfl, by rw [← add_field _ _ 1 (by omega)]; exact hc 1 _ rfl⟩
theorem info_Edge : (Try.prog.info? 108).map (fun i => (i.zero, i.size, i.bytes)) = some (some (.agg #[.int .i64 0, .int .i64 0]), 2, 16) := by kernel_rfl
section
variable {ops : Array Oper} {rest : List Oper} {o : Oper} {a : Act} {Q : Exit → Act → World → Prop}
theorem app_edge {base : Nat} {W : World} {v : Value} {xs : List SEdge} (p : SEdge) (HO : OwnAt kEdge 108 base W v xs) (hbase : base ≤ W.heap.size) (hgd : o.guard = none) (s x : Operand)
  (ho : o.op = .call { callee := .builtin .append, args := #[s, x], argTypes := #[105, 105] })
  (hl : xs.length ≤ 1000000) (hs : a.eval s = v) (hx : a.eval x = .slice (some ⟨W.heap.size, 0, none⟩) 1 1)
  (h : ∀ v1 w1, OwnAt kEdge 108 base w1 v1 (xs ++ [p]) → KT [108] base W w1 → wpList Try.prog ops Q rest (a.put o.dst v1) w1) :
  wpList Try.prog ops Q (o :: rest) a (W.alloc (.cells #[.int .i64 p.f0, .int .i64 p.f1] 108)) := by
 refine Kd.R_append kEdge (w0 := W) base hgd s x 105 108 (.agg #[.int .i64 0, .int .i64 0]) 16 ho Try.underlying105 info_Edge rfl (by decide) (by omega) v xs p [.int .i64 p.f0, .int .i64 p.f1] (fun _ => True) (fun _ => False) hs hx (kEdge_mkM _ _ _ p) (fun _ hk => hk.elim) (fun _ _ => trivial) HO.out (Below.refl _ _) hbase (by omega) ?_
 intro v1 w1 ho hb hg hat
 obtain ⟨inner, hrow⟩ := Kd.R_own HO.out
 exact h v1 w1 ⟨ho⟩ (KT.grown hrow hg (by simp) (Nat.le_refl _) hbase)
end
def EdgeOk (n : Nat) (l : List SEdge) : Prop := ∀ e ∈ l, (0 ≤ e.f0 ∧ e.f0 < n) ∧ 0 ≤ e.f1 ∧ e.f1 < n
def EdgesIs (n : Nat) (w : World) (e : Ending) (w' : World) : Prop := ∃ v l, e = .returned v ∧ Own kEdge 108 w w' v l ∧ EdgeOk n l ∧ l.length ≤ 2 * n ∧ Bel w w'
set_option maxHeartbeats 4000000 in
theorem Edges_any (f : SFunc) (A0 : Option Addr) (c0 : Nat) (A1 : Option Addr) (c1 : Nat) (A4 : Option Addr) (c4 : Nat) (w : World) (hF : FuncAt w f A0 c0 A1 c1 A4 c4) (hn : f.f4.length ≤ 40) (hc : Aside0 (∀ b < f.f4.length, 1 ≤ (f.f4.getD b zBlock).f0.length ∧ (f.f4.getD b zBlock).f0.length ≤ 40))
  (hnx : Aside0 (∀ b < f.f4.length, ∀ v ∈ nextB f b, 1 ≤ v ∧ v < (f.f4.length : Int))) :
  Calls Try.prog 50 #[funcV f A0 c0 A1 c1 A4 c4] w (EdgesIs f.f4.length w) := by
 obtain ⟨g, hg⟩ : ∃ g, w.heap.size = g := ⟨_, rfl⟩
 have hB := (Bel.refl w).alloc (.cells #[.slice A0 f.f0.length c0, .slice A1 f.f1.length c1, .int .i64 f.f2, .int .i64 f.f3, .slice A4 f.f4.length c4] 52)
 have hbk := heap_new' (o := .cells #[.slice A0 f.f0.length c0, .slice A1 f.f1.length c1, .int .i64 f.f2, .int .i64 f.f3, .slice A4 f.f4.length c4] 52) hg.symm
 go_enter Try.func50, Try.ntmps50
 go_upto_region 1 with (fail)
 generalize w.alloc (.cells #[.slice A0 f.f0.length c0, .slice A1 f.f1.length c1, .int .i64 f.f2, .int .i64 f.f3, .slice A4 f.f4.length c4] 52) = wa at hB hbk ⊢
 replace hg := Aside0.mk hg
 have hgw : w.heap.size ≤ wa.heap.size := hB.size
 go_wp2
 go_loopw [3, 4] (fun v i W => ∃ (k : Nat) (l : List SEdge), k ≤ f.f4.length ∧ i = .int .i64 k ∧ OwnAt kEdge 108 w.heap.size W v l ∧ EdgeOk f.f4.length l ∧ l.length ≤ 2 * k ∧ KT [108] w.heap.size wa W) (fun _ i _ => f.f4.length - (intOf i).toNat)
 case atStart => exact ⟨0, [], by omega, rfl, OwnAt.nil _ _ _ _, (fun e he => by cases he), by simp, KT.refl _ _ _⟩
 case round =>
  obtain ⟨k, l, hk, rfl, hO, hE, hl, hK1⟩ := hrel
  have hb1 := hK1.blk hbk (by decide)
  have hB1 : Bel w wr := ⟨hB.out.trans hK1.below⟩
  have z0 : wr.cell? ⟨g, 0, none⟩ = some (.slice A0 f.f0.length c0) := blk_cell hb1 0
  have z1 : wr.cell? ⟨g, 1, none⟩ = some (.slice A1 f.f1.length c1) := blk_cell hb1 1
  have z2 : wr.cell? ⟨g, 2, none⟩ = some (.int .i64 f.f2) := blk_cell hb1 2
  have z3 : wr.cell? ⟨g, 3, none⟩ = some (.int .i64 f.f3) := blk_cell hb1 3
  have z4 : wr.cell? ⟨g, 4, none⟩ = some (.slice A4 f.f4.length c4) := blk_cell hb1 4
  have hwr := hB1.size
  by_cases hlt : k < f.f4.length
  ·have q1 : (k : Int) < (f.f4.length : Int) := by omega
   have hnb := Aside0.mk (NextB_any k (hF.step hB1) hlt (hc.out k hlt))
   obtain ⟨nb, hnbe⟩ : ∃ nb, nextB f k = nb := ⟨_, rfl⟩
   have hok := Aside0.mk (hnx.out k hlt)
   have hn2 : (nextB f k).length ≤ 2 := nextL_len _
   rw [hnbe] at hnb hok hn2
   clear hnbe
   go_wp2_with (go_at_call 53; ((with_reducible refine hnb.out.mono ?_); rintro e w2 ⟨v2, rfl, hO2, hB2⟩; obtain ⟨N, cN, rfl, _, _⟩ := hO2.reads; have hN2 := OwnAt.of_own hO2 hwr))
   go_loopw [3, 6] (fun v i W => ∃ (j : Nat) (l1 : List SEdge), j ≤ nb.length ∧ i = .int .i64 j ∧ OwnAt kEdge 108 w.heap.size W v l1 ∧ EdgeOk f.f4.length l1 ∧ l1.length ≤ 2 * k + j ∧ KT [108] w.heap.size w2 W) (fun _ i _ => nb.length - (intOf i).toNat)
   case atStart => exact ⟨0, l, by omega, rfl, hO.step hB2, hE, by omega, KT.refl _ _ _⟩
   case round =>
    obtain ⟨j, l1, hj, rfl, hO1, hE1, hl1, hK3⟩ := hrel
    clear z0 z1 z2 z3 z4
    have hK4 := hK1.trans ((KT.of_bel hB2 hwr [108]).trans hK3)
    by_cases hjl : j < nb.length
    ·have p1 : (j : Int) < (nb.length : Int) := by omega
     obtain ⟨ad, rfl, y0⟩ := rd_atN (hN2.keep hK3 (by intro q hq; rw [List.mem_singleton.1 hq]; decide)).rdOf j hjl
     have hm := hok.out nb[j] (List.getElem_mem hjl)
     have em : rd nb (j : Int) = nb[j] := by simp [rd, List.getD_eq_getElem?_getD, List.getElem?_eq_getElem hjl]
     rw [← em] at hm
     obtain ⟨t, ht⟩ : ∃ t, rd nb (j : Int) = t := ⟨_, rfl⟩
     rw [ht] at hm y0
     clear ht em
     obtain ⟨u, c, rfl, _, _⟩ := hO1.reads
     have hwr2 : w.heap.size ≤ wr.heap.size := Nat.le_trans hgw hK4.size
     go_wp2_with (refine app_edge ⟨k, t⟩ hO1 hwr2 rfl _ _ rfl (by omega) rfl rfl ?_; intro v7 w7 hO7 hK7; obtain ⟨A7, c7, rfl, _, _⟩ := hO7.reads)
     go_roundw
     case rel =>
      have e9 : (l1 ++ [(⟨k, t⟩ : SEdge)]).length = l1.length + 1 := by simp
      rw [e9] at hO7
      refine ⟨j + 1, _, by omega, by go_num, hO7, ?_, by rw [e9]; omega, hK3.trans hK7⟩
      intro e he
      rcases List.mem_append.1 he with he | he
      ·exact hE1 e he
      ·rw [List.mem_singleton.1 he]
       exact ⟨⟨by simp, q1⟩, by show 0 ≤ t; omega, hm.2⟩
     case measure => simp [intOf]; omega
    ·have p1 : ¬ (j : Int) < (nb.length : Int) := by omega
     go_wp2
     go_roundw
     case rel => exact ⟨k + 1, l1, by omega, by go_num, hO1, hE1, by omega, hK4⟩
     case measure => simp [intOf]; omega
  ·have q1 : ¬ (k : Int) < (f.f4.length : Int) := by omega
   go_wp2
   go_ret
   exact ⟨_, _, rfl, hO, hE, by omega, hB1⟩
end Go.Proofs.Ytodjpbidjldblaa.H
namespace Go.Proofs.Ytodjpbidjldblaa.H
open Go.RowKit Go.Proofs.YtodjpbidjldblaaW.PrintWords Go.Proofs.YtodjpbidjldblaaW.PrintLast Go.Proofs.YtodjpbidjldblaaW.PrintMore
attribute [local go_sem] min2_int min_two
set_option linter.unusedVariables false
set_option linter.unusedSimpArgs false
set_option maxRecDepth 100000
def CodeP (f : SFunc) (b : Nat) : Prop := (1 ≤ (f.f4.getD b zBlock).f0.length ∧ (f.f4.getD b zBlock).f0.length ≤ 40) ∧ ∀ k < (f.f4.getD b zBlock).f0.length, lastL ((f.f4.getD b zBlock).f0.getD k zIns).f0 ↔ k + 1 = (f.f4.getD b zBlock).f0.length
def FuncIs (f : SFunc) (w : World) (e : Ending) (w' : World) : Prop := ∃ b, e = .returned (.bool b) ∧ (b = true → FuncP f) ∧ Bel w w'
theorem FuncIs.no {f : SFunc} {w w' : World} (h : Bel w w') : FuncIs f w (.returned (.bool false)) w' := ⟨false, rfl, (fun q => by cases q), h⟩
set_option maxHeartbeats 8000000 in
theorem Func_any (f : SFunc) (A0 : Option Addr) (c0 : Nat) (A1 : Option Addr) (c1 : Nat) (A4 : Option Addr) (c4 : Nat) (w : World) (hF : FuncAt w f A0 c0 A1 c1 A4 c4) :
  Calls Try.prog 46 #[funcV f A0 c0 A1 c1 A4 c4] w (FuncIs f w) := by
 obtain ⟨g, hg⟩ : ∃ g, w.heap.size = g := ⟨_, rfl⟩
 obtain ⟨n, hnn⟩ : ∃ n, f.f0.length = n := ⟨_, rfl⟩
 obtain ⟨nb, hnb⟩ : ∃ n, f.f1.length = n := ⟨_, rfl⟩
 obtain ⟨nc, hnc⟩ : ∃ n, f.f4.length = n := ⟨_, rfl⟩
 have hB := (Bel.refl w).alloc (.cells #[.slice A0 n c0, .slice A1 nb c1, .int .i64 f.f2, .int .i64 f.f3, .slice A4 nc c4] 52)
 have hbk := heap_new' (o := .cells #[.slice A0 n c0, .slice A1 nb c1, .int .i64 f.f2, .int .i64 f.f3, .slice A4 nc c4] 52) hg.symm
 simp only [funcV, hnn, hnb, hnc]
 replace hnn := Aside0.mk hnn
 replace hnb := Aside0.mk hnb
 replace hnc := Aside0.mk hnc
 have hwi := Aside0.mk (fun n a b W => within_any n a b W)
 go_enter Try.func46, Try.ntmps46
 go_upto_region 1 with (fail)
 generalize w.alloc (.cells #[.slice A0 n c0, .slice A1 nb c1, .int .i64 f.f2, .int .i64 f.f3, .slice A4 nc c4] 52) = wa at hB hbk ⊢
 replace hg := Aside0.mk hg
 have z0 : wa.cell? ⟨g, 0, none⟩ = some (.slice A0 n c0) := blk_cell hbk 0
 have z1 : wa.cell? ⟨g, 1, none⟩ = some (.slice A1 nb c1) := blk_cell hbk 1
 have z2 : wa.cell? ⟨g, 2, none⟩ = some (.int .i64 f.f2) := blk_cell hbk 2
 have z3 : wa.cell? ⟨g, 3, none⟩ = some (.int .i64 f.f3) := blk_cell hbk 3
 have z4 : wa.cell? ⟨g, 4, none⟩ = some (.slice A4 nc c4) := blk_cell hbk 4
 by_cases h1 : 48 < n
 ·have d1 : (48 : Int) < (n : Int) := by omega
  go_wp2
  go_ret
  exact .no hB
 have d1 : ¬ (48 : Int) < (n : Int) := by omega
 by_cases h2 : nb = n
 case neg =>
  have d2 : ((nb : Int) != (n : Int)) = true := by simp; omega
  have d3 : (nb != n) = true := by simp; omega
  go_wp2
  go_ret
  exact .no hB
 subst h2
 obtain ⟨m, hm⟩ : ∃ m : Int, (if (nb : Int) < 4 then (nb : Int) else 4) = m := ⟨_, rfl⟩
 have hm4 : m ≤ 4 ∧ m ≤ nb := by rw [← hm]; split <;> omega
 have hw1 := Aside0.mk (fun W => hwi.out f.f2 0 m W)
 by_cases h3 : 0 ≤ f.f2 ∧ f.f2 ≤ m
 case neg =>
  rw [show decide (0 ≤ f.f2 ∧ f.f2 ≤ m) = false from decide_eq_false h3] at hw1
  clear h3
  go_wp2_with (go_at_call 45; ((with_reducible refine (hw1.out _).mono ?_); rintro e w2 ⟨rfl, rfl⟩))
  all_goals
   go_ret
   exact .no hB
 rw [show decide (0 ≤ f.f2 ∧ f.f2 ≤ m) = true from decide_eq_true h3] at hw1
 replace h3 := Aside0.mk h3
 have hw2 := Aside0.mk (fun W => hwi.out f.f3 0 1 W)
 by_cases h4 : 0 ≤ f.f3 ∧ f.f3 ≤ 1
 case neg =>
  rw [show decide (0 ≤ f.f3 ∧ f.f3 ≤ 1) = false from decide_eq_false h4] at hw2
  clear h4
  go_wp2_with (go_at_call 45; first | ((with_reducible refine (hw1.out _).mono ?_); rintro e w2 ⟨rfl, rfl⟩) | ((with_reducible refine (hw2.out _).mono ?_); rintro e w2 ⟨rfl, rfl⟩))
  all_goals
   go_ret
   exact .no hB
 rw [show decide (0 ≤ f.f3 ∧ f.f3 ≤ 1) = true from decide_eq_true h4] at hw2
 replace h4 := Aside0.mk h4
 have hw3 := Aside0.mk (fun W => hwi.out nc 1 40 W)
 by_cases h5 : (1 : Int) ≤ nc ∧ (nc : Int) ≤ 40
 case neg =>
  rw [show decide ((1 : Int) ≤ nc ∧ (nc : Int) ≤ 40) = false from decide_eq_false h5] at hw3
  clear h5
  go_wp2_with (go_at_call 45; first | ((with_reducible refine (hw1.out _).mono ?_); rintro e w2 ⟨rfl, rfl⟩) | ((with_reducible refine (hw2.out _).mono ?_); rintro e w2 ⟨rfl, rfl⟩) | ((with_reducible refine (hw3.out _).mono ?_); rintro e w2 ⟨rfl, rfl⟩))
  all_goals
   go_ret
   exact .no hB
 rw [show decide ((1 : Int) ≤ nc ∧ (nc : Int) ≤ 40) = true from decide_eq_true h5] at hw3
 have h5n : 1 ≤ nc ∧ nc ≤ 40 := by omega
 clear h5
 go_upto_region 4 with (go_at_call 45; first | ((with_reducible refine (hw1.out _).mono ?_); rintro e w2 ⟨rfl, rfl⟩) | ((with_reducible refine (hw2.out _).mono ?_); rintro e w2 ⟨rfl, rfl⟩) | ((with_reducible refine (hw3.out _).mono ?_); rintro e w2 ⟨rfl, rfl⟩))
 clear hm hw1 hw2 hw3 z0 z1 z2 z3 z4
 have h48 : nb ≤ 48 := by omega
 go_wp2
 go_loopw [4] (fun i W => ∃ k : Nat, k ≤ nb ∧ i = .int .i64 k ∧ Aside0 (∀ i : Nat, i < k → (i : Int) < f.f2 → f.f0.getD i 0 ≠ 2) ∧ Bel wa W) (fun i _ => nb - (intOf i).toNat)
 case atStart => exact ⟨0, by omega, rfl, ⟨fun i hi => by omega⟩, Bel.refl _⟩
 case round =>
  obtain ⟨k, hk, rfl, hd, hB1⟩ := hrel
  have hb1 := hB1.blk hbk
  have z0 : wr.cell? ⟨g, 0, none⟩ = some (.slice A0 nb c0) := blk_cell hb1 0
  have z1 : wr.cell? ⟨g, 1, none⟩ = some (.slice A1 nb c1) := blk_cell hb1 1
  have z2 : wr.cell? ⟨g, 2, none⟩ = some (.int .i64 f.f2) := blk_cell hb1 2
  have z4 : wr.cell? ⟨g, 4, none⟩ = some (.slice A4 nc c4) := blk_cell hb1 4
  have hF1 := hF.step (hB.trans hB1)
  by_cases hlt : k < nb
  ·have q1 : (k : Int) < (nb : Int) := by omega
   have q0 : (0 : Int) ≤ (k : Int) := by omega
   obtain ⟨a0, e0, y0⟩ := rd_atN hF1.r0 k (by rw [hnn.out]; exact hlt)
   obtain ⟨a1, e1, y1⟩ := rd_atN hF1.r1 k (by rw [hnb.out]; exact hlt)
   subst e0 e1
   obtain ⟨kd, hkd⟩ : ∃ x, rd f.f0 (k : Int) = x := ⟨_, rfl⟩
   obtain ⟨bs, hbs⟩ : ∃ x, rd f.f1 (k : Int) = x := ⟨_, rfl⟩
   rw [hkd] at y0
   rw [hbs] at y1
   have hkd' : f.f0.getD k 0 = kd := by rw [← hkd]; rfl
   replace hkd' := Aside0.mk hkd'
   clear hbs hkd
   have hwk := Aside0.mk (fun W => hwi.out kd 0 2 W)
   by_cases h6 : 0 ≤ kd ∧ kd ≤ 2
   case neg =>
    rw [show decide (0 ≤ kd ∧ kd ≤ 2) = false from decide_eq_false h6] at hwk
    clear h6
    go_wp2_with (go_at_call 45; ((with_reducible refine (hwk.out _).mono ?_); rintro e w2 ⟨rfl, rfl⟩))
    go_ret
    exact .no (hB.trans hB1)
   rw [show decide (0 ≤ kd ∧ kd ≤ 2) = true from decide_eq_true h6] at hwk
   by_cases h7 : kd = 2
   ·have b7 : (kd == 2) = true := by simp [h7]
    have b7' : (kd != 2) = false := by simp [h7]
    by_cases h8 : (k : Int) < f.f2
    ·clear h7 h6
     go_wp2_with (go_at_call 45; ((with_reducible refine (hwk.out _).mono ?_); rintro e w2 ⟨rfl, rfl⟩))
     go_ret
     exact .no (hB.trans hB1)
    ·clear h7 h6
     go_upto_region 12 with (go_at_call 45; ((with_reducible refine (hwk.out _).mono ?_); rintro e w2 ⟨rfl, rfl⟩))
     have hwb := Aside0.mk (fun W => hwi.out bs 0 ((nb : Int) - 1) W)
     clear hwk z2 y0
     by_cases h9 : 0 ≤ bs ∧ bs ≤ (nb : Int) - 1
     ·rw [show decide (0 ≤ bs ∧ bs ≤ (nb : Int) - 1) = true from decide_eq_true h9] at hwb
      obtain ⟨bn, rfl⟩ : ∃ m : Nat, bs = (m : Int) := ⟨bs.toNat, by omega⟩
      obtain ⟨a2, e2, y2⟩ := rd_atN hF1.r0 bn (by have := hnn.out; omega)
      injection e2 with e2
      subst e2
      obtain ⟨kb, hkb⟩ : ∃ x, rd f.f0 (bn : Int) = x := ⟨_, rfl⟩
      rw [hkb] at y2
      have q3 : (0 : Int) ≤ (bn : Int) := by omega
      have q4 : (bn : Int) < (nb : Int) := by omega
      clear hkb h9 hF1
      by_cases h10 : kb = 1
      ·have b10 : (kb != 1) = false := by simp [h10]
       clear h10
       have e85 : IntKind.i64.wrap ((nb : Int) - 1) = (nb : Int) - 1 := by rw [IntKind.wrap_i64]; omega
       go_quiet ((go_at_call 45; refine Calls.quiet_of_same ((hwb.out _).mono (fun e w' h => ⟨h.1, h.2.symm⟩))))
       clear e85
       go_wp2
       go_roundw
       case rel =>
        refine ⟨k + 1, by omega, by go_num, ⟨fun i hi hp => ?_⟩, hB1.drewN _⟩
        rcases Nat.lt_or_ge i k with h | h
        ·exact hd.out i h hp
        ·obtain rfl : i = k := by omega
         omega
       case measure => simp [intOf]; omega
      ·have b10 : (kb != 1) = true := by simp [h10]
       clear h10
       have e85 : IntKind.i64.wrap ((nb : Int) - 1) = (nb : Int) - 1 := by rw [IntKind.wrap_i64]; omega
       go_quiet ((go_at_call 45; refine Calls.quiet_of_same ((hwb.out _).mono (fun e w' h => ⟨h.1, h.2.symm⟩))))
       go_wp2
       go_ret
       exact .no ((hB.trans hB1).drewN _)
     ·rw [show decide (0 ≤ bs ∧ bs ≤ (nb : Int) - 1) = false from decide_eq_false h9] at hwb
      clear h9
      have e85 : IntKind.i64.wrap ((nb : Int) - 1) = (nb : Int) - 1 := by rw [IntKind.wrap_i64]; omega
      go_quiet ((go_at_call 45; refine Calls.quiet_of_same ((hwb.out _).mono (fun e w' h => ⟨h.1, h.2.symm⟩))))
      go_wp2
      go_ret
      exact .no ((hB.trans hB1).drewN _)
   ·have b7 : (kd == 2) = false := by simp [h7]
    have b7' : (kd != 2) = true := by simp [h7]
    go_upto_region 9 with (go_at_call 45; ((with_reducible refine (hwk.out _).mono ?_); rintro e w2 ⟨rfl, rfl⟩))
    all_goals
     by_cases h9 : bs = -1
     ·have b9 : (bs != -1) = false := by simp [h9]
      clear h9
      go_wp2
      go_roundw
      case rel =>
       refine ⟨k + 1, by omega, by go_num, ⟨fun i hi hp => ?_⟩, hB1⟩
       rcases Nat.lt_or_ge i k with h | h
       ·exact hd.out i h hp
       ·rw [show i = k by omega, hkd'.out]; exact h7
      case measure => simp [intOf]; omega
     ·have b9 : (bs != -1) = true := by simp [h9]
      clear h9
      go_wp2
      go_ret
      exact .no (hB.trans hB1)
  ·have q1 : ¬ (k : Int) < (nb : Int) := by omega
   have hall : Aside0 (∀ i : Nat, (i : Int) < f.f2 → f.f0.getD i 0 ≠ 2) := ⟨fun i hi => by
    rcases Nat.lt_or_ge i k with h | h
    ·exact hd.out i h hi
    ·have := h3.out; omega⟩
   clear z0 z1 z2 z4 hF1 hd
   go_wp2
   go_loopw [5] (fun i W => ∃ b : Nat, b ≤ nc ∧ i = .int .i64 b ∧ Aside0 (∀ c < b, CodeP f c) ∧ Bel wa W) (fun i _ => nc - (intOf i).toNat)
   case atStart => exact ⟨0, by omega, rfl, ⟨fun i hi => by omega⟩, hB1⟩
   case round =>
    clear hB1
    obtain ⟨b, hb, rfl, hcd, hB1⟩ := hrel
    have hb1 := hB1.blk hbk
    have z4 : wr.cell? ⟨g, 4, none⟩ = some (.slice A4 nc c4) := blk_cell hb1 4
    have hF1 := hF.step (hB.trans hB1)
    by_cases hltb : b < nc
    ·have p1 : (b : Int) < (nc : Int) := by omega
     have p0 : (0 : Int) ≤ (b : Int) := by omega
     obtain ⟨ad4, B0, d0, e4, y0, hd0, hri⟩ := block_at hF1.r4 b (by rw [hnc.out]; exact hltb)
     subst e4
     obtain ⟨l, hl⟩ : ∃ l, (f.f4[b]'(by rw [hnc.out]; exact hltb)).f0 = l := ⟨_, rfl⟩
     rw [hl] at y0 hd0 hri
     have hl' : (f.f4.getD b zBlock).f0 = l := by rw [getD_at (by rw [hnc.out]; exact hltb), hl]
     replace hl' := Aside0.mk hl'
     clear hl hF1
     obtain ⟨cl, hcl⟩ : ∃ cl, l.length = cl := ⟨_, rfl⟩
     rw [hcl] at y0 hd0
     replace hcl := Aside0.mk hcl
     have hwl := Aside0.mk (fun W => hwi.out cl 1 40 W)
     by_cases h11 : (1 : Int) ≤ (cl : Int) ∧ (cl : Int) ≤ 40
     case neg =>
      rw [show decide ((1 : Int) ≤ (cl : Int) ∧ (cl : Int) ≤ 40) = false from decide_eq_false h11] at hwl
      clear h11
      go_wp2_with (go_at_call 45; ((with_reducible refine (hwl.out _).mono ?_); rintro e w2 ⟨rfl, rfl⟩))
      go_ret
      exact .no (hB.trans hB1)
     rw [show decide ((1 : Int) ≤ (cl : Int) ∧ (cl : Int) ≤ 40) = true from decide_eq_true h11] at hwl
     have h11n : 1 ≤ cl ∧ cl ≤ 40 := by omega
     clear h11
     go_upto_region 20 with (go_at_call 45; ((with_reducible refine (hwl.out _).mono ?_); rintro e w2 ⟨rfl, hq2⟩; obtain rfl := hq2))
     clear y0 z4 hwl
     go_wp2
     go_loopw [7] (fun i W => ∃ j : Nat, j ≤ cl ∧ i = .int .i64 j ∧ Aside0 (∀ k < j, lastL (l.getD k zIns).f0 ↔ k + 1 = cl) ∧ Bel wr W) (fun i _ => cl - (intOf i).toNat)
     case atStart => exact ⟨0, by omega, rfl, ⟨fun i hi => by omega⟩, Bel.refl _⟩
     case round =>
      obtain ⟨j, hj, rfl, hlj, hB2⟩ := hrel
      have hB12 := hB1.trans hB2
      by_cases hltj : j < cl
      ·have p2 : (j : Int) < (cl : Int) := by omega
       have p3 : (0 : Int) ≤ (j : Int) := by omega
       obtain ⟨ad5, A6, c6, e5, y1, _⟩ := ins_at (hri.step hB2) j (by rw [hcl.out]; exact hltj)
       subst e5
       obtain ⟨op, hop⟩ : ∃ op, (l[j]'(by rw [hcl.out]; exact hltj)).f0 = op := ⟨_, rfl⟩
       rw [hop] at y1
       have hop' : (l.getD j zIns).f0 = op := by rw [getD_at (by rw [hcl.out]; exact hltj), hop]
       replace hop' := Aside0.mk hop'
       clear hop
       have hla := Aside0.mk (fun W => Last_any op W)
       by_cases h12 : lastL op ↔ j + 1 = cl
       ·by_cases h13 : j + 1 = cl
        ·rw [show decide (lastL op) = true from decide_eq_true (h12.2 h13)] at hla
         have b13 : ((j : Int) == ((cl : Int) - 1)) = true := by simp; omega
         replace h12 := Aside0.mk h12
         replace h13 := Aside0.mk h13
         go_wp2_with (go_at_call 65; ((with_reducible refine (hla.out _).mono ?_); rintro e w3 ⟨rfl, hq3⟩; obtain rfl := hq3))
         go_roundw
         case rel =>
          refine ⟨j + 1, by omega, by go_num, ⟨fun k hk => ?_⟩, hB2⟩
          rcases Nat.lt_or_ge k j with h | h
          ·exact hlj.out k h
          ·rw [show k = j by omega, hop'.out]; exact h12.out
         case measure => simp [intOf]; omega
        ·rw [show decide (lastL op) = false from decide_eq_false (fun q => h13 (h12.1 q))] at hla
         have b13 : ((j : Int) == ((cl : Int) - 1)) = false := by simp; omega
         replace h12 := Aside0.mk h12
         replace h13 := Aside0.mk h13
         go_wp2_with (go_at_call 65; ((with_reducible refine (hla.out _).mono ?_); rintro e w3 ⟨rfl, hq3⟩; obtain rfl := hq3))
         go_roundw
         case rel =>
          refine ⟨j + 1, by omega, by go_num, ⟨fun k hk => ?_⟩, hB2⟩
          rcases Nat.lt_or_ge k j with h | h
          ·exact hlj.out k h
          ·rw [show k = j by omega, hop'.out]; exact h12.out
         case measure => simp [intOf]; omega
       ·by_cases h13 : j + 1 = cl
        ·rw [show decide (lastL op) = false from decide_eq_false (fun q => h12 ⟨fun _ => h13, fun _ => q⟩)] at hla
         have b13 : ((j : Int) == ((cl : Int) - 1)) = true := by simp; omega
         clear h12 h13
         go_wp2_with (go_at_call 65; ((with_reducible refine (hla.out _).mono ?_); rintro e w3 ⟨rfl, hq3⟩; obtain rfl := hq3))
         go_ret
         exact .no (hB.trans hB12)
        ·rw [show decide (lastL op) = true from decide_eq_true (Classical.byContradiction fun q => h12 ⟨fun r => absurd r q, fun r => absurd r h13⟩)] at hla
         have b13 : ((j : Int) == ((cl : Int) - 1)) = false := by simp; omega
         clear h12 h13
         go_wp2_with (go_at_call 65; ((with_reducible refine (hla.out _).mono ?_); rintro e w3 ⟨rfl, hq3⟩; obtain rfl := hq3))
         go_ret
         exact .no (hB.trans hB12)
      ·have p2 : ¬ (j : Int) < (cl : Int) := by omega
       go_wp2
       go_roundw
       case rel =>
        refine ⟨b + 1, by omega, by go_num, ⟨fun c hc => ?_⟩, hB12⟩
        rcases Nat.lt_or_ge c b with h | h
        ·exact hcd.out c h
        ·obtain rfl : c = b := by omega
         unfold CodeP
         rw [hl'.out, hcl.out]
         exact ⟨h11n, fun k hk => hlj.out k (by omega)⟩
       case measure => simp [intOf]; omega
    ·have p1 : ¬ (b : Int) < (nc : Int) := by omega
     go_wp2
     go_ret
     refine ⟨true, rfl, fun _ => ?_, hB.trans hB1⟩
     have hcb : ∀ c < f.f4.length, CodeP f c := fun c hc => hcd.out c (by have := hnc.out; omega)
     have e0 := hnn.out
     have e1 := hnb.out
     have e2 := hnc.out
     have e3 := h3.out
     exact ⟨by omega, by omega, ⟨by omega, by omega, by omega⟩, h4.out, by omega, hall.out, fun c hc => (hcb c hc).1, fun c hc => (hcb c hc).2⟩
end Go.Proofs.Ytodjpbidjldblaa.H
namespace Go.Proofs.Ytodjpbidjldblaa.H
open Go.RowKit Go.Proofs.YtodjpbidjldblaaW.PrintWords Go.Proofs.YtodjpbidjldblaaW.PrintLast Go.Proofs.YtodjpbidjldblaaW.PrintMore
set_option linter.unusedVariables false
set_option linter.unusedSimpArgs false
set_option maxRecDepth 100000
theorem cutQ_intro {R : Act → World → Prop} {Q : Exit → Act → World → Prop} {a : Act} {w : World} (h : R a w) : cutQ R Q .normal a w := h
def BareIs (x : SIns) (w : World) (e : Ending) (w' : World) : Prop := ∃ b, e = .returned (.bool b) ∧ (b = true → (x.f1 = 0 ∨ has x.f0 68) ∧ (x.f2 = 0 ∨ has x.f0 65) ∧ (x.f3 = 0 ∨ has x.f0 66)) ∧ Bel w w'
set_option maxHeartbeats 8000000 in
theorem bare_any (x : SIns) (A6 : Option Addr) (c6 : Nat) (w : World) :
  Calls Try.prog 67 #[insV x A6 c6] w (BareIs x w) := by
 obtain ⟨g, hg⟩ : ∃ g, w.heap.size = g := ⟨_, rfl⟩
 have hB := (Bel.refl w).alloc (.cells #[.int .i64 x.f0, .int .i64 x.f1, .int .i64 x.f2, .int .i64 x.f3, .int .i64 x.f4, .int .i64 x.f5, .slice A6 x.f6.length c6] 57)
 have hx := heap_new' (o := .cells #[.int .i64 x.f0, .int .i64 x.f1, .int .i64 x.f2, .int .i64 x.f3, .int .i64 x.f4, .int .i64 x.f5, .slice A6 x.f6.length c6] 57) hg.symm
 go_enter Try.func67, Try.ntmps67
 go_upto_region 1 with (fail)
 generalize w.alloc (.cells #[.int .i64 x.f0, .int .i64 x.f1, .int .i64 x.f2, .int .i64 x.f3, .int .i64 x.f4, .int .i64 x.f5, .slice A6 x.f6.length c6] 57) = wa at hB hx ⊢
 replace hg := Aside0.mk hg
 refine wp_region_list ?_
 simp only [List.append_eq, List.cons_append, List.nil_append]
 obtain ⟨R0, hR0⟩ : ∃ R : Act → World → Prop, Aside0 (∀ a' w', R a' w' ↔ ∃ (b : Bool) (v3 v4 v5 v6 v7 v8 v9 v10 : Value), a' = ⟨#[insV x A6 c6, .pointer (some ⟨g, 0, none⟩), .bool false, v3, v4, v5, v6, v7, v8, v9, v10, .bool b, undef, undef, undef, undef, undef, undef, undef, undef, undef, undef, undef, undef, undef, undef, undef, undef, undef, undef, undef, undef, undef, undef, undef, undef, undef, undef, undef, undef, undef, undef, undef, undef, undef, undef, undef, undef, undef, undef, undef, undef, undef, undef, undef, undef, undef, undef, undef, undef, undef, undef, undef, undef, undef, undef, undef], []⟩ ∧ Aside0 (b = true → (x.f1 = 0 ∨ has x.f0 68)) ∧ Bel wa w') := ⟨_, ⟨fun _ _ => Iff.rfl⟩⟩
 refine wpList_cut (pre := [_, _, _, _, _, _, _, _, _]) R0 ?_ ?_
 ·have z0 : wa.cell? ⟨g, 0, none⟩ = some (.int .i64 x.f0) := blk_cell ((Bel.refl wa).blk hx) 0
  have z1 : wa.cell? ⟨g, 1, none⟩ = some (.int .i64 x.f1) := blk_cell ((Bel.refl wa).blk hx) 1
  by_cases hz : x.f1 = 0
  ·have e0 : (x.f1 == 0) = true := by simp [hz]
   replace hz := Aside0.mk hz
   go_wp2
   exact cutQ_intro ((hR0.out _ _).2 ⟨true, _, _, _, _, _, _, _, _, rfl, ⟨fun _ => .inl hz.out⟩, (Bel.refl wa)⟩)
  ·have e0 : (x.f1 == 0) = false := by simp [hz]
   clear hz
   obtain ⟨hb, hhb⟩ : ∃ hb, decide (has x.f0 68) = hb := ⟨_, rfl⟩
   have hh68 := Aside0.mk (fun W => has_any x.f0 68 (by decide) W)
   rw [hhb] at hh68
   replace hhb := Aside0.mk hhb
   go_wp2_with (go_at_call 56; ((with_reducible refine (hh68.out _).mono ?_); rintro e w2 ⟨rfl, ⟨n, rfl⟩⟩))
   exact cutQ_intro ((hR0.out _ _).2 ⟨hb, _, _, _, _, _, _, _, _, rfl, ⟨fun q => .inr (of_decide_eq_true (hhb.out.trans q))⟩, (Bel.refl wa).drewN n⟩)
 intro a' w0' hI
 obtain ⟨b0, hI⟩ := (hR0.out _ _).1 hI
 obtain ⟨v3, hI⟩ := hI
 obtain ⟨v4, hI⟩ := hI
 obtain ⟨v5, hI⟩ := hI
 obtain ⟨v6, hI⟩ := hI
 obtain ⟨v7, hI⟩ := hI
 obtain ⟨v8, hI⟩ := hI
 obtain ⟨v9, hI⟩ := hI
 obtain ⟨v10, hI⟩ := hI
 obtain ⟨rfl, hf0, hB0⟩ := hI
 obtain ⟨R1, hR1⟩ : ∃ R : Act → World → Prop, Aside0 (∀ a' w', R a' w' ↔ ∃ (b : Bool) (v12 v13 v14 v15 v16 v17 v18 v19 v20 : Value), a' = ⟨#[insV x A6 c6, .pointer (some ⟨g, 0, none⟩), .bool false, v3, v4, v5, v6, v7, v8, v9, v10, .bool b0, v12, v13, v14, v15, v16, v17, v18, v19, v20, .bool b, undef, undef, undef, undef, undef, undef, undef, undef, undef, undef, undef, undef, undef, undef, undef, undef, undef, undef, undef, undef, undef, undef, undef, undef, undef, undef, undef, undef, undef, undef, undef, undef, undef, undef, undef, undef, undef, undef, undef, undef, undef, undef, undef, undef, undef], []⟩ ∧ Aside0 (b = true → (x.f1 = 0 ∨ has x.f0 68) ∧ (x.f2 = 0 ∨ has x.f0 65)) ∧ Bel wa w') := ⟨_, ⟨fun _ _ => Iff.rfl⟩⟩
 refine wpList_cut (pre := [_, _, _, _, _, _, _, _, _, _]) R1 ?_ ?_
 ·have z0 : w0'.cell? ⟨g, 0, none⟩ = some (.int .i64 x.f0) := blk_cell (hB0.blk hx) 0
  have z1 : w0'.cell? ⟨g, 2, none⟩ = some (.int .i64 x.f2) := blk_cell (hB0.blk hx) 2
  cases b0 with
  | false =>
   go_wp2
   exact cutQ_intro ((hR1.out _ _).2 ⟨false, _, _, _, _, _, _, _, _, _, rfl, ⟨fun q => by cases q⟩, hB0⟩)
  | true =>
   have hp := hf0.out rfl
   clear hf0
   have hp := Aside0.mk hp
   by_cases hz : x.f2 = 0
   ·have e0 : (x.f2 == 0) = true := by simp [hz]
    replace hz := Aside0.mk hz
    go_wp2
    exact cutQ_intro ((hR1.out _ _).2 ⟨true, _, _, _, _, _, _, _, _, _, rfl, ⟨fun _ => ⟨hp.out, .inl hz.out⟩⟩, hB0⟩)
   ·have e0 : (x.f2 == 0) = false := by simp [hz]
    clear hz
    obtain ⟨hb, hhb⟩ : ∃ hb, decide (has x.f0 65) = hb := ⟨_, rfl⟩
    have hh65 := Aside0.mk (fun W => has_any x.f0 65 (by decide) W)
    rw [hhb] at hh65
    replace hhb := Aside0.mk hhb
    go_wp2_with (go_at_call 56; ((with_reducible refine (hh65.out _).mono ?_); rintro e w2 ⟨rfl, ⟨n, rfl⟩⟩))
    exact cutQ_intro ((hR1.out _ _).2 ⟨hb, _, _, _, _, _, _, _, _, _, rfl, ⟨fun q => ⟨hp.out, .inr (of_decide_eq_true (hhb.out.trans q))⟩⟩, hB0.drewN n⟩)
 intro a' w1' hI
 obtain ⟨b1, hI⟩ := (hR1.out _ _).1 hI
 obtain ⟨v12, hI⟩ := hI
 obtain ⟨v13, hI⟩ := hI
 obtain ⟨v14, hI⟩ := hI
 obtain ⟨v15, hI⟩ := hI
 obtain ⟨v16, hI⟩ := hI
 obtain ⟨v17, hI⟩ := hI
 obtain ⟨v18, hI⟩ := hI
 obtain ⟨v19, hI⟩ := hI
 obtain ⟨v20, hI⟩ := hI
 obtain ⟨rfl, hf1, hB1⟩ := hI
 clear hf0 hB0
 obtain ⟨R2, hR2⟩ : ∃ R : Act → World → Prop, Aside0 (∀ a' w', R a' w' ↔ ∃ (b : Bool) (v22 v23 v24 v25 v26 v27 v28 v29 v30 : Value), a' = ⟨#[insV x A6 c6, .pointer (some ⟨g, 0, none⟩), .bool false, v3, v4, v5, v6, v7, v8, v9, v10, .bool b0, v12, v13, v14, v15, v16, v17, v18, v19, v20, .bool b1, v22, v23, v24, v25, v26, v27, v28, v29, v30, .bool b, undef, undef, undef, undef, undef, undef, undef, undef, undef, undef, undef, undef, undef, undef, undef, undef, undef, undef, undef, undef, undef, undef, undef, undef, undef, undef, undef, undef, undef, undef, undef, undef, undef, undef, undef], []⟩ ∧ Aside0 (b = true → (x.f1 = 0 ∨ has x.f0 68) ∧ (x.f2 = 0 ∨ has x.f0 65) ∧ (x.f3 = 0 ∨ has x.f0 66)) ∧ Bel wa w') := ⟨_, ⟨fun _ _ => Iff.rfl⟩⟩
 refine wpList_cut (pre := [_, _, _, _, _, _, _, _, _, _]) R2 ?_ ?_
 ·have z0 : w1'.cell? ⟨g, 0, none⟩ = some (.int .i64 x.f0) := blk_cell (hB1.blk hx) 0
  have z1 : w1'.cell? ⟨g, 3, none⟩ = some (.int .i64 x.f3) := blk_cell (hB1.blk hx) 3
  cases b1 with
  | false =>
   go_wp2
   exact cutQ_intro ((hR2.out _ _).2 ⟨false, _, _, _, _, _, _, _, _, _, rfl, ⟨fun q => by cases q⟩, hB1⟩)
  | true =>
   have hp := hf1.out rfl
   clear hf1
   have hp := Aside0.mk hp
   by_cases hz : x.f3 = 0
   ·have e0 : (x.f3 == 0) = true := by simp [hz]
    replace hz := Aside0.mk hz
    go_wp2
    exact cutQ_intro ((hR2.out _ _).2 ⟨true, _, _, _, _, _, _, _, _, _, rfl, ⟨fun _ => ⟨hp.out.1, hp.out.2, .inl hz.out⟩⟩, hB1⟩)
   ·have e0 : (x.f3 == 0) = false := by simp [hz]
    clear hz
    obtain ⟨hb, hhb⟩ : ∃ hb, decide (has x.f0 66) = hb := ⟨_, rfl⟩
    have hh66 := Aside0.mk (fun W => has_any x.f0 66 (by decide) W)
    rw [hhb] at hh66
    replace hhb := Aside0.mk hhb
    go_wp2_with (go_at_call 56; ((with_reducible refine (hh66.out _).mono ?_); rintro e w2 ⟨rfl, ⟨n, rfl⟩⟩))
    exact cutQ_intro ((hR2.out _ _).2 ⟨hb, _, _, _, _, _, _, _, _, _, rfl, ⟨fun q => ⟨hp.out.1, hp.out.2, .inr (of_decide_eq_true (hhb.out.trans q))⟩⟩, hB1.drewN n⟩)
 intro a' w2' hI
 obtain ⟨b2, hI⟩ := (hR2.out _ _).1 hI
 obtain ⟨v22, hI⟩ := hI
 obtain ⟨v23, hI⟩ := hI
 obtain ⟨v24, hI⟩ := hI
 obtain ⟨v25, hI⟩ := hI
 obtain ⟨v26, hI⟩ := hI
 obtain ⟨v27, hI⟩ := hI
 obtain ⟨v28, hI⟩ := hI
 obtain ⟨v29, hI⟩ := hI
 obtain ⟨v30, hI⟩ := hI
 obtain ⟨rfl, hf2, hB2⟩ := hI
 clear hf1 hB1
 obtain ⟨R3, hR3⟩ : ∃ R : Act → World → Prop, Aside0 (∀ a' w', R a' w' ↔ ∃ (b : Bool) (v32 v33 v34 v35 v36 v37 v38 v39 v40 v41 v42 v43 v44 v45 : Value), a' = ⟨#[insV x A6 c6, .pointer (some ⟨g, 0, none⟩), .bool false, v3, v4, v5, v6, v7, v8, v9, v10, .bool b0, v12, v13, v14, v15, v16, v17, v18, v19, v20, .bool b1, v22, v23, v24, v25, v26, v27, v28, v29, v30, .bool b2, v32, v33, v34, v35, v36, v37, v38, v39, v40, v41, v42, v43, v44, v45, .bool b, undef, undef, undef, undef, undef, undef, undef, undef, undef, undef, undef, undef, undef, undef, undef, undef, undef, undef, undef, undef], []⟩ ∧ Aside0 (b = true → (x.f1 = 0 ∨ has x.f0 68) ∧ (x.f2 = 0 ∨ has x.f0 65) ∧ (x.f3 = 0 ∨ has x.f0 66)) ∧ Bel wa w') := ⟨_, ⟨fun _ _ => Iff.rfl⟩⟩
 refine wpList_cut (pre := [_, _, _, _, _, _, _, _, _, _, _, _, _, _, _]) R3 ?_ ?_
 ·have z0 : w2'.cell? ⟨g, 0, none⟩ = some (.int .i64 x.f0) := blk_cell (hB2.blk hx) 0
  have z1 : w2'.cell? ⟨g, 4, none⟩ = some (.int .i64 x.f4) := blk_cell (hB2.blk hx) 4
  cases b2 with
  | false =>
   go_wp2
   exact cutQ_intro ((hR3.out _ _).2 ⟨false, _, _, _, _, _, _, _, _, _, _, _, _, _, _, rfl, ⟨fun q => by cases q⟩, hB2⟩)
  | true =>
   have hp := hf2.out rfl
   clear hf2
   have hp := Aside0.mk hp
   by_cases hz : x.f4 = 0
   ·have e0 : (x.f4 == 0) = true := by simp [hz]
    replace hz := Aside0.mk hz
    go_wp2
    exact cutQ_intro ((hR3.out _ _).2 ⟨true, _, _, _, _, _, _, _, _, _, _, _, _, _, _, rfl, ⟨fun _ => hp.out⟩, hB2⟩)
   ·have e0 : (x.f4 == 0) = false := by simp [hz]
    clear hz
    have hh78 := Aside0.mk (fun W => has_any x.f0 78 (by decide) W)
    have hh110 := Aside0.mk (fun W => has_any x.f0 110 (by decide) W)
    obtain ⟨hc, hhc⟩ : ∃ hb, decide (has x.f0 110) = hb := ⟨_, rfl⟩
    rw [hhc] at hh110
    replace hhc := Aside0.mk hhc
    by_cases h78 : has x.f0 78
    ·rw [show decide (has x.f0 78) = true from decide_eq_true h78] at hh78
     clear h78
     go_wp2_with (go_at_call 56; ((with_reducible refine (hh78.out _).mono ?_); rintro e w2 ⟨rfl, ⟨n, rfl⟩⟩))
     exact cutQ_intro ((hR3.out _ _).2 ⟨true, _, _, _, _, _, _, _, _, _, _, _, _, _, _, rfl, ⟨fun _ => hp.out⟩, hB2.drewN n⟩)
    ·rw [show decide (has x.f0 78) = false from decide_eq_false h78] at hh78
     clear h78
     go_wp2_with (go_at_call 56; first | ((with_reducible refine (hh78.out _).mono ?_); rintro e w2 ⟨rfl, ⟨n, rfl⟩⟩; have z0 : (w2'.drewN n).cell? ⟨g, 0, none⟩ = some (.int .i64 x.f0) := blk_cell ((hB2.drewN n).blk hx) 0) | ((with_reducible refine (hh110.out _).mono ?_); rintro e w3 ⟨rfl, ⟨n2, rfl⟩⟩))
     exact cutQ_intro ((hR3.out _ _).2 ⟨hc, _, _, _, _, _, _, _, _, _, _, _, _, _, _, rfl, ⟨fun _ => hp.out⟩, hB2.drewN (n + n2)⟩)
 intro a' w3' hI
 obtain ⟨b3, hI⟩ := (hR3.out _ _).1 hI
 obtain ⟨v32, hI⟩ := hI
 obtain ⟨v33, hI⟩ := hI
 obtain ⟨v34, hI⟩ := hI
 obtain ⟨v35, hI⟩ := hI
 obtain ⟨v36, hI⟩ := hI
 obtain ⟨v37, hI⟩ := hI
 obtain ⟨v38, hI⟩ := hI
 obtain ⟨v39, hI⟩ := hI
 obtain ⟨v40, hI⟩ := hI
 obtain ⟨v41, hI⟩ := hI
 obtain ⟨v42, hI⟩ := hI
 obtain ⟨v43, hI⟩ := hI
 obtain ⟨v44, hI⟩ := hI
 obtain ⟨v45, hI⟩ := hI
 obtain ⟨rfl, hf3, hB3⟩ := hI
 clear hf2 hB2
 obtain ⟨R4, hR4⟩ : ∃ R : Act → World → Prop, Aside0 (∀ a' w', R a' w' ↔ ∃ (b : Bool) (v47 v48 v49 v50 v51 v52 v53 v54 v55 : Value), a' = ⟨#[insV x A6 c6, .pointer (some ⟨g, 0, none⟩), .bool false, v3, v4, v5, v6, v7, v8, v9, v10, .bool b0, v12, v13, v14, v15, v16, v17, v18, v19, v20, .bool b1, v22, v23, v24, v25, v26, v27, v28, v29, v30, .bool b2, v32, v33, v34, v35, v36, v37, v38, v39, v40, v41, v42, v43, v44, v45, .bool b3, v47, v48, v49, v50, v51, v52, v53, v54, v55, .bool b, undef, undef, undef, undef, undef, undef, undef, undef, undef, undef], []⟩ ∧ Aside0 (b = true → (x.f1 = 0 ∨ has x.f0 68) ∧ (x.f2 = 0 ∨ has x.f0 65) ∧ (x.f3 = 0 ∨ has x.f0 66)) ∧ Bel wa w') := ⟨_, ⟨fun _ _ => Iff.rfl⟩⟩
 refine wpList_cut (pre := [_, _, _, _, _, _, _, _, _, _]) R4 ?_ ?_
 ·have z0 : w3'.cell? ⟨g, 0, none⟩ = some (.int .i64 x.f0) := blk_cell (hB3.blk hx) 0
  have z1 : w3'.cell? ⟨g, 5, none⟩ = some (.int .i64 x.f5) := blk_cell (hB3.blk hx) 5
  cases b3 with
  | false =>
   go_wp2
   exact cutQ_intro ((hR4.out _ _).2 ⟨false, _, _, _, _, _, _, _, _, _, rfl, ⟨fun q => by cases q⟩, hB3⟩)
  | true =>
   have hp := hf3.out rfl
   clear hf3
   have hp := Aside0.mk hp
   by_cases hz : x.f5 = 0
   ·have e0 : (x.f5 == 0) = true := by simp [hz]
    replace hz := Aside0.mk hz
    go_wp2
    exact cutQ_intro ((hR4.out _ _).2 ⟨true, _, _, _, _, _, _, _, _, _, rfl, ⟨fun _ => hp.out⟩, hB3⟩)
   ·have e0 : (x.f5 == 0) = false := by simp [hz]
    clear hz
    obtain ⟨hb, hhb⟩ : ∃ hb, decide (has x.f0 77) = hb := ⟨_, rfl⟩
    have hh77 := Aside0.mk (fun W => has_any x.f0 77 (by decide) W)
    rw [hhb] at hh77
    replace hhb := Aside0.mk hhb
    go_wp2_with (go_at_call 56; ((with_reducible refine (hh77.out _).mono ?_); rintro e w2 ⟨rfl, ⟨n, rfl⟩⟩))
    exact cutQ_intro ((hR4.out _ _).2 ⟨hb, _, _, _, _, _, _, _, _, _, rfl, ⟨fun q => hp.out⟩, hB3.drewN n⟩)
 intro a' w4' hI
 obtain ⟨b4, hI⟩ := (hR4.out _ _).1 hI
 obtain ⟨v47, hI⟩ := hI
 obtain ⟨v48, hI⟩ := hI
 obtain ⟨v49, hI⟩ := hI
 obtain ⟨v50, hI⟩ := hI
 obtain ⟨v51, hI⟩ := hI
 obtain ⟨v52, hI⟩ := hI
 obtain ⟨v53, hI⟩ := hI
 obtain ⟨v54, hI⟩ := hI
 obtain ⟨v55, hI⟩ := hI
 obtain ⟨rfl, hf4, hB4⟩ := hI
 clear hf3 hB3
 have z0 : w4'.cell? ⟨g, 0, none⟩ = some (.int .i64 x.f0) := blk_cell (hB4.blk hx) 0
 have z1 : w4'.cell? ⟨g, 6, none⟩ = some (.slice A6 x.f6.length c6) := blk_cell (hB4.blk hx) 6
 cases b4 with
 | false =>
  go_wp2
  go_ret
  exact ⟨false, rfl, (fun q => by cases q), hB.trans hB4⟩
 | true =>
  have hp := Aside0.mk (hf4.out rfl)
  clear hf4
  by_cases hz : x.f6.length = 0
  ·have e0 : ((x.f6.length : Int) == 0) = true := by simp [hz]
   have e1 : (x.f6.length == 0) = true := by simp [hz]
   have e2 : x.f6 = [] := List.eq_nil_of_length_eq_zero hz
   replace e2 := Aside0.mk e2
   clear hz
   go_wp2
   go_ret
   exact ⟨_, rfl, (fun _ => hp.out), hB.trans hB4⟩
  ·have e0 : ((x.f6.length : Int) == 0) = false := by simp; exact fun q => hz (by simp [q])
   have e1 : (x.f6.length == 0) = false := by simp; exact fun q => hz (by simp [q])
   clear hz
   have hh76 := Aside0.mk (fun W => has_any x.f0 76 (by decide) W)
   go_wp2_with (go_at_call 56; ((with_reducible refine (hh76.out _).mono ?_); rintro e w2 ⟨rfl, ⟨n, rfl⟩⟩))
   go_ret
   exact ⟨_, rfl, (fun _ => hp.out), hB.trans (hB4.drewN n)⟩
end Go.Proofs.Ytodjpbidjldblaa.H
