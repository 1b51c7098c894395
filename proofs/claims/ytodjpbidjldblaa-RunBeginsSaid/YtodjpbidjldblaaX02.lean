/- Texts joined. Conditions: each stands with its theorem. -/
import Derived.Test.YtodjpbidjldblaaX01
namespace Go.Proofs.Ytodjpbidjldblaa.H
open Go.RowKit Go.Proofs.YtodjpbidjldblaaW.PrintWords Go.Proofs.YtodjpbidjldblaaW.PrintLast
set_option linter.unusedVariables false
set_option linter.unusedSimpArgs false
set_option maxRecDepth 100000
theorem more_out (S : Nat → Prop) (b n : Nat) : ∃ S1 : Nat → Prop, ∀ k, S1 k ↔ S k ∨ (b ≤ k ∧ k < b + n) := ⟨fun k => S k ∨ (b ≤ k ∧ k < b + n), fun k => Iff.rfl⟩
set_option maxHeartbeats 4000000 in
theorem put_any (S : Nat → Prop) (A : Option Addr) (c : Nat) (l : List SObj) (k : Nat) (o : Int) (x : SObj) (B1 B2 : Option Addr) (d1 d2 : Nat) (w : World) (hS : Aside0 (∀ k, S k → k < w.heap.size)) (H : RdF S w A l) (hl : l.length ≤ 1000000) (hk : k < l.length) (ho : o = (k : Int) + 1)
  (F1 : RdIF S w B1 x.f0) (h1 : x.f0.length ≤ d1) (F2 : RdIF S w B2 x.f1) (h2 : x.f1.length ≤ d2) :
  Calls Try.prog 86 #[.agg #[.slice A l.length c], .int .i64 o, .agg #[.slice B1 x.f0.length d1, .slice B2 x.f1.length d2]] w fun e w' => ∃ v, e = .returned (.agg #[v]) ∧ HV S w' v (l.set k x) ∧ Bel w w' := by
 have e3 : IntKind.i64.wrap (o - 1) = (k : Int) := by rw [IntKind.wrap_i64]; omega
 have e4 : (k : Int) < (l.length : Int) := by omega
 replace ho := Aside0.mk ho
 obtain ⟨b, hb⟩ : ∃ b, w.heap.size = b := ⟨_, rfl⟩
 have hB1 := (((Bel.refl w).alloc (.cells #[.slice A l.length c] 30)).alloc (.cells #[.slice B1 x.f0.length d1, .slice B2 x.f1.length d2] 71)).alloc (.cells #[.slice none 0 0] 30)
 have hb0 : (((w.alloc (.cells #[.slice A l.length c] 30)).alloc (.cells #[.slice B1 x.f0.length d1, .slice B2 x.f1.length d2] 71)).alloc (.cells #[.slice none 0 0] 30)).heap[b]? = some (.cells #[.slice A l.length c] 30 (0, 0)) := heap_old (heap_old (heap_new' hb.symm))
 have hb1 : (((w.alloc (.cells #[.slice A l.length c] 30)).alloc (.cells #[.slice B1 x.f0.length d1, .slice B2 x.f1.length d2] 71)).alloc (.cells #[.slice none 0 0] 30)).heap[b + 1]? = some (.cells #[.slice B1 x.f0.length d1, .slice B2 x.f1.length d2] 71 (0, 0)) := heap_old (heap_new' (by simp [hb]))
 have hb2 : (((w.alloc (.cells #[.slice A l.length c] 30)).alloc (.cells #[.slice B1 x.f0.length d1, .slice B2 x.f1.length d2] 71)).alloc (.cells #[.slice none 0 0] 30)).heap[b + 1 + 1]? = some (.cells #[.slice none 0 0] 30 (0, 0)) := heap_new' (by simp [hb])
 obtain ⟨S1, hS1⟩ := more_out S b 3
 have H1 : RdF S1 w A l := ⟨Kd.F_mono (Kd.F_bound H.out) (fun k hk q => by rcases (hS1 k).1 q with q | q; exact hk.1 q; have := hk.2; omega)⟩
 have G1 : RdIF S1 w B1 x.f0 := ⟨Kd.F_mono (Kd.F_bound F1.out) (fun k hk q => by rcases (hS1 k).1 q with q | q; exact hk.1 q; have := hk.2; omega)⟩
 have G2 : RdIF S1 w B2 x.f1 := ⟨Kd.F_mono (Kd.F_bound F2.out) (fun k hk q => by rcases (hS1 k).1 q with q | q; exact hk.1 q; have := hk.2; omega)⟩
 have hX : Kd.FK kObj w (fun k => ¬ S1 k ∧ k < w.heap.size) x [.slice B1 x.f0.length d1, .slice B2 x.f1.length d2] := Kd.FK_bound (kObj_mkF w _ x h1 G1.out h2 G2.out)
 replace hX := Aside0.mk hX
 go_enter Try.func86, Try.ntmps86
 go_upto_region 1 with (fail)
 generalize ((w.alloc (.cells #[.slice A l.length c] 30)).alloc (.cells #[.slice B1 x.f0.length d1, .slice B2 x.f1.length d2] 71)).alloc (.cells #[.slice none 0 0] 30) = wa at hB1 hb0 hb1 hb2 ⊢
 have hS2 : Aside0 (∀ k, S1 k → k < wa.heap.size) := ⟨fun k hk => by
  have h3 := blk_lt hb2
  rcases (hS1 k).1 hk with q | q
  ·have := hS.out k q
   have := hB1.size
   omega
  ·omega⟩
 replace hS1 := Aside0.mk hS1
 have hcl := Aside0.mk (cloneObjs_any S1 A c l wa hS2 (H1.step hB1) hl (by omega))
 replace hb := Aside0.mk hb
 have z0 : wa.cell? ⟨b, 0, none⟩ = some (.slice A l.length c) := blk_cell hb0 0
 clear H F1 F2 G1 G2 H1 hS
 go_upto_region 2 with (go_at_call 87; ((with_reducible refine hcl.out.mono ?_); rintro e w2 ⟨v, rfl, hN, hB2⟩; have hb02 := hB2.blk hb0; have y0 : w2.cell? ⟨b, 0, none⟩ = some (.slice A l.length c) := blk_cell hb02 0; have y1 := blk_frozen hb02 0; obtain ⟨g, cap, rfl, hg1, hg2, cells, hg3⟩ := Kd.N_form hN.out (show 0 < l.length by omega)))
 have hBw2 := hB1.trans hB2
 have hN2 := Kd.N_far hN.out (p := ⟨b, 0, none⟩) (fun j hj q => hj ((hS1.out j).2 (.inr (by show b ≤ j ∧ j < b + 3; have q : j = b := q; omega)))) (.slice (some ⟨g, 0, none⟩) l.length cap)
 have hbg : b + 3 ≤ g := by have := blk_lt hb2; omega
 have hb04 := blk_set hb02 0 (.slice (some ⟨g, 0, none⟩) l.length cap)
 have hb14 := blk_far (hB2.blk hb1) (p := ⟨b, 0, none⟩) (by simp) (.slice (some ⟨g, 0, none⟩) l.length cap)
 have hb24 := blk_far (hB2.blk hb2) (p := ⟨b, 0, none⟩) (by simp; omega) (.slice (some ⟨g, 0, none⟩) l.length cap)
 have hB4 : Bel w (w2.setCell ⟨b, 0, none⟩ (.slice (some ⟨g, 0, none⟩) l.length cap)) := ⟨hBw2.out.setCell (p := ⟨b, 0, none⟩) (Nat.le_of_eq hb.out) _⟩
 clear hN hcl z0 y0 y1 hb0 hb1 hb2 hg3 hb02
 generalize w2.setCell ⟨b, 0, none⟩ (.slice (some ⟨g, 0, none⟩) l.length cap) = w4 at hN2 hb04 hb14 hb24 hB4 ⊢
 obtain ⟨cc, hcl, _, hcc, hfr⟩ := Kd.N_elem hN2 zObj (k : Int) (by omega) e4
 rw [show kObj.sz = 2 from rfl] at hcl
 obtain ⟨u0, u1, rfl⟩ : ∃ u0 u1, cc = [u0, u1] := by
  match cc, hcl with
  | [u0, u1], _ => exact ⟨u0, u1, rfl⟩
 have c0 : w4.cell? ⟨g, k * 2, none⟩ = some u0 := by have := hcc 0 _ rfl; simpa [show kObj.sz = 2 from rfl] using this
 have c1 : w4.cell? ⟨g, k * 2 + 1, none⟩ = some u1 := by have := hcc 1 _ rfl; simpa [show kObj.sz = 2 from rfl] using this
 have f0 : w4.frozen? ⟨g, k * 2, none⟩ = false := by have := hfr 0; simpa [show kObj.sz = 2 from rfl] using this
 have f1 : w4.frozen? ⟨g, k * 2 + 1, none⟩ = false := by have := hfr 1; simpa [show kObj.sz = 2 from rfl] using this
 have hX4 : Kd.FK kObj w4 (fun j => ¬ S1 j ∧ j < w.heap.size) x ([u0, u1].take 0 ++ [.slice B1 x.f0.length d1, .slice B2 x.f1.length d2] ++ [u0, u1].drop (0 + 2)) := Kd.FK_below hX.out hB4.out
 obtain ⟨hN5, hG5⟩ := Kd.N_seg hN2 (k : Int) (by omega) e4 (c := [u0, u1]) (seg := [.slice B1 x.f0.length d1, .slice B2 x.f1.length d2]) (j := 0) rfl hcc (show 0 + 2 ≤ 2 from Nat.le_refl 2) hX4 (fun j hj => ⟨hj.1, by have := hj.2; have := hb.out; omega⟩)
 replace hN5 : Kd.N kObj 71 ((w4.setCell ⟨g, k * 2, none⟩ (.slice B1 x.f0.length d1)).setCell ⟨g, k * 2 + 1, none⟩ (.slice B2 x.f1.length d2)) wa.heap.size (fun j => ¬ S1 j) (.slice (some ⟨g, 0, none⟩) l.length cap) (l.set k x) := hN5
 clear hG5 hX4 hcc hfr hcl hN2
 replace hN5 := Aside0.mk hN5
 have t0 : w4.cell? ⟨b, 0, none⟩ = some (.slice (some ⟨g, 0, none⟩) l.length cap) := blk_cell hb04 0
 have t1 : w4.cell? ⟨b + 1, 0, none⟩ = some (.slice B1 x.f0.length d1) := blk_cell hb14 0
 have t2 : w4.cell? ⟨b + 1, 1, none⟩ = some (.slice B2 x.f1.length d2) := blk_cell hb14 1
 go_upto_region 3 with (fail)
 have hb25 := blk_far (blk_far hb24 (p := ⟨g, k * 2, none⟩) (by simp; omega) (.slice B1 x.f0.length d1)) (p := ⟨g, k * 2 + 1, none⟩) (by simp; omega) (.slice B2 x.f1.length d2)
 have hb05 := blk_far (blk_far hb04 (p := ⟨g, k * 2, none⟩) (by simp; omega) (.slice B1 x.f0.length d1)) (p := ⟨g, k * 2 + 1, none⟩) (by simp; omega) (.slice B2 x.f1.length d2)
 have hB5 : Bel w ((w4.setCell ⟨g, k * 2, none⟩ (.slice B1 x.f0.length d1)).setCell ⟨g, k * 2 + 1, none⟩ (.slice B2 x.f1.length d2)) := ⟨(hB4.out.setCell (p := ⟨g, k * 2, none⟩) (by have := hb.out; show w.heap.size ≤ g; omega) _).setCell (p := ⟨g, k * 2 + 1, none⟩) (by have := hb.out; show w.heap.size ≤ g; omega) _⟩
 generalize (w4.setCell ⟨g, k * 2, none⟩ (.slice B1 x.f0.length d1)).setCell ⟨g, k * 2 + 1, none⟩ (.slice B2 x.f1.length d2) = w5 at hN5 hb25 hb05 hB5 ⊢
 clear hb04 hb14 hb24 c0 c1 f0 f1 t0 t1 t2
 have t0 : w5.cell? ⟨b, 0, none⟩ = some (.slice (some ⟨g, 0, none⟩) l.length cap) := blk_cell hb05 0
 have t1 : w5.cell? ⟨b + 1 + 1, 0, none⟩ = some (.slice none 0 0) := blk_cell hb25 0
 have t2 := blk_frozen hb25 0
 have hb26 := blk_set hb25 0 (.slice (some ⟨g, 0, none⟩) l.length cap)
 have hB6 : Bel w (w5.setCell ⟨b + 1 + 1, 0, none⟩ (.slice (some ⟨g, 0, none⟩) l.length cap)) := ⟨hB5.out.setCell (p := ⟨b + 1 + 1, 0, none⟩) (by have := hb.out; show w.heap.size ≤ b + 1 + 1; omega) _⟩
 have hN6 := Kd.N_far hN5.out (p := ⟨b + 1 + 1, 0, none⟩) (fun j hj q => hj ((hS1.out j).2 (.inr (by have q : j = b + 1 + 1 := q; omega)))) (.slice (some ⟨g, 0, none⟩) l.length cap)
 have hV : HV S (w5.setCell ⟨b + 1 + 1, 0, none⟩ (.slice (some ⟨g, 0, none⟩) l.length cap)) (.slice (some ⟨g, 0, none⟩) l.length cap) (l.set k x) := ⟨Kd.V_mono (Kd.N_V hN6) (fun j hj q => hj ((hS1.out j).2 (.inl q)))⟩
 replace hb26 := Aside0.mk hb26
 clear hN6 hN5 hb25 hb05
 go_wp2
 refine bodyPost_ret (results_cell_row rfl _ _ (b + 1 + 1) 30 #[.slice (some ⟨g, 0, none⟩) l.length cap] (0, 0) _ rfl hb26.out Try.underlying30 rfl (by kernel_rfl)) rfl ?_
 exact ⟨_, rfl, hV, hB6⟩
theorem putF_nil (h : List SObj) (l : List Int) (n : Int) (s : SObj) : putF h 0 l n s = (h, 14) := by
 have e : objE h 0 = 14 := by unfold objE; rw [if_neg (by omega)]
 unfold putF
 rw [e, if_pos (by decide)]
theorem fldE_cases (l : List Int) (n : Int) : (fldE l n = 0 ∧ 0 ≤ n ∧ n < l.length) ∨ fldE l n = 15 := by
 unfold fldE
 split
 ·rename_i h; exact .inl ⟨rfl, h⟩
 ·exact .inr rfl
theorem putF_bad {h : List SObj} {o : Int} (h1 : 1 ≤ o ∧ o ≤ h.length) {l : List Int} {n : Int} (e : fldE l n = 15) (s : SObj) : putF h o l n s = (h, 15) := by
 unfold putF
 rw [objE_in h1, if_neg (by simp), e, if_pos (by decide)]
theorem putF_good {h : List SObj} {o : Int} (h1 : 1 ≤ o ∧ o ≤ h.length) {l : List Int} {n : Int} (e : fldE l n = 0) (s : SObj) : putF h o l n s = (h.set (o - 1).toNat s, 0) := by
 unfold putF
 rw [objE_in h1, if_neg (by simp), e, if_neg (by simp)]
def StoreIs (S : Nat → Prop) (q : List SObj × Int) (w : World) (e : Ending) (w' : World) : Prop := ∃ v, e = .returned (.tuple #[.agg #[v], .int .i64 q.2]) ∧ HV S w' v q.1 ∧ Bel w w'
set_option maxHeartbeats 4000000 in
theorem Store_any (S : Nat → Prop) (A : Option Addr) (c : Nat) (l : List SObj) (o n v : Int) (w : World) (hS : Aside0 (∀ k, S k → k < w.heap.size)) (H : RdF S w A l) (hc : l.length ≤ c) (hp : Aside0 (HeapP l)) (hl : l.length ≤ 1000000) (h0 : 0 ≤ o) (h1 : o ≤ l.length)  :
  Calls Try.prog 76 #[.agg #[.slice A l.length c], .int .i64 o, .int .i64 n, .int .i64 v] w (StoreIs S (putI l o n v) w) := by
 by_cases hz : o = 0
 ·subst hz
  have e1 : putI l 0 n v = (l, 14) := putF_nil _ _ _ _
  rw [e1]
  obtain ⟨b, hb⟩ : ∃ b, w.heap.size = b := ⟨_, rfl⟩
  have hB1 := ((Bel.refl w).alloc (.cells #[.slice A l.length c] 30)).alloc (.cells #[.slice none 0 0] 30)
  have hb0 : ((w.alloc (.cells #[.slice A l.length c] 30)).alloc (.cells #[.slice none 0 0] 30)).heap[b]? = some (.cells #[.slice A l.length c] 30 (0, 0)) := heap_old (heap_new' hb.symm)
  have hb1 : ((w.alloc (.cells #[.slice A l.length c] 30)).alloc (.cells #[.slice none 0 0] 30)).heap[b + 1]? = some (.cells #[.slice none 0 0] 30 (0, 0)) := heap_new' (by simp [hb])
  go_enter Try.func76, Try.ntmps76
  go_upto_region 1 with (fail)
  generalize (w.alloc (.cells #[.slice A l.length c] 30)).alloc (.cells #[.slice none 0 0] 30) = wa at hB1 hb0 hb1 ⊢
  have z0 : wa.cell? ⟨b, 0, none⟩ = some (.slice A l.length c) := blk_cell hb0 0
  have hob := Aside0.mk (object_nil A c l wa (H.rd.step hB1) hp hl)
  replace hb := Aside0.mk hb
  go_upto_region 2 with (go_at_call 83; ((with_reducible refine hob.out.mono ?_); rintro e w2 ⟨rfl, hB2⟩))
  have hB3 := hB2.alloc (.cells #[.slice none 0 0, .slice none 0 0] 71)
  have hb6 := hB3.blk hb0
  have hb7 := hB3.blk hb1
  have hB7 := hB1.trans hB3
  generalize w2.alloc (.cells #[.slice none 0 0, .slice none 0 0] 71) = w3 at hB3 hb6 hb7 hB7 ⊢
  have hb8 := blk_set hb7 0 (.slice A l.length c)
  have hBz : Bel w (w3.setCell ⟨b + 1, 0, none⟩ (.slice A l.length c)) := ⟨hB7.out.setCell (p := ⟨b + 1, 0, none⟩) (by have := hb.out; show w.heap.size ≤ b + 1; omega) _⟩
  have x0 : w3.cell? ⟨b, 0, none⟩ = some (.slice A l.length c) := blk_cell hb6 0
  have x1 : w3.cell? ⟨b + 1, 0, none⟩ = some (.slice none 0 0) := blk_cell hb7 0
  have x2 := blk_frozen hb7 0
  go_wp2
  refine bodyPost_ret (results_cell_row2 rfl _ _ (b + 1) 30 #[.slice A l.length c] (0, 0) _ rfl hb8 Try.underlying30 rfl (by kernel_rfl)) rfl ?_
  exact ⟨_, rfl, HV.mk (H.step hBz) hc, hBz⟩
 ·obtain ⟨k, hk⟩ : ∃ k : Nat, o = (k : Int) + 1 := ⟨(o - 1).toNat, by omega⟩
  have hkl : k < l.length := by omega
  obtain ⟨x, hx⟩ : ∃ x, l[k] = x := ⟨_, rfl⟩
  have hxo : objAt l o = x := by rw [objAt_in hkl hk, hx]
  have hfd := Aside0.mk (fun (A1 : Option Addr) (c1 : Nat) (W : World) (h : RdI W A1 x.f1) => field_any A1 c1 x.f1 n W h)
  rcases fldE_cases x.f1 n with ⟨hf, hn0, hn1⟩ | hf
  ·have e1 : putI l o n v = (l.set k ⟨x.f0, x.f1.set n.toNat v⟩, 0) := by
    unfold putI
    rw [hxo, putF_good (by omega) hf, show (o - 1).toNat = k by omega]
   rw [e1]
   rw [hf, if_neg (by simp)] at hfd
   obtain ⟨y, hy⟩ : ∃ y, x.f1.getD n.toNat 0 = y := ⟨_, rfl⟩
   rw [hy] at hfd
   clear hy e1 hf
   have hxl : x.f0.length ≤ 8 ∧ x.f1.length ≤ 8 := by have := hp.out x (hx ▸ List.getElem_mem hkl); exact ⟨this.1, this.2.1⟩
   obtain ⟨b, hb⟩ : ∃ b, w.heap.size = b := ⟨_, rfl⟩
   have hB1 := ((Bel.refl w).alloc (.cells #[.slice A l.length c] 30)).alloc (.cells #[.slice none 0 0] 30)
   have hb0 : ((w.alloc (.cells #[.slice A l.length c] 30)).alloc (.cells #[.slice none 0 0] 30)).heap[b]? = some (.cells #[.slice A l.length c] 30 (0, 0)) := heap_old (heap_new' hb.symm)
   have hb1 : ((w.alloc (.cells #[.slice A l.length c] 30)).alloc (.cells #[.slice none 0 0] 30)).heap[b + 1]? = some (.cells #[.slice none 0 0] 30 (0, 0)) := heap_new' (by simp [hb])
   go_enter Try.func76, Try.ntmps76
   go_upto_region 1 with (fail)
   generalize (w.alloc (.cells #[.slice A l.length c] 30)).alloc (.cells #[.slice none 0 0] 30) = wa at hB1 hb0 hb1 ⊢
   have z0 : wa.cell? ⟨b, 0, none⟩ = some (.slice A l.length c) := blk_cell hb0 0
   obtain ⟨S1, hS1⟩ := more_out S b 2
   have H1 : RdF S1 w A l := ⟨Kd.F_mono (Kd.F_bound H.out) (fun k hk q => by rcases (hS1 k).1 q with q | q; exact hk.1 q; have := hk.2; omega)⟩
   have hS2 : Aside0 (∀ k, S1 k → k < wa.heap.size) := ⟨fun k hk => by
    have h3 := blk_lt hb1
    rcases (hS1 k).1 hk with q | q
    ·have := hS.out k q
     have := hB1.size
     omega
    ·omega⟩
   have hob := object_at S1 A c l k o wa (H1.step hB1) hp hl hkl hk
   rw [hx] at hob
   replace hob := Aside0.mk hob
   replace hS1 := Aside0.mk hS1
   replace hk := Aside0.mk hk
   replace hb := Aside0.mk hb
   clear hx hz
   go_upto_region 2 with (go_at_call 83; ((with_reducible refine hob.out.mono ?_); rintro e w2 ⟨A1, c1, A2, c2, rfl, ⟨r0, k0⟩, ⟨r1, k1⟩, hB2⟩))
   have hB3 := (Bel.refl w2).alloc (.cells #[.slice A1 x.f0.length c1, .slice A2 x.f1.length c2] 71)
   have hb3 := heap_alloc_new w2 (.cells #[.slice A1 x.f0.length c1, .slice A2 x.f1.length c2] 71)
   generalize w2.alloc (.cells #[.slice A1 x.f0.length c1, .slice A2 x.f1.length c2] 71) = w3 at hB3 hb3 ⊢
   obtain ⟨f, hfe⟩ : ∃ f, w2.heap.size = f := ⟨_, rfl⟩
   rw [hfe] at hb3 ⊢
   have z3 : w3.cell? ⟨f, 1, none⟩ = some (.slice A2 x.f1.length c2) := blk_cell hb3 1
   have z4 := blk_frozen hb3 1
   have hfc := Aside0.mk (hfd.out A2 c2 w3 (r1.rd.step hB3))
   have hcl := Aside0.mk (cloneInts_any A2 c2 x.f1 w3 (r1.rd.step hB3) (by omega))
   have z5 : w3.cell? ⟨b, 0, none⟩ = some (.slice A l.length c) := blk_cell ((hB2.trans hB3).blk hb0) 0
   have hfb : b + 2 ≤ f := by have := blk_lt (hB2.blk hb1); omega
   replace hfe := Aside0.mk hfe
   clear hfd hob
   go_upto_region 7 with (go_at_call 84; ((with_reducible refine hfc.out.mono ?_); rintro e w4 ⟨rfl, rfl⟩))
   go_upto_region 8 with (go_at_call 85; ((with_reducible refine hcl.out.mono ?_); rintro e w5 ⟨v5, rfl, hO5, hB5⟩; obtain ⟨g, cp, rfl, hg1, hg2, cells, hg3⟩ := Kd.R_form hO5.out (show 0 < x.f1.length by omega); have hf5 := hB5.blk hb3; have q0 : w5.cell? ⟨f, 1, none⟩ = some (.slice A2 x.f1.length c2) := blk_cell hf5 1; have q1 := blk_frozen hf5 1))
   have hfl := blk_lt hb3
   have hcp := (Kd.R_reads' hO5.out).2.1
   have hO6 := Kd.R_far (Kd.R_bound hO5.out) (p := ⟨f, 1, none⟩) (fun j hj => by have := hj.2.1; show j ≠ f; omega) (.slice (some ⟨g, 0, none⟩) x.f1.length cp)
   have hf6 := (blk_set hf5 1 (.slice (some ⟨g, 0, none⟩) x.f1.length cp)).trans rfl
   have hB6 : Bel w2 (w5.setCell ⟨f, 1, none⟩ (.slice (some ⟨g, 0, none⟩) x.f1.length cp)) := ⟨(hB3.trans hB5).out.setCell (p := ⟨f, 1, none⟩) (Nat.le_of_eq hfe.out) _⟩
   clear hf5 q0 q1 hO5 hcl hfc z3 z4 z5 hg3
   generalize w5.setCell ⟨f, 1, none⟩ (.slice (some ⟨g, 0, none⟩) x.f1.length cp) = w6 at hO6 hf6 hB6 ⊢
   obtain ⟨y0, y1⟩ := Kd.R_celln 0 hO6 n hn0 (by omega)
   have hO7 := Kd.R_putn hO6 n v
   have y2 : w6.cell? ⟨f, 1, none⟩ = some (.slice (some ⟨g, 0, none⟩) x.f1.length cp) := blk_cell hf6 1
   have hgf : f < g := by omega
   have hf7 := blk_far hf6 (p := ⟨g, n.toNat, none⟩) (by show f ≠ g; omega) (.int .i64 v)
   have hBq : Bel w2 (w6.setCell ⟨g, n.toNat, none⟩ (.int .i64 v)) := ⟨hB6.out.setCell (p := ⟨g, n.toNat, none⟩) (by have := hfe.out; show w2.heap.size ≤ g; omega) _⟩
   have hs6 := hBq.size
   have hFi : RdIF S1 (w6.setCell ⟨g, n.toNat, none⟩ (.int .i64 v)) (some ⟨g, 0, none⟩) (x.f1.set n.toNat v) := ⟨by
    have h := Kd.F_mono (ok' := fun k => ¬ S1 k) (Kd.R_F (Kd.R_bound hO7)) (fun j hj q => by
     have h3 := hj.2.1
     have h4 := hS2.out j q
     have h5 := hB2.size
     have := hfe.out
     omega)
    rw [List.length_set]
    exact h⟩
   clear hO6 hO7
   have t0 : w6.cell? ⟨b, 0, none⟩ = some (.slice A l.length c) := blk_cell (hB6.blk (hB2.blk hb0)) 0
   go_upto_region 9 with (fail)
   generalize w6.setCell ⟨g, n.toNat, none⟩ (.int .i64 v) = w7 at hf7 hBq hFi hs6 ⊢
   have hB7 := hB1.trans (hB2.trans hBq)
   have hS7 : Aside0 (∀ k, S1 k → k < w7.heap.size) := ⟨fun j q => by have := hS2.out j q; have := (hB2.trans hBq).size; omega⟩
   have hput := put_any S1 A c l k o ⟨x.f0, x.f1.set n.toNat v⟩ A1 (some ⟨g, 0, none⟩) c1 cp w7 hS7 (H1.step hB7) hl hkl hk.out (r0.step hBq) (by simp only [List.length_set]; first | exact k0 | omega) hFi (by simp only [List.length_set]; first | exact hcp | omega)
   simp only [List.length_set] at hput
   replace hput := Aside0.mk hput
   have t1 : w7.cell? ⟨b, 0, none⟩ = some (.slice A l.length c) := blk_cell (hBq.blk (hB2.blk hb0)) 0
   have t2 : w7.cell? ⟨f, 0, none⟩ = some (.slice A1 x.f0.length c1) := blk_cell hf7 0
   have t3 : w7.cell? ⟨f, 1, none⟩ = some (.slice (some ⟨g, 0, none⟩) x.f1.length cp) := blk_cell hf7 1
   have hb17 := hBq.blk (hB2.blk hb1)
   clear t0 y0 y1 y2 hf6 hB6
   go_wp2_with (go_at_call 86; ((with_reducible refine hput.out.mono ?_); rintro e w8 ⟨v8, rfl, hV8, hB8⟩; obtain ⟨A8, c8, rfl, hc8, hF8⟩ := hV8.reads; have hb18 := hB8.blk hb17; have p0 : w8.cell? ⟨b + 1, 0, none⟩ = some (.slice none 0 0) := blk_cell hb18 0; have p1 := blk_frozen hb18 0))
   have hll : (l.set k ⟨x.f0, x.f1.set n.toNat v⟩).length = l.length := List.length_set
   have hb19 := blk_set hb18 0 (.slice A8 l.length c8)
   refine bodyPost_ret (results_cell_row2 rfl _ _ (b + 1) 30 #[.slice A8 l.length c8] (0, 0) _ rfl hb19 Try.underlying30 rfl (by kernel_rfl)) rfl ?_
   refine ⟨_, rfl, ⟨A8, c8, by rw [hll], by rw [hll]; rw [hll] at hc8; exact hc8, ?_⟩, ⟨(hB7.trans hB8).out.setCell (p := ⟨b + 1, 0, none⟩) (by have := hb.out; show w.heap.size ≤ b + 1; omega) _⟩⟩
   exact Kd.F_mono (Kd.F_far hF8.out (p := ⟨b + 1, 0, none⟩) (fun j hj q => hj ((hS1.out j).2 (.inr (by have q : j = b + 1 := q; omega)))) (.slice A8 l.length c8)) (fun j hj q => hj ((hS1.out j).2 (.inl q)))
  ·have e1 : putI l o n v = (l, 15) := by
    unfold putI
    rw [hxo, putF_bad (by omega) hf]
   rw [e1]
   rw [hf, if_pos (by decide)] at hfd
   clear e1 hf
   obtain ⟨b, hb⟩ : ∃ b, w.heap.size = b := ⟨_, rfl⟩
   have hB1 := ((Bel.refl w).alloc (.cells #[.slice A l.length c] 30)).alloc (.cells #[.slice none 0 0] 30)
   have hb0 : ((w.alloc (.cells #[.slice A l.length c] 30)).alloc (.cells #[.slice none 0 0] 30)).heap[b]? = some (.cells #[.slice A l.length c] 30 (0, 0)) := heap_old (heap_new' hb.symm)
   have hb1 : ((w.alloc (.cells #[.slice A l.length c] 30)).alloc (.cells #[.slice none 0 0] 30)).heap[b + 1]? = some (.cells #[.slice none 0 0] 30 (0, 0)) := heap_new' (by simp [hb])
   go_enter Try.func76, Try.ntmps76
   go_upto_region 1 with (fail)
   generalize (w.alloc (.cells #[.slice A l.length c] 30)).alloc (.cells #[.slice none 0 0] 30) = wa at hB1 hb0 hb1 ⊢
   have z0 : wa.cell? ⟨b, 0, none⟩ = some (.slice A l.length c) := blk_cell hb0 0
   have hob := object_at S A c l k o wa (H.step hB1) hp hl hkl hk
   rw [hx] at hob
   replace hob := Aside0.mk hob
   replace hk := Aside0.mk hk
   replace hb := Aside0.mk hb
   clear hx hz
   go_upto_region 2 with (go_at_call 83; ((with_reducible refine hob.out.mono ?_); rintro e w2 ⟨A1, c1, A2, c2, rfl, ⟨r0, k0⟩, ⟨r1, k1⟩, hB2⟩))
   have hB3 := (Bel.refl w2).alloc (.cells #[.slice A1 x.f0.length c1, .slice A2 x.f1.length c2] 71)
   have hb3 := heap_alloc_new w2 (.cells #[.slice A1 x.f0.length c1, .slice A2 x.f1.length c2] 71)
   generalize w2.alloc (.cells #[.slice A1 x.f0.length c1, .slice A2 x.f1.length c2] 71) = w3 at hB3 hb3 ⊢
   have hb6 := (hB2.trans hB3).blk hb0
   have hb7 := (hB2.trans hB3).blk hb1
   have hB7 := hB1.trans (hB2.trans hB3)
   have z3 : w3.cell? ⟨w2.heap.size, 1, none⟩ = some (.slice A2 x.f1.length c2) := blk_cell hb3 1
   have hfc := Aside0.mk (hfd.out A2 c2 w3 (r1.rd.step hB3))
   clear hfd hob
   have hb8 := blk_set hb7 0 (.slice A l.length c)
   have hBz : Bel w (w3.setCell ⟨b + 1, 0, none⟩ (.slice A l.length c)) := ⟨hB7.out.setCell (p := ⟨b + 1, 0, none⟩) (by have := hb.out; show w.heap.size ≤ b + 1; omega) _⟩
   have x0 : w3.cell? ⟨b, 0, none⟩ = some (.slice A l.length c) := blk_cell hb6 0
   have x1 : w3.cell? ⟨b + 1, 0, none⟩ = some (.slice none 0 0) := blk_cell hb7 0
   have x2 := blk_frozen hb7 0
   go_wp2_with (go_at_call 84; ((with_reducible refine hfc.out.mono ?_); rintro e w4 ⟨rfl, rfl⟩))
   refine bodyPost_ret (results_cell_row2 rfl _ _ (b + 1) 30 #[.slice A l.length c] (0, 0) _ rfl hb8 Try.underlying30 rfl (by kernel_rfl)) rfl ?_
   exact ⟨_, rfl, HV.mk (H.step hBz) hc, hBz⟩
set_option maxHeartbeats 4000000 in
theorem Link_any (S : Nat → Prop) (A : Option Addr) (c : Nat) (l : List SObj) (o n v : Int) (w : World) (hS : Aside0 (∀ k, S k → k < w.heap.size)) (H : RdF S w A l) (hc : l.length ≤ c) (hp : Aside0 (HeapP l)) (hl : l.length ≤ 1000000) (h0 : 0 ≤ o) (h1 : o ≤ l.length) (hv0 : 0 ≤ v) (hv1 : v ≤ l.length) :
  Calls Try.prog 78 #[.agg #[.slice A l.length c], .int .i64 o, .int .i64 n, .int .i64 v] w (StoreIs S (putR l o n v) w) := by
 by_cases hz : o = 0
 ·subst hz
  have e1 : putR l 0 n v = (l, 14) := putF_nil _ _ _ _
  rw [e1]
  obtain ⟨b, hb⟩ : ∃ b, w.heap.size = b := ⟨_, rfl⟩
  have hB1 := ((Bel.refl w).alloc (.cells #[.slice A l.length c] 30)).alloc (.cells #[.slice none 0 0] 30)
  have hb0 : ((w.alloc (.cells #[.slice A l.length c] 30)).alloc (.cells #[.slice none 0 0] 30)).heap[b]? = some (.cells #[.slice A l.length c] 30 (0, 0)) := heap_old (heap_new' hb.symm)
  have hb1 : ((w.alloc (.cells #[.slice A l.length c] 30)).alloc (.cells #[.slice none 0 0] 30)).heap[b + 1]? = some (.cells #[.slice none 0 0] 30 (0, 0)) := heap_new' (by simp [hb])
  go_enter Try.func78, Try.ntmps78
  go_upto_region 1 with (fail)
  generalize (w.alloc (.cells #[.slice A l.length c] 30)).alloc (.cells #[.slice none 0 0] 30) = wa at hB1 hb0 hb1 ⊢
  have z0 : wa.cell? ⟨b, 0, none⟩ = some (.slice A l.length c) := blk_cell hb0 0
  have hob := Aside0.mk (object_nil A c l wa (H.rd.step hB1) hp hl)
  replace hb := Aside0.mk hb
  go_upto_region 2 with (go_at_call 83; ((with_reducible refine hob.out.mono ?_); rintro e w2 ⟨rfl, hB2⟩))
  have hB3 := hB2.alloc (.cells #[.slice none 0 0, .slice none 0 0] 71)
  have hb6 := hB3.blk hb0
  have hb7 := hB3.blk hb1
  have hB7 := hB1.trans hB3
  generalize w2.alloc (.cells #[.slice none 0 0, .slice none 0 0] 71) = w3 at hB3 hb6 hb7 hB7 ⊢
  have hb8 := blk_set hb7 0 (.slice A l.length c)
  have hBz : Bel w (w3.setCell ⟨b + 1, 0, none⟩ (.slice A l.length c)) := ⟨hB7.out.setCell (p := ⟨b + 1, 0, none⟩) (by have := hb.out; show w.heap.size ≤ b + 1; omega) _⟩
  have x0 : w3.cell? ⟨b, 0, none⟩ = some (.slice A l.length c) := blk_cell hb6 0
  have x1 : w3.cell? ⟨b + 1, 0, none⟩ = some (.slice none 0 0) := blk_cell hb7 0
  have x2 := blk_frozen hb7 0
  go_wp2
  refine bodyPost_ret (results_cell_row2 rfl _ _ (b + 1) 30 #[.slice A l.length c] (0, 0) _ rfl hb8 Try.underlying30 rfl (by kernel_rfl)) rfl ?_
  exact ⟨_, rfl, HV.mk (H.step hBz) hc, hBz⟩
 ·obtain ⟨k, hk⟩ : ∃ k : Nat, o = (k : Int) + 1 := ⟨(o - 1).toNat, by omega⟩
  have hkl : k < l.length := by omega
  obtain ⟨x, hx⟩ : ∃ x, l[k] = x := ⟨_, rfl⟩
  have hxo : objAt l o = x := by rw [objAt_in hkl hk, hx]
  have hfd := Aside0.mk (fun (A1 : Option Addr) (c1 : Nat) (W : World) (h : RdI W A1 x.f0) => field_any A1 c1 x.f0 n W h)
  have w0 : decide (v < 0) = false := (by simp; omega); have w1 : decide ((l.length : Int) < v) = false := (by simp; omega)
  rcases fldE_cases x.f0 n with ⟨hf, hn0, hn1⟩ | hf
  ·have e1 : putR l o n v = (l.set k ⟨x.f0.set n.toNat v, x.f1⟩, 0) := by
    unfold putR
    rw [hxo, putF_good (by omega) hf, show (o - 1).toNat = k by omega]
   rw [e1]
   rw [hf, if_neg (by simp)] at hfd
   obtain ⟨y, hy⟩ : ∃ y, x.f0.getD n.toNat 0 = y := ⟨_, rfl⟩
   rw [hy] at hfd
   clear hy e1 hf
   have hxl : x.f0.length ≤ 8 ∧ x.f1.length ≤ 8 := by have := hp.out x (hx ▸ List.getElem_mem hkl); exact ⟨this.1, this.2.1⟩
   obtain ⟨b, hb⟩ : ∃ b, w.heap.size = b := ⟨_, rfl⟩
   have hB1 := ((Bel.refl w).alloc (.cells #[.slice A l.length c] 30)).alloc (.cells #[.slice none 0 0] 30)
   have hb0 : ((w.alloc (.cells #[.slice A l.length c] 30)).alloc (.cells #[.slice none 0 0] 30)).heap[b]? = some (.cells #[.slice A l.length c] 30 (0, 0)) := heap_old (heap_new' hb.symm)
   have hb1 : ((w.alloc (.cells #[.slice A l.length c] 30)).alloc (.cells #[.slice none 0 0] 30)).heap[b + 1]? = some (.cells #[.slice none 0 0] 30 (0, 0)) := heap_new' (by simp [hb])
   go_enter Try.func78, Try.ntmps78
   go_upto_region 1 with (fail)
   generalize (w.alloc (.cells #[.slice A l.length c] 30)).alloc (.cells #[.slice none 0 0] 30) = wa at hB1 hb0 hb1 ⊢
   have z0 : wa.cell? ⟨b, 0, none⟩ = some (.slice A l.length c) := blk_cell hb0 0
   obtain ⟨S1, hS1⟩ := more_out S b 2
   have H1 : RdF S1 w A l := ⟨Kd.F_mono (Kd.F_bound H.out) (fun k hk q => by rcases (hS1 k).1 q with q | q; exact hk.1 q; have := hk.2; omega)⟩
   have hS2 : Aside0 (∀ k, S1 k → k < wa.heap.size) := ⟨fun k hk => by
    have h3 := blk_lt hb1
    rcases (hS1 k).1 hk with q | q
    ·have := hS.out k q
     have := hB1.size
     omega
    ·omega⟩
   have hob := object_at S1 A c l k o wa (H1.step hB1) hp hl hkl hk
   rw [hx] at hob
   replace hob := Aside0.mk hob
   replace hS1 := Aside0.mk hS1
   replace hk := Aside0.mk hk
   replace hb := Aside0.mk hb
   clear hx hz
   go_upto_region 2 with (go_at_call 83; ((with_reducible refine hob.out.mono ?_); rintro e w2 ⟨A1, c1, A2, c2, rfl, ⟨r0, k0⟩, ⟨r1, k1⟩, hB2⟩))
   have hB3 := (Bel.refl w2).alloc (.cells #[.slice A1 x.f0.length c1, .slice A2 x.f1.length c2] 71)
   have hb3 := heap_alloc_new w2 (.cells #[.slice A1 x.f0.length c1, .slice A2 x.f1.length c2] 71)
   generalize w2.alloc (.cells #[.slice A1 x.f0.length c1, .slice A2 x.f1.length c2] 71) = w3 at hB3 hb3 ⊢
   obtain ⟨f, hfe⟩ : ∃ f, w2.heap.size = f := ⟨_, rfl⟩
   rw [hfe] at hb3 ⊢
   have z3 : w3.cell? ⟨f, 0, none⟩ = some (.slice A1 x.f0.length c1) := blk_cell hb3 0
   have z4 := blk_frozen hb3 0
   have hfc := Aside0.mk (hfd.out A1 c1 w3 (r0.rd.step hB3))
   have hcl := Aside0.mk (cloneInts_any A1 c1 x.f0 w3 (r0.rd.step hB3) (by omega))
   have z5 : w3.cell? ⟨b, 0, none⟩ = some (.slice A l.length c) := blk_cell ((hB2.trans hB3).blk hb0) 0
   have hfb : b + 2 ≤ f := by have := blk_lt (hB2.blk hb1); omega
   replace hfe := Aside0.mk hfe
   clear hfd hob
   go_upto_region 9 with (go_at_call 84; ((with_reducible refine hfc.out.mono ?_); rintro e w4 ⟨rfl, rfl⟩))
   go_upto_region 10 with (go_at_call 85; ((with_reducible refine hcl.out.mono ?_); rintro e w5 ⟨v5, rfl, hO5, hB5⟩; obtain ⟨g, cp, rfl, hg1, hg2, cells, hg3⟩ := Kd.R_form hO5.out (show 0 < x.f0.length by omega); have hf5 := hB5.blk hb3; have q0 : w5.cell? ⟨f, 0, none⟩ = some (.slice A1 x.f0.length c1) := blk_cell hf5 0; have q1 := blk_frozen hf5 0))
   have hfl := blk_lt hb3
   have hcp := (Kd.R_reads' hO5.out).2.1
   have hO6 := Kd.R_far (Kd.R_bound hO5.out) (p := ⟨f, 0, none⟩) (fun j hj => by have := hj.2.1; show j ≠ f; omega) (.slice (some ⟨g, 0, none⟩) x.f0.length cp)
   have hf6 := (blk_set hf5 0 (.slice (some ⟨g, 0, none⟩) x.f0.length cp)).trans rfl
   have hB6 : Bel w2 (w5.setCell ⟨f, 0, none⟩ (.slice (some ⟨g, 0, none⟩) x.f0.length cp)) := ⟨(hB3.trans hB5).out.setCell (p := ⟨f, 0, none⟩) (Nat.le_of_eq hfe.out) _⟩
   clear hf5 q0 q1 hO5 hcl hfc z3 z4 z5 hg3
   generalize w5.setCell ⟨f, 0, none⟩ (.slice (some ⟨g, 0, none⟩) x.f0.length cp) = w6 at hO6 hf6 hB6 ⊢
   obtain ⟨y0, y1⟩ := Kd.R_celln 0 hO6 n hn0 (by omega)
   have hO7 := Kd.R_putn hO6 n v
   have y2 : w6.cell? ⟨f, 0, none⟩ = some (.slice (some ⟨g, 0, none⟩) x.f0.length cp) := blk_cell hf6 0
   have hgf : f < g := by omega
   have hf7 := blk_far hf6 (p := ⟨g, n.toNat, none⟩) (by show f ≠ g; omega) (.int .i64 v)
   have hBq : Bel w2 (w6.setCell ⟨g, n.toNat, none⟩ (.int .i64 v)) := ⟨hB6.out.setCell (p := ⟨g, n.toNat, none⟩) (by have := hfe.out; show w2.heap.size ≤ g; omega) _⟩
   have hs6 := hBq.size
   have hFi : RdIF S1 (w6.setCell ⟨g, n.toNat, none⟩ (.int .i64 v)) (some ⟨g, 0, none⟩) (x.f0.set n.toNat v) := ⟨by
    have h := Kd.F_mono (ok' := fun k => ¬ S1 k) (Kd.R_F (Kd.R_bound hO7)) (fun j hj q => by
     have h3 := hj.2.1
     have h4 := hS2.out j q
     have h5 := hB2.size
     have := hfe.out
     omega)
    rw [List.length_set]
    exact h⟩
   clear hO6 hO7
   have t0 : w6.cell? ⟨b, 0, none⟩ = some (.slice A l.length c) := blk_cell (hB6.blk (hB2.blk hb0)) 0
   go_upto_region 11 with (fail)
   generalize w6.setCell ⟨g, n.toNat, none⟩ (.int .i64 v) = w7 at hf7 hBq hFi hs6 ⊢
   have hB7 := hB1.trans (hB2.trans hBq)
   have hS7 : Aside0 (∀ k, S1 k → k < w7.heap.size) := ⟨fun j q => by have := hS2.out j q; have := (hB2.trans hBq).size; omega⟩
   have hput := put_any S1 A c l k o ⟨x.f0.set n.toNat v, x.f1⟩ (some ⟨g, 0, none⟩) A2 cp c2 w7 hS7 (H1.step hB7) hl hkl hk.out hFi (by simp only [List.length_set]; first | exact hcp | omega) (r1.step hBq) (by simp only [List.length_set]; first | exact k1 | omega)
   simp only [List.length_set] at hput
   replace hput := Aside0.mk hput
   have t1 : w7.cell? ⟨b, 0, none⟩ = some (.slice A l.length c) := blk_cell (hBq.blk (hB2.blk hb0)) 0
   have t2 : w7.cell? ⟨f, 0, none⟩ = some (.slice (some ⟨g, 0, none⟩) x.f0.length cp) := blk_cell hf7 0
   have t3 : w7.cell? ⟨f, 1, none⟩ = some (.slice A2 x.f1.length c2) := blk_cell hf7 1
   have hb17 := hBq.blk (hB2.blk hb1)
   clear t0 y0 y1 y2 hf6 hB6
   go_wp2_with (go_at_call 86; ((with_reducible refine hput.out.mono ?_); rintro e w8 ⟨v8, rfl, hV8, hB8⟩; obtain ⟨A8, c8, rfl, hc8, hF8⟩ := hV8.reads; have hb18 := hB8.blk hb17; have p0 : w8.cell? ⟨b + 1, 0, none⟩ = some (.slice none 0 0) := blk_cell hb18 0; have p1 := blk_frozen hb18 0))
   have hll : (l.set k ⟨x.f0.set n.toNat v, x.f1⟩).length = l.length := List.length_set
   have hb19 := blk_set hb18 0 (.slice A8 l.length c8)
   refine bodyPost_ret (results_cell_row2 rfl _ _ (b + 1) 30 #[.slice A8 l.length c8] (0, 0) _ rfl hb19 Try.underlying30 rfl (by kernel_rfl)) rfl ?_
   refine ⟨_, rfl, ⟨A8, c8, by rw [hll], by rw [hll]; rw [hll] at hc8; exact hc8, ?_⟩, ⟨(hB7.trans hB8).out.setCell (p := ⟨b + 1, 0, none⟩) (by have := hb.out; show w.heap.size ≤ b + 1; omega) _⟩⟩
   exact Kd.F_mono (Kd.F_far hF8.out (p := ⟨b + 1, 0, none⟩) (fun j hj q => hj ((hS1.out j).2 (.inr (by have q : j = b + 1 := q; omega)))) (.slice A8 l.length c8)) (fun j hj q => hj ((hS1.out j).2 (.inl q)))
  ·have e1 : putR l o n v = (l, 15) := by
    unfold putR
    rw [hxo, putF_bad (by omega) hf]
   rw [e1]
   rw [hf, if_pos (by decide)] at hfd
   clear e1 hf
   obtain ⟨b, hb⟩ : ∃ b, w.heap.size = b := ⟨_, rfl⟩
   have hB1 := ((Bel.refl w).alloc (.cells #[.slice A l.length c] 30)).alloc (.cells #[.slice none 0 0] 30)
   have hb0 : ((w.alloc (.cells #[.slice A l.length c] 30)).alloc (.cells #[.slice none 0 0] 30)).heap[b]? = some (.cells #[.slice A l.length c] 30 (0, 0)) := heap_old (heap_new' hb.symm)
   have hb1 : ((w.alloc (.cells #[.slice A l.length c] 30)).alloc (.cells #[.slice none 0 0] 30)).heap[b + 1]? = some (.cells #[.slice none 0 0] 30 (0, 0)) := heap_new' (by simp [hb])
   go_enter Try.func78, Try.ntmps78
   go_upto_region 1 with (fail)
   generalize (w.alloc (.cells #[.slice A l.length c] 30)).alloc (.cells #[.slice none 0 0] 30) = wa at hB1 hb0 hb1 ⊢
   have z0 : wa.cell? ⟨b, 0, none⟩ = some (.slice A l.length c) := blk_cell hb0 0
   have hob := object_at S A c l k o wa (H.step hB1) hp hl hkl hk
   rw [hx] at hob
   replace hob := Aside0.mk hob
   replace hk := Aside0.mk hk
   replace hb := Aside0.mk hb
   clear hx hz
   go_upto_region 2 with (go_at_call 83; ((with_reducible refine hob.out.mono ?_); rintro e w2 ⟨A1, c1, A2, c2, rfl, ⟨r0, k0⟩, ⟨r1, k1⟩, hB2⟩))
   have hB3 := (Bel.refl w2).alloc (.cells #[.slice A1 x.f0.length c1, .slice A2 x.f1.length c2] 71)
   have hb3 := heap_alloc_new w2 (.cells #[.slice A1 x.f0.length c1, .slice A2 x.f1.length c2] 71)
   generalize w2.alloc (.cells #[.slice A1 x.f0.length c1, .slice A2 x.f1.length c2] 71) = w3 at hB3 hb3 ⊢
   have hb6 := (hB2.trans hB3).blk hb0
   have hb7 := (hB2.trans hB3).blk hb1
   have hB7 := hB1.trans (hB2.trans hB3)
   have z3 : w3.cell? ⟨w2.heap.size, 0, none⟩ = some (.slice A1 x.f0.length c1) := blk_cell hb3 0
   have hfc := Aside0.mk (hfd.out A1 c1 w3 (r0.rd.step hB3))
   clear hfd hob
   have hb8 := blk_set hb7 0 (.slice A l.length c)
   have hBz : Bel w (w3.setCell ⟨b + 1, 0, none⟩ (.slice A l.length c)) := ⟨hB7.out.setCell (p := ⟨b + 1, 0, none⟩) (by have := hb.out; show w.heap.size ≤ b + 1; omega) _⟩
   have x0 : w3.cell? ⟨b, 0, none⟩ = some (.slice A l.length c) := blk_cell hb6 0
   have x1 : w3.cell? ⟨b + 1, 0, none⟩ = some (.slice none 0 0) := blk_cell hb7 0
   have x2 := blk_frozen hb7 0
   go_wp2_with (go_at_call 84; ((with_reducible refine hfc.out.mono ?_); rintro e w4 ⟨rfl, rfl⟩))
   refine bodyPost_ret (results_cell_row2 rfl _ _ (b + 1) 30 #[.slice A l.length c] (0, 0) _ rfl hb8 Try.underlying30 rfl (by kernel_rfl)) rfl ?_
   exact ⟨_, rfl, HV.mk (H.step hBz) hc, hBz⟩
def kPtr : Kd Nat := Kd.scalar (fun b => .pointer (some ⟨b, 0, none⟩)) (fun _ => rfl)
def valCells (vs : List SVal) : List Value := vs.flatMap fun v => [.int .i64 v.f0, .int .i64 v.f1, .int .i64 v.f2]
theorem valCells_len (vs : List SVal) : (valCells vs).length = 3 * vs.length := by
 induction vs with
 | nil => rfl
 | cons v r ih => simp only [valCells, List.flatMap_cons, List.length_append, List.length_cons, List.length_nil] at ih ⊢; omega
theorem valCells_at (vs : List SVal) : ∀ (i : Nat) (h : i < vs.length), (valCells vs)[i * 3]? = some (.int .i64 vs[i].f0) ∧ (valCells vs)[i * 3 + 1]? = some (.int .i64 vs[i].f1) ∧ (valCells vs)[i * 3 + 2]? = some (.int .i64 vs[i].f2) := by
 induction vs with
 | nil => intro i h; cases h
 | cons v r ih =>
  intro i h
  cases i with
  | zero => exact ⟨rfl, rfl, rfl⟩
  | succ i =>
   have hh := ih i (by simpa using h)
   have e : valCells (v :: r) = .int .i64 v.f0 :: .int .i64 v.f1 :: .int .i64 v.f2 :: valCells r := rfl
   rw [e]
   rw [show (i + 1) * 3 = i * 3 + 1 + 1 + 1 by omega, show i * 3 + 1 + 1 + 1 + 1 = (i * 3 + 1) + 1 + 1 + 1 by omega, show i * 3 + 1 + 1 + 1 + 2 = (i * 3 + 2) + 1 + 1 + 1 by omega]
   simpa only [List.getElem?_cons_succ, List.getElem_cons_succ] using hh
theorem valCells_set (vs : List SVal) : ∀ (i : Nat) (h : i < vs.length) (v : SVal), valCells (vs.set i v) = (((valCells vs).set (i * 3) (.int .i64 v.f0)).set (i * 3 + 1) (.int .i64 v.f1)).set (i * 3 + 2) (.int .i64 v.f2) := by
 induction vs with
 | nil => intro i h; cases h
 | cons u r ih =>
  intro i h v
  have e : valCells (u :: r) = .int .i64 u.f0 :: .int .i64 u.f1 :: .int .i64 u.f2 :: valCells r := rfl
  cases i with
  | zero => rw [e]; rfl
  | succ i =>
   have hh := ih i (by simpa using h) v
   have e2 : valCells ((u :: r).set (i + 1) v) = .int .i64 u.f0 :: .int .i64 u.f1 :: .int .i64 u.f2 :: valCells (r.set i v) := rfl
   rw [e, e2, hh]
   rw [show (i + 1) * 3 = i * 3 + 1 + 1 + 1 by omega, show i * 3 + 1 + 1 + 1 + 1 = (i * 3 + 1) + 1 + 1 + 1 by omega, show i * 3 + 1 + 1 + 1 + 2 = (i * 3 + 2) + 1 + 1 + 1 by omega]
   rfl
abbrev ValsAt (W : World) (b : Nat) (vs : List SVal) : Prop := W.heap[b]? = some (.cells (valCells vs).toArray 89 (0, 0))
theorem ValsAt.at_ {W : World} {b : Nat} {vs : List SVal} (h : ValsAt W b vs) (i : Nat) (hi : i < vs.length) : W.cell? ⟨b, i * 3, none⟩ = some (.int .i64 vs[i].f0) ∧ W.cell? ⟨b, i * 3 + 1, none⟩ = some (.int .i64 vs[i].f1) ∧ W.cell? ⟨b, i * 3 + 2, none⟩ = some (.int .i64 vs[i].f2) := by
 obtain ⟨h0, h1, h2⟩ := valCells_at vs i hi
 refine ⟨?_, ?_, ?_⟩ <;> rw [blk_cell h] <;> simpa using by assumption
theorem ValsAt.put {W : World} {b : Nat} {vs : List SVal} (h : ValsAt W b vs) (i : Nat) (hi : i < vs.length) (v : SVal) :
  ValsAt (((W.setCell ⟨b, i * 3, none⟩ (.int .i64 v.f0)).setCell ⟨b, i * 3 + 1, none⟩ (.int .i64 v.f1)).setCell ⟨b, i * 3 + 2, none⟩ (.int .i64 v.f2)) b (vs.set i v) := by
 have h1 := blk_set (blk_set (blk_set h (i * 3) (.int .i64 v.f0)) (i * 3 + 1) (.int .i64 v.f1)) (i * 3 + 2) (.int .i64 v.f2)
 show _ = some _
 rw [h1, valCells_set vs i hi v]
 simp
theorem KO.set3 (b i j k : Nat) (w : World) (u v x : Value) : KO b w (((w.setCell ⟨b, i, none⟩ u).setCell ⟨b, j, none⟩ v).setCell ⟨b, k, none⟩ x) := ((KO.set b i w u).trans (KO.set b j _ v)).trans (KO.set b k _ x)
structure FrAt (w0 : World) (p : SProg) (W : World) (b : Nat × Nat) (f : VFr) : Prop where
 frame : ∃ k0 k1 k2 k3 A4 c4, W.heap[b.1]? = some (.cells #[k0, k1, k2, k3, .slice A4 (fnAt p f.fn).f4.length c4, .slice (some ⟨b.2, 0, none⟩) f.vars.length f.vars.length, .int .i64 f.blk, .int .i64 f.pos, .int .i64 f.want] 122 (0, 0)) ∧ Rd kBlock w0 A4 (fnAt p f.fn).f4
 vars : ValsAt W b.2 f.vars
inductive Frames (w0 : World) (p : SProg) (W : World) : List (Nat × Nat) → List VFr → Prop where
 | nil : Frames w0 p W [] []
 | cons {b : Nat × Nat} {f : VFr} {bs : List (Nat × Nat)} {fs : List VFr} (h : FrAt w0 p W b f) (r : Frames w0 p W bs fs) : Frames w0 p W (b :: bs) (f :: fs)
theorem FrAt.keep {w0 : World} {p : SProg} {W W1 : World} {b : Nat × Nat} {f : VFr} (h : FrAt w0 p W b f) (h1 : W1.heap[b.1]? = W.heap[b.1]?) (h2 : W1.heap[b.2]? = W.heap[b.2]?) : FrAt w0 p W1 b f := by
 obtain ⟨⟨k0, k1, k2, k3, A4, c4, q, r⟩, hv⟩ := h
 exact ⟨⟨k0, k1, k2, k3, A4, c4, h1.trans q, r⟩, h2.trans hv⟩
theorem Frames.keep {w0 : World} {p : SProg} {W W1 : World} {bs : List (Nat × Nat)} {fs : List VFr} (h : Frames w0 p W bs fs) (hk : ∀ b ∈ bs, W1.heap[b.1]? = W.heap[b.1]? ∧ W1.heap[b.2]? = W.heap[b.2]?) : Frames w0 p W1 bs fs := by
 induction h with
 | nil => exact .nil
 | cons h r ih => exact .cons (h.keep (hk _ (List.mem_cons_self ..)).1 (hk _ (List.mem_cons_self ..)).2) (ih (fun b hb => hk b (List.mem_cons_of_mem _ hb)))
theorem Frames.typed {w0 : World} {p : SProg} {W : World} {bs : List (Nat × Nat)} {fs : List VFr} (h : Frames w0 p W bs fs) : ∀ b ∈ bs, (∃ cs, W.heap[b.1]? = some (.cells cs 122 (0, 0))) ∧ ∃ cs, W.heap[b.2]? = some (.cells cs 89 (0, 0)) := by
 induction h with
 | nil => intro b hb; cases hb
 | cons h r ih =>
  intro b hb
  rcases List.mem_cons.1 hb with rfl | hb
  ·obtain ⟨_, _, _, _, _, _, q, _⟩ := h.frame
   exact ⟨⟨_, q⟩, ⟨_, h.vars⟩⟩
  ·exact ih b hb
theorem two_types {W : World} {b c : Nat} {cs ds : Array Value} {s t : Nat} {fr fr' : Nat × Nat} (h : W.heap[b]? = some (.cells cs s fr)) (k : W.heap[c]? = some (.cells ds t fr')) (hst : s ≠ t) : b ≠ c := fun e => by
 subst e
 rw [h] at k
 injection k with k
 injection k with _ k _
 exact hst k
theorem OwnAt.koE {α : Type} {d : Kd α} {e base b : Nat} {W W1 : World} {v : Value} {xs : List α} (h : OwnAt d e base W v xs) (hE : d.E = []) (k : KO b W W1) (hb : v.ownBlock ≠ some b) : OwnAt d e base W1 v xs :=
 ⟨Kd.R_mono (Kd.R_step (Kd.R_tight hE h.out) (fun j hj hlt => k.keep j hlt (fun q => hb (by rw [← q]; exact hj.symm)))) (fun _ _ => trivial)⟩
theorem OwnAt.ne {α : Type} {d : Kd α} {e base b t : Nat} {W : World} {v : Value} {xs : List α} {cs : Array Value} {fr : Nat × Nat} (h : OwnAt d e base W v xs) (hb : W.heap[b]? = some (.cells cs t fr)) (ht : e ≠ t) : v.ownBlock ≠ some b := fun q => by
 obtain ⟨cells, hc⟩ := Kd.R_typed h.out b q
 exact two_types hc hb ht rfl
theorem HV.ko {S : Nat → Prop} {b : Nat} {W W1 : World} {v : Value} {l : List SObj} (h : HV S W v l) (k : KO b W W1) (hb : S b) : HV S W1 v l := ⟨Kd.V_step h.out (fun j hj hlt => k.keep j hlt (fun q => hj (q ▸ hb)))⟩
theorem HV.more {S S1 : Nat → Prop} {W : World} {v : Value} {l : List SObj} (h : HV S W v l) (hs : ∀ k, S1 k → S k ∨ W.heap.size ≤ k) : HV S1 W v l := ⟨Kd.V_mono (Kd.V_bound h.out) (fun k hk q => by rcases hs k q with q | q; exact hk.1 q; have := hk.2; omega)⟩
structure CM (w0 : World) (p : SProg) (mb : Nat) (W : World) (s : VSt) (fs : List (Nat × Nat)) (sv ev hv : Value) (S : Nat → Prop) : Prop where
 bel : Bel w0 W
 blk : ∃ PA pc, W.heap[mb]? = some (.cells #[.slice PA p.f0.length pc, sv, hv, ev, .int .i64 s.fin, .int .i64 s.val, .int .i64 s.code, .int .i64 s.steps] 67 (0, 0)) ∧ Rd kFunc w0 PA p.f0
 stack : OwnAt kPtr 120 w0.heap.size W sv (fs.reverse.map fun b => b.1)
 evs : OwnAt (Kd.int .i64) 3 w0.heap.size W ev s.evs
 heap : HV S W hv s.heap
 frames : Frames w0 p W fs s.stack
 nd1 : (fs.map fun b => b.1).Nodup
 nd2 : (fs.map fun b => b.2).Nodup
 base : w0.heap.size ≤ mb ∧ ∀ b ∈ fs, w0.heap.size ≤ b.1 ∧ w0.heap.size ≤ b.2
 sb : ∀ k, S k → k < W.heap.size
 sm : S mb
 ss : ∀ k, sv.ownBlock = some k → S k
 se : ∀ k, ev.ownBlock = some k → S k
 sf : ∀ b ∈ fs, S b.1 ∧ S b.2
 old : ∀ k, k < w0.heap.size → S k
section
variable {w0 : World} {p : SProg} {mb : Nat} {W W1 : World} {s s1 : VSt} {fs : List (Nat × Nat)} {sv ev hv : Value} {S : Nat → Prop}
theorem CM.step (h : CM w0 p mb W s fs sv ev hv S) (k : Bel W W1) : CM w0 p mb W1 s fs sv ev hv S := by
 obtain ⟨PA, pc, hb, hr⟩ := h.blk
 exact ⟨h.bel.trans k, ⟨PA, pc, k.blk hb, hr⟩, h.stack.step k, h.evs.step k, h.heap.step k, h.frames.keep (fun b hb => by
  obtain ⟨⟨c1, h1⟩, c2, h2⟩ := h.frames.typed b hb
  exact ⟨(k.blk h1).trans h1.symm, (k.blk h2).trans h2.symm⟩), h.nd1, h.nd2, h.base, fun j hj => Nat.lt_of_lt_of_le (h.sb j hj) k.size, h.sm, h.ss, h.se, h.sf, h.old⟩
theorem CM.setM (h : CM w0 p mb W s fs sv ev hv S) (k : KO mb W W1) (hs : s1.stack = s.stack) (he : s1.evs = s.evs) {hv1 : Value} (hh : HV S W1 hv1 s1.heap)
  (hb : ∀ PA pc, W.heap[mb]? = some (.cells #[.slice PA p.f0.length pc, sv, hv, ev, .int .i64 s.fin, .int .i64 s.val, .int .i64 s.code, .int .i64 s.steps] 67 (0, 0)) → W1.heap[mb]? = some (.cells #[.slice PA p.f0.length pc, sv, hv1, ev, .int .i64 s1.fin, .int .i64 s1.val, .int .i64 s1.code, .int .i64 s1.steps] 67 (0, 0))) : CM w0 p mb W1 s1 fs sv ev hv1 S := by
 obtain ⟨PA, pc, hm, hr⟩ := h.blk
 refine ⟨k.bel h.bel h.base.1, ⟨PA, pc, hb PA pc hm, hr⟩, h.stack.koE rfl k (h.stack.ne hm (by decide)), by rw [he]; exact h.evs.koE rfl k (h.evs.ne hm (by decide)), hh, ?_, h.nd1, h.nd2, h.base, fun j hj => Nat.lt_of_lt_of_le (h.sb j hj) k.size, h.sm, h.ss, h.se, h.sf, h.old⟩
 rw [hs]
 exact h.frames.keep (fun b hb => by
  obtain ⟨⟨c1, h1⟩, c2, h2⟩ := h.frames.typed b hb
  exact ⟨k.keep _ (blk_lt h1) (two_types h1 hm (by decide)), k.keep _ (blk_lt h2) (two_types h2 hm (by decide))⟩)
end
section
variable {w0 : World} {p : SProg} {mb : Nat} {W W1 W2 W3 : World} {s s1 : VSt} {fs : List (Nat × Nat)} {sv ev hv : Value} {S : Nat → Prop} {f f1 : VFr} {r : List VFr} {fb vb : Nat}
theorem CM.top (h : CM w0 p mb W s fs sv ev hv S) (hst : s.stack = f :: r) : ∃ fb vb fs1, fs = (fb, vb) :: fs1 ∧ FrAt w0 p W (fb, vb) f := by
 have q := h.frames
 rw [hst] at q
 cases q with
 | cons hf hr => rename_i b bs; exact ⟨b.1, b.2, bs, rfl, hf⟩
theorem CM.len (h : CM w0 p mb W s fs sv ev hv S) : fs.length = s.stack.length := by
 have q := h.frames
 clear h
 generalize s.stack = l at q
 induction q with
 | nil => rfl
 | cons _ _ ih => simp [ih]
theorem CM.rest (h : CM w0 p mb W s ((fb, vb) :: fs) sv ev hv S) (hst : s.stack = f :: r) (k : ∀ c, c ≠ fb → c ≠ vb → c < W.heap.size → W1.heap[c]? = W.heap[c]?) : Frames w0 p W1 fs r := by
 have q := h.frames
 rw [hst] at q
 cases q with
 | cons hf hr =>
  refine hr.keep (fun b hb => ?_)
  obtain ⟨⟨c1, h1⟩, c2, h2⟩ := hr.typed b hb
  obtain ⟨_, _, _, _, _, _, t1, _⟩ := hf.frame
  have t2 := hf.vars
  have n1 := h.nd1
  have n2 := h.nd2
  simp only [List.map_cons, List.nodup_cons] at n1 n2
  refine ⟨k _ (fun e => n1.1 (List.mem_map.2 ⟨b, hb, e⟩)) (two_types h1 t2 (by decide)) (blk_lt h1), k _ (two_types h2 t1 (by decide)) (fun e => n2.1 (List.mem_map.2 ⟨b, hb, e⟩)) (blk_lt h2)⟩
theorem CM.setF (h : CM w0 p mb W s ((fb, vb) :: fs) sv ev hv S) (hst : s.stack = f :: r) (hfn : f1.fn = f.fn) (hvs : f1.vars = f.vars) (k : KO fb W W1)
  (hb : ∀ k0 k1 k2 k3 k4 k5, W.heap[fb]? = some (.cells #[k0, k1, k2, k3, k4, k5, .int .i64 f.blk, .int .i64 f.pos, .int .i64 f.want] 122 (0, 0)) → W1.heap[fb]? = some (.cells #[k0, k1, k2, k3, k4, k5, .int .i64 f1.blk, .int .i64 f1.pos, .int .i64 f1.want] 122 (0, 0))) : CM w0 p mb W1 { s with stack := f1 :: r } ((fb, vb) :: fs) sv ev hv S := by
 obtain ⟨PA, pc, hm, hr⟩ := h.blk
 obtain ⟨_, _, _, q0, hf⟩ := h.top hst
 injection q0 with q0 q1
 cases q0
 obtain ⟨k0, k1, k2, k3, A4, c4, hfr, hrd⟩ := hf.frame
 have t2 := hf.vars
 refine ⟨k.bel h.bel (h.base.2 _ (List.mem_cons_self ..)).1, ⟨PA, pc, k.blk hm (two_types hm hfr (by decide)), hr⟩, h.stack.koE rfl k (h.stack.ne hfr (by decide)), h.evs.koE rfl k (h.evs.ne hfr (by decide)), h.heap.ko k (h.sf _ (List.mem_cons_self ..)).1, ?_, h.nd1, h.nd2, h.base, fun j hj => Nat.lt_of_lt_of_le (h.sb j hj) k.size, h.sm, h.ss, h.se, h.sf, h.old⟩
 refine .cons ⟨⟨k0, k1, k2, k3, A4, c4, ?_, by rw [hfn]; exact hrd⟩, ?_⟩ (h.rest hst (fun c h1 _ h3 => k.keep c h3 h1))
 ·rw [hfn, hvs]
  exact hb _ _ _ _ _ _ hfr
 ·rw [hvs]
  exact (k.blk t2 (two_types t2 hfr (by decide)))
theorem CM.setV (h : CM w0 p mb W s ((fb, vb) :: fs) sv ev hv S) (hst : s.stack = f :: r) {vs : List SVal} (hl : vs.length = f.vars.length) (k : KO vb W W1) (hb : ValsAt W1 vb vs) : CM w0 p mb W1 { s with stack := { f with vars := vs } :: r } ((fb, vb) :: fs) sv ev hv S := by
 obtain ⟨PA, pc, hm, hr⟩ := h.blk
 obtain ⟨_, _, _, q0, hf⟩ := h.top hst
 injection q0 with q0 q1
 cases q0
 obtain ⟨k0, k1, k2, k3, A4, c4, hfr, hrd⟩ := hf.frame
 have t2 := hf.vars
 refine ⟨k.bel h.bel (h.base.2 _ (List.mem_cons_self ..)).2, ⟨PA, pc, k.blk hm (two_types hm t2 (by decide)), hr⟩, h.stack.koE rfl k (h.stack.ne t2 (by decide)), h.evs.koE rfl k (h.evs.ne t2 (by decide)), h.heap.ko k (h.sf _ (List.mem_cons_self ..)).2, ?_, h.nd1, h.nd2, h.base, fun j hj => Nat.lt_of_lt_of_le (h.sb j hj) k.size, h.sm, h.ss, h.se, h.sf, h.old⟩
 refine .cons ⟨⟨k0, k1, k2, k3, A4, c4, ?_, hrd⟩, hb⟩ (h.rest hst (fun c _ h2 h3 => k.keep c h3 h2))
 rw [show ({ f with vars := vs } : VFr).vars.length = f.vars.length from hl]
 exact k.blk hfr (two_types hfr t2 (by decide))
theorem CM.pop {A : Option Addr} {c : Nat} (h : CM w0 p mb W s ((fb, vb) :: fs) (.slice A (fs.length + 1) c) ev hv S) (hst : s.stack = f :: r) (k : KO mb W W1)
  (hb : ∀ PA pc, W.heap[mb]? = some (.cells #[.slice PA p.f0.length pc, .slice A (fs.length + 1) c, hv, ev, .int .i64 s.fin, .int .i64 s.val, .int .i64 s.code, .int .i64 s.steps] 67 (0, 0)) → W1.heap[mb]? = some (.cells #[.slice PA p.f0.length pc, .slice A fs.length c, hv, ev, .int .i64 s.fin, .int .i64 s.val, .int .i64 s.code, .int .i64 s.steps] 67 (0, 0))) : CM w0 p mb W1 { s with stack := r } fs (.slice A fs.length c) ev hv S := by
 obtain ⟨PA, pc, hm, hr⟩ := h.blk
 have n1 := h.nd1
 have n2 := h.nd2
 simp only [List.map_cons, List.nodup_cons] at n1 n2
 have hs : OwnAt kPtr 120 w0.heap.size W (.slice A fs.length c) (fs.reverse.map fun b => b.1) := ⟨by
  have h1 := Kd.R_take h.stack.out (m := fs.length) (by simp)
  have e : ((((fb, vb) :: fs).reverse.map fun b => b.1).take fs.length) = fs.reverse.map fun b => b.1 := by simp
  rw [e] at h1
  exact h1⟩
 have hne : (Value.slice A fs.length c).ownBlock = (Value.slice A (fs.length + 1) c).ownBlock := by cases A <;> rfl
 refine ⟨k.bel h.bel h.base.1, ⟨PA, pc, hb PA pc hm, hr⟩, hs.koE rfl k (hs.ne hm (by decide)), h.evs.koE rfl k (h.evs.ne hm (by decide)), h.heap.ko k h.sm, ?_, n1.2, n2.2, ⟨h.base.1, fun b hb => h.base.2 b (List.mem_cons_of_mem _ hb)⟩, fun j hj => Nat.lt_of_lt_of_le (h.sb j hj) k.size, h.sm, fun j hj => h.ss j (hne ▸ hj), h.se, fun b hb => h.sf b (List.mem_cons_of_mem _ hb), h.old⟩
 have q := h.frames
 rw [hst] at q
 cases q with
 | cons hf hr =>
  exact hr.keep (fun b hb => by
   obtain ⟨⟨c1, h1⟩, c2, h2⟩ := hr.typed b hb
   exact ⟨k.keep _ (blk_lt h1) (two_types h1 hm (by decide)), k.keep _ (blk_lt h2) (two_types h2 hm (by decide))⟩)
theorem CM.push (h : CM w0 p mb W s fs sv ev hv S) (q : Bel W W1) (hf : FrAt w0 p W1 (fb, vb) f) (hfb : W.heap.size ≤ fb) (hvb : W.heap.size ≤ vb) {sv1 : Value} (hs : OwnAt kPtr 120 w0.heap.size W2 sv1 ((fs.reverse.map fun b => b.1) ++ [fb])) (hg : W1.grownBy W2 sv.ownBlock)
  (hat : sv1.ownBlock = sv.ownBlock ∨ ∃ b, sv1.ownBlock = some b ∧ W1.heap.size ≤ b) (k : KO mb W2 W3)
  (hb : ∀ PA pc, W2.heap[mb]? = some (.cells #[.slice PA p.f0.length pc, sv, hv, ev, .int .i64 s.fin, .int .i64 s.val, .int .i64 s.code, .int .i64 s.steps] 67 (0, 0)) → W3.heap[mb]? = some (.cells #[.slice PA p.f0.length pc, sv1, hv, ev, .int .i64 s.fin, .int .i64 s.val, .int .i64 s.code, .int .i64 s.steps] 67 (0, 0))) :
  ∃ S1, CM w0 p mb W3 { s with stack := f :: s.stack } ((fb, vb) :: fs) sv1 ev hv S1 := by
 have h1 := h.step q
 obtain ⟨PA, pc, hm, hr⟩ := h1.blk
 obtain ⟨k0, k1, k2, k3, A4, c4, hfr, hrd⟩ := hf.frame
 have t2 := hf.vars
 have hsz := q.size
 have hz2 := hg.size
 have hz3 := k.size
 have keep : ∀ (c : Nat) (cs : Array Value) (t : Nat), W1.heap[c]? = some (Obj.cells cs t (0, 0)) → t ≠ 120 → W2.heap[c]? = some (Obj.cells cs t (0, 0)) := fun c cs t hc ht => (hg.block c (blk_lt hc) (fun e => h1.stack.ne hc (fun e2 => ht e2.symm) e.symm)).trans hc
 have hm2 := keep _ _ _ hm (by decide)
 have hfr2 := keep _ _ _ hfr (by decide)
 have t22 := keep _ _ _ t2 (by decide)
 have hB2 : Bel w0 W2 := ⟨h1.bel.out.grown hg h1.bel.size (fun j hj => Kd.R_base h1.stack.out j hj)⟩
 refine ⟨fun j => S j ∨ j = fb ∨ j = vb ∨ sv1.ownBlock = some j, k.bel hB2 h.base.1, ⟨PA, pc, hb PA pc hm2, hr⟩, ?_, ?_, ?_, ?_, ?_, ?_, ⟨h.base.1, ?_⟩, ?_, .inl h.sm, fun j hj => .inr (.inr (.inr hj)), fun j hj => .inl (h.se j hj), ?_, fun j hj => .inl (h.old j hj)⟩
 ·have e : ((((fb, vb) :: fs).reverse.map fun b => b.1)) = (fs.reverse.map fun b => b.1) ++ [fb] := by simp
  rw [e]
  exact hs.koE rfl k (hs.ne hm2 (by decide))
 ·have he2 : OwnAt (Kd.int .i64) 3 w0.heap.size W2 ev s.evs := ⟨Kd.R_mono (Kd.R_grown (Kd.R_tight rfl h1.evs.out) hg (fun j hj e => by
   obtain ⟨c1, hc1⟩ := Kd.R_typed h1.evs.out j hj.symm
   exact h1.stack.ne hc1 (by decide) e.symm)) (fun _ _ => trivial)⟩
  exact he2.koE rfl k (he2.ne hm2 (by decide))
 ·have hh : HV (fun j => S j ∨ j = fb ∨ j = vb ∨ sv1.ownBlock = some j) W hv s.heap := h.heap.more (fun j hj => by
   rcases hj with hj | rfl | rfl | hj
   ·exact .inl hj
   ·exact .inr hfb
   ·exact .inr hvb
   ·rcases hat with e | ⟨b, e, hle⟩
    ·exact .inl (h.ss j (by rw [← e]; exact hj))
    ·rw [e] at hj
     injection hj with hj
     exact .inr (by omega))
  have hh2 : HV (fun j => S j ∨ j = fb ∨ j = vb ∨ sv1.ownBlock = some j) W2 hv s.heap := ⟨Kd.V_grown (hh.step q).out hg (fun j hj e => hj (.inl (h.ss j e.symm)))⟩
  exact hh2.ko k (.inl h.sm)
 ·refine .cons ⟨⟨k0, k1, k2, k3, A4, c4, k.blk hfr2 (two_types hfr2 hm2 (by decide)), hrd⟩, k.blk t22 (two_types t22 hm2 (by decide))⟩ ?_
  refine h1.frames.keep (fun b hb => ?_)
  obtain ⟨⟨c1, h2⟩, c2, h3⟩ := h1.frames.typed b hb
  have h22 := keep _ _ _ h2 (by decide)
  have h33 := keep _ _ _ h3 (by decide)
  exact ⟨(k.blk h22 (two_types h22 hm2 (by decide))).trans h2.symm, (k.blk h33 (two_types h33 hm2 (by decide))).trans h3.symm⟩
 ·simp only [List.map_cons, List.nodup_cons]
  refine ⟨fun e => ?_, h.nd1⟩
  obtain ⟨b, hb, e⟩ := List.mem_map.1 e
  have := h.sb b.1 (h.sf b hb).1
  omega
 ·simp only [List.map_cons, List.nodup_cons]
  refine ⟨fun e => ?_, h.nd2⟩
  obtain ⟨b, hb, e⟩ := List.mem_map.1 e
  have := h.sb b.2 (h.sf b hb).2
  omega
 ·intro b hb
  rcases List.mem_cons.1 hb with rfl | hb
  ·have := h.bel.size
   exact ⟨by show w0.heap.size ≤ fb; omega, by show w0.heap.size ≤ vb; omega⟩
  ·exact h.base.2 b hb
 ·intro j hj
  rcases hj with hj | rfl | rfl | hj
  ·have := h.sb j hj
   omega
  ·have := blk_lt hfr
   omega
  ·have := blk_lt t2
   omega
  ·have := Kd.R_lt hs.out j hj
   omega
 ·intro b hb
  rcases List.mem_cons.1 hb with rfl | hb
  ·exact ⟨.inr (.inl rfl), .inr (.inr (.inl rfl))⟩
  ·exact ⟨.inl (h.sf b hb).1, .inl (h.sf b hb).2⟩
theorem CM.tell (h : CM w0 p mb W s fs sv ev hv S) {ev1 : Value} {n : Int} (he : OwnAt (Kd.int .i64) 3 w0.heap.size W1 ev1 (s.evs ++ [n])) (hg : W.grownBy W1 ev.ownBlock) (hat : ev1.ownBlock = ev.ownBlock ∨ ∃ b, ev1.ownBlock = some b ∧ W.heap.size ≤ b) (k : KO mb W1 W2)
  (hb : ∀ PA pc, W1.heap[mb]? = some (.cells #[.slice PA p.f0.length pc, sv, hv, ev, .int .i64 s.fin, .int .i64 s.val, .int .i64 s.code, .int .i64 s.steps] 67 (0, 0)) → W2.heap[mb]? = some (.cells #[.slice PA p.f0.length pc, sv, hv, ev1, .int .i64 s.fin, .int .i64 s.val, .int .i64 s.code, .int .i64 s.steps] 67 (0, 0))) :
  ∃ S1, CM w0 p mb W2 { s with evs := s.evs ++ [n] } fs sv ev1 hv S1 := by
 obtain ⟨PA, pc, hm, hr⟩ := h.blk
 have hz2 := hg.size
 have hz3 := k.size
 have keep : ∀ (c : Nat) (cs : Array Value) (t : Nat), W.heap[c]? = some (Obj.cells cs t (0, 0)) → t ≠ 3 → W1.heap[c]? = some (Obj.cells cs t (0, 0)) := fun c cs t hc ht => (hg.block c (blk_lt hc) (fun e => h.evs.ne hc (fun e2 => ht e2.symm) e.symm)).trans hc
 have hm2 := keep _ _ _ hm (by decide)
 have hB2 : Bel w0 W1 := ⟨h.bel.out.grown hg h.bel.size (fun j hj => Kd.R_base h.evs.out j hj)⟩
 refine ⟨fun j => S j ∨ ev1.ownBlock = some j, k.bel hB2 h.base.1, ⟨PA, pc, hb PA pc hm2, hr⟩, ?_, he.koE rfl k (he.ne hm2 (by decide)), ?_, ?_, h.nd1, h.nd2, h.base, ?_, .inl h.sm, fun j hj => .inl (h.ss j hj), fun j hj => .inr hj, fun b hb => ⟨.inl (h.sf b hb).1, .inl (h.sf b hb).2⟩, fun j hj => .inl (h.old j hj)⟩
 ·have hs2 : OwnAt kPtr 120 w0.heap.size W1 sv (fs.reverse.map fun b => b.1) := ⟨Kd.R_mono (Kd.R_grown (Kd.R_tight rfl h.stack.out) hg (fun j hj e => by
   obtain ⟨c1, hc1⟩ := Kd.R_typed h.stack.out j hj.symm
   exact h.evs.ne hc1 (by decide) e.symm)) (fun _ _ => trivial)⟩
  exact hs2.koE rfl k (hs2.ne hm2 (by decide))
 ·have hh : HV (fun j => S j ∨ ev1.ownBlock = some j) W hv s.heap := h.heap.more (fun j hj => by
   rcases hj with hj | hj
   ·exact .inl hj
   ·rcases hat with e | ⟨b, e, hle⟩
    ·exact .inl (h.se j (by rw [← e]; exact hj))
    ·rw [e] at hj
     injection hj with hj
     exact .inr (by omega))
  have hh2 : HV (fun j => S j ∨ ev1.ownBlock = some j) W1 hv s.heap := ⟨Kd.V_grown hh.out hg (fun j hj e => hj (.inl (h.se j e.symm)))⟩
  exact hh2.ko k (.inl h.sm)
 ·refine h.frames.keep (fun b hb => ?_)
  obtain ⟨⟨c1, h2⟩, c2, h3⟩ := h.frames.typed b hb
  have h22 := keep _ _ _ h2 (by decide)
  have h33 := keep _ _ _ h3 (by decide)
  exact ⟨(k.blk h22 (two_types h22 hm2 (by decide))).trans h2.symm, (k.blk h33 (two_types h33 hm2 (by decide))).trans h3.symm⟩
 ·intro j hj
  rcases hj with hj | hj
  ·have := h.sb j hj
   omega
  ·have := Kd.R_lt he.out j hj
   omega
end
end Go.Proofs.Ytodjpbidjldblaa.H
