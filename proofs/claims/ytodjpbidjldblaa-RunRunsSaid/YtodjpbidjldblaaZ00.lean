/- Texts joined. Conditions: each stands with its theorem. -/
import Derived.Test.YtodjpbidjldblaaX14
import Derived.Test.YtodjpbidjldblaaX01
import Derived.Test.YtodjpbidjldblaaX02
import Derived.Test.YtodjpbidjldblaaX06
import Derived.StillTailTactics
import Derived.Test.YtodjpbidjldblaaX13
namespace Go.Proofs.Ytodjpbidjldblaa.H
open Go.RowKit Go.Proofs.YtodjpbidjldblaaW.PrintWords Go.Proofs.YtodjpbidjldblaaW.PrintLast
set_option linter.unusedVariables false
set_option linter.unusedSimpArgs false
set_option maxRecDepth 100000
set_option maxHeartbeats 4000000 in
theorem SameT_any (A0 A1 : Option Addr) (c0 c1 : Nat) (l : List Int) (f v c : Int) (w : World) (H0 : RdI w A0 l) (H1 : RdI w A1 l) (hl : l.length ≤ 1000000) :
  Calls Try.prog 11 #[.agg #[.slice A0 l.length c0, .int .i64 f, .int .i64 v, .int .i64 c], .agg #[.slice A1 l.length c1, .int .i64 f, .int .i64 v, .int .i64 c]] w fun e w' => e = .returned (.bool true) ∧ Bel w w' := by
 obtain ⟨g, hg⟩ : ∃ g, w.heap.size = g := ⟨_, rfl⟩
 have hB := ((Bel.refl w).alloc (.cells #[.slice A0 l.length c0, .int .i64 f, .int .i64 v, .int .i64 c] 34)).alloc (.cells #[.slice A1 l.length c1, .int .i64 f, .int .i64 v, .int .i64 c] 34)
 have hb0 : ((w.alloc (.cells #[.slice A0 l.length c0, .int .i64 f, .int .i64 v, .int .i64 c] 34)).alloc (.cells #[.slice A1 l.length c1, .int .i64 f, .int .i64 v, .int .i64 c] 34)).heap[g]? = some (.cells #[.slice A0 l.length c0, .int .i64 f, .int .i64 v, .int .i64 c] 34 (0, 0)) := heap_old (heap_new' hg.symm)
 have hb1 : ((w.alloc (.cells #[.slice A0 l.length c0, .int .i64 f, .int .i64 v, .int .i64 c] 34)).alloc (.cells #[.slice A1 l.length c1, .int .i64 f, .int .i64 v, .int .i64 c] 34)).heap[g + 1]? = some (.cells #[.slice A1 l.length c1, .int .i64 f, .int .i64 v, .int .i64 c] 34 (0, 0)) := heap_new' (by simp [hg])
 go_enter Try.func11, Try.ntmps11
 go_upto_region 1 with (fail)
 generalize (w.alloc (.cells #[.slice A0 l.length c0, .int .i64 f, .int .i64 v, .int .i64 c] 34)).alloc (.cells #[.slice A1 l.length c1, .int .i64 f, .int .i64 v, .int .i64 c] 34) = wa at hB hb0 hb1 ⊢
 replace hg := Aside0.mk hg
 have hin := Aside0.mk (Ints_any A0 A1 c0 c1 l l wa (H0.step hB) (H1.step hB) (by omega))
 rw [show decide (l = l) = true by simp] at hin
 have x0 : wa.cell? ⟨g, 0, none⟩ = some (.slice A0 l.length c0) := blk_cell hb0 0
 have y0 : wa.cell? ⟨g + 1, 0, none⟩ = some (.slice A1 l.length c1) := blk_cell hb1 0
 go_wp2_with (go_at_call 19; ((with_reducible refine hin.out.mono ?_); rintro e w2 ⟨rfl, hq2⟩; have hB2 := Bel.drawn hq2; have x1 := blk_cell (hB2.blk hb0) 1; have x2 := blk_cell (hB2.blk hb0) 2; have x3 := blk_cell (hB2.blk hb0) 3; have y1 := blk_cell (hB2.blk hb1) 1; have y2 := blk_cell (hB2.blk hb1) 2; have y3 := blk_cell (hB2.blk hb1) 3))
 go_ret
 exact ⟨rfl, hB.trans hB2⟩
def rfCells : List VFr → List Nat → List Value
 | f :: r, b :: bs => rfCells r bs ++ [.int .i64 f.fn, .slice (some ⟨b, 0, none⟩) f.vars.length f.vars.length, .int .i64 f.blk, .int .i64 f.pos]
 | _, _ => []
theorem rfCells_len : ∀ (l : List VFr) (bs : List Nat), bs.length = l.length → (rfCells l bs).length = l.length * 4
 | [], bs, h => by unfold rfCells; simp
 | f :: r, [], h => by simp at h
 | f :: r, b :: bs, h => by
  have := rfCells_len r bs (by simpa using h)
  unfold rfCells
  simp only [List.length_append, List.length_cons, List.length_nil, this]
  omega
def obCells : List SObj → List (Nat × Nat) → List Value
 | o :: l, b :: bs => .slice (some ⟨b.1, 0, none⟩) o.f0.length o.f0.length :: .slice (some ⟨b.2, 0, none⟩) o.f1.length o.f1.length :: obCells l bs
 | _, _ => []
theorem obCells_at : ∀ (l : List SObj) (bs : List (Nat × Nat)), bs.length = l.length → ∀ (k : Nat) (hk : k < l.length) (hb : k < bs.length), (obCells l bs)[k * 2]? = some (.slice (some ⟨bs[k].1, 0, none⟩) l[k].f0.length l[k].f0.length) ∧ (obCells l bs)[k * 2 + 1]? = some (.slice (some ⟨bs[k].2, 0, none⟩) l[k].f1.length l[k].f1.length)
 | [], bs, h => by intro k hk; cases hk
 | f :: r, [], h => by simp at h
 | f :: r, b :: bs, h => by
  intro k hk hb
  unfold obCells
  cases k with
  | zero => exact ⟨rfl, rfl⟩
  | succ k =>
   have := obCells_at r bs (by simpa using h) k (by simpa using hk) (by simpa using hb)
   rw [show (k + 1) * 2 = k * 2 + 1 + 1 by omega, show k * 2 + 1 + 1 + 1 = (k * 2 + 1) + 1 + 1 by omega]
   simpa only [List.getElem?_cons_succ, List.getElem_cons_succ] using this
theorem obCells_snoc : ∀ (l : List SObj) (bs : List (Nat × Nat)) (o : SObj) (b : Nat × Nat), bs.length = l.length → obCells (l ++ [o]) (bs ++ [b]) = obCells l bs ++ [.slice (some ⟨b.1, 0, none⟩) o.f0.length o.f0.length, .slice (some ⟨b.2, 0, none⟩) o.f1.length o.f1.length]
 | [], [], o, b, h => rfl
 | [], _ :: _, o, b, h => by simp at h
 | f :: r, [], o, b, h => by simp at h
 | f :: r, c :: bs, o, b, h => by
  have := obCells_snoc r bs o b (by simpa using h)
  simp only [List.cons_append, obCells, this]
theorem obCells_set : ∀ (l : List SObj) (bs : List (Nat × Nat)) (k : Nat) (o : SObj), (∀ h : k < l.length, o.f0.length = l[k].f0.length ∧ o.f1.length = l[k].f1.length) → obCells (l.set k o) bs = obCells l bs
 | [], bs, k, o, h => by simp
 | f :: r, [], k, o, h => by cases k <;> simp [obCells]
 | f :: r, c :: bs, k, o, h => by
  cases k with
  | zero =>
   obtain ⟨h0, h1⟩ := h (by simp)
   simp only [List.getElem_cons_zero] at h0 h1
   simp only [List.set_cons_zero, obCells, h0, h1]
  | succ k =>
   have := obCells_set r bs k o (fun hk => h (by simpa using hk))
   simp only [List.set_cons_succ, obCells, this]
def KB (b : Option Nat) (W W1 : World) : Prop := ∀ i, i < W.heap.size → some i ≠ b → W1.heap[i]? = W.heap[i]?
theorem KO.kb {b : Nat} {W W1 : World} (h : KO b W W1) : KB (some b) W W1 := fun i hi hn => h.keep i hi (fun e => hn (by rw [e]))
theorem Bel.kb {W W1 : World} (h : Bel W W1) : KB none W W1 := fun i hi _ => h.out.block i hi
theorem kb_grown {W W1 : World} {row : Option Nat} (h : W.grownBy W1 row) : KB row W W1 := fun i hi hn => h.block i hi hn
theorem KB.blk {b : Option Nat} {W W1 : World} (k : KB b W W1) {i : Nat} {o : Obj} (h : W.heap[i]? = some o) (hn : some i ≠ b) : W1.heap[i]? = some o := (k i (blk_lt h) hn).trans h
theorem KB.own {b : Option Nat} {W W1 : World} (k : KB b W W1) {base e size n : Nat} {v : Value} {xs : List Value} (h : W.ownsRow base e size v n xs) (hn : ∀ i, v.ownBlock = some i → some i ≠ b) : W1.ownsRow base e size v n xs :=
 own_move h (fun i hi => k i (own_lt h i hi) (hn i hi))
abbrev IntsAt (W : World) (b : Nat) (l : List Int) : Prop := W.heap[b]? = some (.cells (nums .i64 l).toArray 3 (0, 0))
inductive VarsAt (W : World) : List Nat → List VFr → Prop where
 | nil : VarsAt W [] []
 | cons {b : Nat} {f : VFr} {bs : List Nat} {fs : List VFr} (h : ValsAt W b f.vars) (r : VarsAt W bs fs) : VarsAt W (b :: bs) (f :: fs)
theorem VarsAt.keep {W W1 : World} {bs : List Nat} {fs : List VFr} (h : VarsAt W bs fs) (k : ∀ b ∈ bs, b < W.heap.size → W1.heap[b]? = W.heap[b]?) : VarsAt W1 bs fs := by
 induction h with
 | nil => exact .nil
 | cons h r ih => exact .cons ((k _ (List.mem_cons_self ..) (blk_lt h)).trans h) (ih (fun b hb => k b (List.mem_cons_of_mem _ hb)))
theorem VarsAt.len {W : World} {bs : List Nat} {fs : List VFr} (h : VarsAt W bs fs) : bs.length = fs.length := by
 induction h with
 | nil => rfl
 | cons h r ih => simp [ih]
theorem VarsAt.typed {W : World} {bs : List Nat} {fs : List VFr} (h : VarsAt W bs fs) : ∀ b ∈ bs, ∃ cs, W.heap[b]? = some (.cells cs 89 (0, 0)) := by
 induction h with
 | nil => intro b hb; cases hb
 | cons h r ih =>
  intro b hb
  rcases List.mem_cons.1 hb with rfl | hb
  ·exact ⟨_, h⟩
  ·exact ih b hb
inductive ObjsAt (W : World) : List (Nat × Nat) → List SObj → Prop where
 | nil : ObjsAt W [] []
 | cons {b : Nat × Nat} {o : SObj} {bs : List (Nat × Nat)} {l : List SObj} (h0 : IntsAt W b.1 o.f0) (h1 : IntsAt W b.2 o.f1) (r : ObjsAt W bs l) : ObjsAt W (b :: bs) (o :: l)
theorem ObjsAt.keep {W W1 : World} {bs : List (Nat × Nat)} {l : List SObj} (h : ObjsAt W bs l) (k : ∀ b ∈ bs, (b.1 < W.heap.size → W1.heap[b.1]? = W.heap[b.1]?) ∧ (b.2 < W.heap.size → W1.heap[b.2]? = W.heap[b.2]?)) : ObjsAt W1 bs l := by
 induction h with
 | nil => exact .nil
 | cons h0 h1 r ih => exact .cons (((k _ (List.mem_cons_self ..)).1 (blk_lt h0)).trans h0) (((k _ (List.mem_cons_self ..)).2 (blk_lt h1)).trans h1) (ih (fun b hb => k b (List.mem_cons_of_mem _ hb)))
theorem ObjsAt.len {W : World} {bs : List (Nat × Nat)} {l : List SObj} (h : ObjsAt W bs l) : bs.length = l.length := by
 induction h with
 | nil => rfl
 | cons h0 h1 r ih => simp [ih]
theorem ObjsAt.typed {W : World} {bs : List (Nat × Nat)} {l : List SObj} (h : ObjsAt W bs l) : ∀ b ∈ bs, (∃ cs, W.heap[b.1]? = some (.cells cs 3 (0, 0))) ∧ ∃ cs, W.heap[b.2]? = some (.cells cs 3 (0, 0)) := by
 induction h with
 | nil => intro b hb; cases hb
 | cons h0 h1 r ih =>
  intro b hb
  rcases List.mem_cons.1 hb with rfl | hb
  ·exact ⟨⟨_, h0⟩, _, h1⟩
  ·exact ih b hb
theorem ObjsAt.at_ {W : World} {bs : List (Nat × Nat)} {l : List SObj} (h : ObjsAt W bs l) : ∀ (k : Nat) (hk : k < l.length) (hb : k < bs.length), IntsAt W bs[k].1 l[k].f0 ∧ IntsAt W bs[k].2 l[k].f1 := by
 induction h with
 | nil => intro k hk; cases hk
 | cons h0 h1 r ih =>
  intro k hk hb
  cases k with
  | zero => exact ⟨h0, h1⟩
  | succ k => exact ih k (by simpa using hk) (by simpa using hb)
theorem ObjsAt.snoc {W : World} {bs : List (Nat × Nat)} {l : List SObj} (h : ObjsAt W bs l) {b : Nat × Nat} {o : SObj} (h0 : IntsAt W b.1 o.f0) (h1 : IntsAt W b.2 o.f1) : ObjsAt W (bs ++ [b]) (l ++ [o]) := by
 induction h with
 | nil => exact .cons h0 h1 .nil
 | cons g0 g1 r ih => exact .cons g0 g1 ih
def fldB (os : List (Nat × Nat)) : List Nat := os.flatMap fun b => [b.1, b.2]
theorem fldB_mem {os : List (Nat × Nat)} {b : Nat × Nat} (h : b ∈ os) : b.1 ∈ fldB os ∧ b.2 ∈ fldB os := ⟨List.mem_flatMap.2 ⟨b, h, by simp⟩, List.mem_flatMap.2 ⟨b, h, by simp⟩⟩
theorem ObjsAt.fld {W : World} {bs : List (Nat × Nat)} {l : List SObj} (h : ObjsAt W bs l) : ∀ b ∈ fldB bs, ∃ cs, W.heap[b]? = some (.cells cs 3 (0, 0)) := fun b hb => by
 obtain ⟨c, hc, hm⟩ := List.mem_flatMap.1 hb
 obtain ⟨t1, t2⟩ := h.typed c hc
 simp only [List.mem_cons, List.not_mem_nil, or_false] at hm
 rcases hm with rfl | rfl
 ·exact t1
 ·exact t2
theorem ObjsAt.set {W W1 : World} {bs : List (Nat × Nat)} {l : List SObj} (h : ObjsAt W bs l) (nd : (fldB bs).Nodup) : ∀ (k : Nat) (hk : k < bs.length) (o : SObj), (∀ b ∈ fldB bs, b ≠ bs[k].1 → b ≠ bs[k].2 → W1.heap[b]? = W.heap[b]?) → IntsAt W1 bs[k].1 o.f0 → IntsAt W1 bs[k].2 o.f1 → ObjsAt W1 bs (l.set k o) := by
 induction h with
 | nil => intro k hk; cases hk
 | @cons b o' bs l h0 h1 r ih =>
  intro k hk o kp i0 i1
  have e : fldB (b :: bs) = b.1 :: b.2 :: fldB bs := rfl
  rw [e] at nd kp
  simp only [List.nodup_cons, List.mem_cons, not_or] at nd
  cases k with
  | zero =>
   refine .cons i0 i1 (r.keep (fun c hc => ?_))
   obtain ⟨m1, m2⟩ := fldB_mem hc
   exact ⟨fun _ => kp _ (by simp [m1]) (fun q => nd.1.2 (q ▸ m1)) (fun q => nd.2.1 (q ▸ m1)), fun _ => kp _ (by simp [m2]) (fun q => nd.1.2 (q ▸ m2)) (fun q => nd.2.1 (q ▸ m2))⟩
  | succ k =>
   have hk' : k < bs.length := by simpa using hk
   obtain ⟨m1, m2⟩ := fldB_mem (List.getElem_mem hk')
   simp only [List.getElem_cons_succ] at kp i0 i1
   exact .cons ((kp b.1 (by simp) (fun q => nd.1.2 (q ▸ m1)) (fun q => nd.1.2 (q ▸ m2))).trans h0) ((kp b.2 (by simp) (fun q => nd.2.1 (q ▸ m1)) (fun q => nd.2.1 (q ▸ m2))).trans h1) (ih nd.2.2 k hk' o (fun c hc => kp c (by simp [hc])) i0 i1)
structure RM (w0 : World) (sb : Nat) (W : World) (s : VSt) (fs : List Nat) (os : List (Nat × Nat)) (sv ev hv : Value) : Prop where
 bel : Bel w0 W
 blk : W.heap[sb]? = some (.cells #[sv, hv, ev, .int .i64 s.fin, .int .i64 s.val, .int .i64 s.code, .int .i64 s.steps] 36 (0, 0))
 stack : Aside0 (W.ownsRow w0.heap.size 62 4 sv s.stack.length (rfCells s.stack fs))
 vars : VarsAt W fs s.stack
 evs : Aside0 (W.ownsRow w0.heap.size 3 1 ev s.evs.length (nums .i64 s.evs))
 objs : Aside0 (W.ownsRow w0.heap.size 71 2 hv s.heap.length (obCells s.heap os))
 flds : ObjsAt W os s.heap
 nd : fs.Nodup
 ndo : (fldB os).Nodup
 eo : ∀ b ∈ fldB os, ev.ownBlock ≠ some b
 base : w0.heap.size ≤ sb ∧ (∀ b ∈ fs, w0.heap.size ≤ b) ∧ ∀ b ∈ fldB os, w0.heap.size ≤ b
section
variable {w0 : World} {sb : Nat} {W W1 : World} {s s1 : VSt} {fs : List Nat} {os : List (Nat × Nat)} {sv ev hv : Value}
theorem own_neT {base e size n b t : Nat} {v : Value} {xs : List Value} {cs : Array Value} {fr : Nat × Nat} (h : W.ownsRow base e size v n xs) (hb : W.heap[b]? = some (.cells cs t fr)) (ht : e ≠ t) : ∀ i, v.ownBlock = some i → some i ≠ some b := fun i hi q => by
 obtain ⟨cells, hc⟩ := own_typed h i hi
 injection q with q
 exact two_types hc hb ht q
theorem RM.step (h : RM w0 sb W s fs os sv ev hv) (k : Bel W W1) : RM w0 sb W1 s fs os sv ev hv := by
 have kb := k.kb
 exact ⟨h.bel.trans k, k.blk h.blk, ⟨kb.own h.stack.out (fun _ _ q => by cases q)⟩, h.vars.keep (fun b _ hl => k.out.block b hl), ⟨kb.own h.evs.out (fun _ _ q => by cases q)⟩, ⟨kb.own h.objs.out (fun _ _ q => by cases q)⟩, h.flds.keep (fun b _ => ⟨fun hl => k.out.block _ hl, fun hl => k.out.block _ hl⟩), h.nd, h.ndo, h.eo, h.base⟩
theorem RM.setS (h : RM w0 sb W s fs os sv ev hv) (k : KO sb W W1) (hs : s1.stack = s.stack) (he : s1.evs = s.evs) (hh : s1.heap = s.heap)
  (hb : W1.heap[sb]? = some (.cells #[sv, hv, ev, .int .i64 s1.fin, .int .i64 s1.val, .int .i64 s1.code, .int .i64 s1.steps] 36 (0, 0))) : RM w0 sb W1 s1 fs os sv ev hv := by
 have kb := k.kb
 refine ⟨k.bel h.bel h.base.1, hb, ⟨?_⟩, ?_, ⟨?_⟩, ⟨?_⟩, ?_, h.nd, h.ndo, h.eo, h.base⟩
 ·rw [hs]; exact kb.own h.stack.out (own_neT h.stack.out h.blk (by decide))
 ·rw [hs]; exact h.vars.keep (fun b hm hl => by
   obtain ⟨cs, hc⟩ := h.vars.typed b hm
   exact k.keep b hl (two_types hc h.blk (by decide)))
 ·rw [he]; exact kb.own h.evs.out (own_neT h.evs.out h.blk (by decide))
 ·rw [hh]; exact kb.own h.objs.out (own_neT h.objs.out h.blk (by decide))
 ·rw [hh]; exact h.flds.keep (fun b hm => by
   obtain ⟨⟨c1, t1⟩, c2, t2⟩ := h.flds.typed b hm
   exact ⟨fun hl => k.keep _ hl (two_types t1 h.blk (by decide)), fun hl => k.keep _ hl (two_types t2 h.blk (by decide))⟩)
theorem RM.setV {f : VFr} {r : List VFr} {vb : Nat} (h : RM w0 sb W s (vb :: fs) os sv ev hv) (hst : s.stack = f :: r) {vs : List SVal} (hl : vs.length = f.vars.length) (k : KO vb W W1) (hb : ValsAt W1 vb vs) :
  RM w0 sb W1 { s with stack := { f with vars := vs } :: r } (vb :: fs) os sv ev hv := by
 have kb := k.kb
 obtain ⟨cs, t0⟩ := h.vars.typed vb (List.mem_cons_self ..)
 refine ⟨k.bel h.bel (h.base.2.1 _ (List.mem_cons_self ..)), k.blk h.blk (two_types h.blk t0 (by decide)), ⟨?_⟩, ?_, ⟨kb.own h.evs.out (own_neT h.evs.out t0 (by decide))⟩, ⟨kb.own h.objs.out (own_neT h.objs.out t0 (by decide))⟩, ?_, h.nd, h.ndo, h.eo, h.base⟩
 ·have q := kb.own h.stack.out (own_neT h.stack.out t0 (by decide))
  rw [hst] at q
  have e : rfCells ({ f with vars := vs } :: r) (vb :: fs) = rfCells (f :: r) (vb :: fs) := by simp only [rfCells, hl]
  rw [e]
  exact q
 ·have q := h.vars
  rw [hst] at q
  cases q with
  | cons hf hr =>
   refine .cons hb (hr.keep (fun b hm hl => k.keep b hl (fun q => ?_)))
   have := h.nd
   simp only [List.nodup_cons] at this
   exact this.1 (q ▸ hm)
 ·exact h.flds.keep (fun b hm => by
   obtain ⟨⟨c1, t1⟩, c2, t2⟩ := h.flds.typed b hm
   exact ⟨fun hl => k.keep _ hl (two_types t1 t0 (by decide)), fun hl => k.keep _ hl (two_types t2 t0 (by decide))⟩)
theorem RM.setF {f f1 : VFr} {r : List VFr} {vb g c : Nat} (h : RM w0 sb W s (vb :: fs) os (.slice (some ⟨g, 0, none⟩) s.stack.length c) ev hv) (hst : s.stack = f :: r) (hfn : f1.fn = f.fn) (hvs : f1.vars = f.vars) (k : KO g W W1)
  (hr : ∀ xs : List Value, xs.length = r.length * 4 → W.ownsRow w0.heap.size 62 4 (.slice (some ⟨g, 0, none⟩) s.stack.length c) (r.length + 1) (xs ++ [.int .i64 f.fn, .slice (some ⟨vb, 0, none⟩) f.vars.length f.vars.length, .int .i64 f.blk, .int .i64 f.pos]) → W1.ownsRow w0.heap.size 62 4 (.slice (some ⟨g, 0, none⟩) s.stack.length c) (r.length + 1) (xs ++ [.int .i64 f.fn, .slice (some ⟨vb, 0, none⟩) f.vars.length f.vars.length, .int .i64 f1.blk, .int .i64 f1.pos])) :
  RM w0 sb W1 { s with stack := f1 :: r } (vb :: fs) os (.slice (some ⟨g, 0, none⟩) s.stack.length c) ev hv := by
 have kb := k.kb
 obtain ⟨cs, t0⟩ := own_typed h.stack.out g rfl
 have hl := h.vars.len
 rw [hst] at hl
 have hl' : fs.length = r.length := by simpa using hl
 have h0 := h.stack.out
 have hn : s.stack.length = r.length + 1 := by rw [hst]; rfl
 refine ⟨k.bel h.bel (own_base h.stack.out g rfl), k.blk h.blk (two_types h.blk t0 (by decide)), ⟨?_⟩, ?_, ⟨kb.own h.evs.out (own_neT h.evs.out t0 (by decide))⟩, ⟨kb.own h.objs.out (own_neT h.objs.out t0 (by decide))⟩, ?_, h.nd, h.ndo, h.eo, h.base⟩
 ·have q := hr (rfCells r fs) (rfCells_len r fs hl') (by rw [hst] at h0 ⊢; exact h0)
  have e : rfCells (f1 :: r) (vb :: fs) = rfCells r fs ++ [.int .i64 f.fn, .slice (some ⟨vb, 0, none⟩) f.vars.length f.vars.length, .int .i64 f1.blk, .int .i64 f1.pos] := by simp only [rfCells, hfn, hvs]
  rw [e]
  exact q
 ·have q := h.vars
  have q2 : VarsAt W (vb :: fs) (f1 :: r) := by
   rw [hst] at q
   cases q with
   | cons hf hr => exact .cons (by rw [hvs]; exact hf) hr
  exact q2.keep (fun b hm hl => by
   obtain ⟨c1, t1⟩ := h.vars.typed b hm
   exact k.keep b hl (two_types t1 t0 (by decide)))
 ·exact h.flds.keep (fun b hm => by
   obtain ⟨⟨c1, t1⟩, c2, t2⟩ := h.flds.typed b hm
   exact ⟨fun hl => k.keep _ hl (two_types t1 t0 (by decide)), fun hl => k.keep _ hl (two_types t2 t0 (by decide))⟩)
end
section
variable {w0 : World} {sb : Nat} {W W1 W2 W3 : World} {s s1 : VSt} {fs : List Nat} {os : List (Nat × Nat)} {sv ev hv sv1 ev1 hv1 : Value}
theorem RM.mkS {cs : Array Value} (k : KO sb W W1) (h0 : W.heap[sb]? = some (.cells cs 36 (0, 0))) (hB : Bel w0 W) (stack : W.ownsRow w0.heap.size 62 4 sv s.stack.length (rfCells s.stack fs)) (vars : VarsAt W fs s.stack)
  (evs : W.ownsRow w0.heap.size 3 1 ev s.evs.length (nums .i64 s.evs)) (objs : W.ownsRow w0.heap.size 71 2 hv s.heap.length (obCells s.heap os)) (flds : ObjsAt W os s.heap) (nd : fs.Nodup) (ndo : (fldB os).Nodup) (eo : ∀ b ∈ fldB os, ev.ownBlock ≠ some b)
  (base : w0.heap.size ≤ sb ∧ (∀ b ∈ fs, w0.heap.size ≤ b) ∧ ∀ b ∈ fldB os, w0.heap.size ≤ b)
  (hb : W1.heap[sb]? = some (.cells #[sv, hv, ev, .int .i64 s.fin, .int .i64 s.val, .int .i64 s.code, .int .i64 s.steps] 36 (0, 0))) : RM w0 sb W1 s fs os sv ev hv := by
 have kb := k.kb
 refine ⟨k.bel hB base.1, hb, ⟨kb.own stack (own_neT stack h0 (by decide))⟩, ?_, ⟨kb.own evs (own_neT evs h0 (by decide))⟩, ⟨kb.own objs (own_neT objs h0 (by decide))⟩, ?_, nd, ndo, eo, base⟩
 ·exact vars.keep (fun b hm hl => by
   obtain ⟨cs, hc⟩ := vars.typed b hm
   exact k.keep b hl (two_types hc h0 (by decide)))
 ·exact flds.keep (fun b hm => by
   obtain ⟨⟨c1, t1⟩, c2, t2⟩ := flds.typed b hm
   exact ⟨fun hl => k.keep _ hl (two_types t1 h0 (by decide)), fun hl => k.keep _ hl (two_types t2 h0 (by decide))⟩)
theorem RM.setO (h : RM w0 sb W s fs os sv ev hv) {k ib : Nat} (hk : k < os.length) (hk' : k < s.heap.length) (o : SObj) (hl : o.f0.length = s.heap[k].f0.length ∧ o.f1.length = s.heap[k].f1.length) (K : KO ib W W1) (hib : ib = os[k].1 ∨ ib = os[k].2) (i0 : IntsAt W1 os[k].1 o.f0) (i1 : IntsAt W1 os[k].2 o.f1) :
  RM w0 sb W1 { s with heap := s.heap.set k o } fs os sv ev hv := by
 have kb := K.kb
 have hm : ib ∈ fldB os := by
  obtain ⟨m1, m2⟩ := fldB_mem (List.getElem_mem hk)
  rcases hib with rfl | rfl
  ·exact m1
  ·exact m2
 obtain ⟨cs, t0⟩ := h.flds.fld ib hm
 refine ⟨K.bel h.bel (h.base.2.2 _ hm), K.blk h.blk (two_types h.blk t0 (by decide)), ⟨kb.own h.stack.out (own_neT h.stack.out t0 (by decide))⟩, ?_, ⟨kb.own h.evs.out (fun i hi q => h.eo ib hm (by rw [hi]; exact q))⟩, ⟨?_⟩, ?_, h.nd, h.ndo, h.eo, h.base⟩
 ·exact h.vars.keep (fun b hm hl => by
   obtain ⟨cs, hc⟩ := h.vars.typed b hm
   exact K.keep b hl (two_types hc t0 (by decide)))
 ·have q := kb.own h.objs.out (own_neT h.objs.out t0 (by decide))
  show W1.ownsRow _ _ _ _ (s.heap.set k o).length (obCells (s.heap.set k o) os)
  rw [obCells_set s.heap os k o (fun _ => hl), List.length_set]
  exact q
 ·exact h.flds.set h.ndo k hk o (fun b hb n1 n2 => by
   obtain ⟨cs, hc⟩ := h.flds.fld b hb
   exact K.keep b (blk_lt hc) (by rcases hib with rfl | rfl; exact n1; exact n2)) i0 i1
theorem RM.push {f : VFr} {vb : Nat} (h : RM w0 sb W s fs os sv ev hv) (q : Bel W W1) (hvs : ValsAt W1 vb f.vars) (hvb : W.heap.size ≤ vb)
  (hs : W2.ownsRow w0.heap.size 62 4 sv1 (s.stack.length + 1) (rfCells s.stack fs ++ [.int .i64 f.fn, .slice (some ⟨vb, 0, none⟩) f.vars.length f.vars.length, .int .i64 f.blk, .int .i64 f.pos])) (hg : W1.grownBy W2 sv.ownBlock) (k : KO sb W2 W3)
  (hb : W3.heap[sb]? = some (.cells #[sv1, hv, ev, .int .i64 s.fin, .int .i64 s.val, .int .i64 s.code, .int .i64 s.steps] 36 (0, 0))) :
  RM w0 sb W3 { s with stack := f :: s.stack } (vb :: fs) os sv1 ev hv := by
 have h1 := h.step q
 have kb := kb_grown hg
 have far : ∀ (c : Nat) (cs : Array Value) (t : Nat), W1.heap[c]? = some (Obj.cells cs t (0, 0)) → 62 ≠ t → some c ≠ sv.ownBlock := fun c cs t hc ht e => own_neT h1.stack.out hc ht c e.symm rfl
 have keep : ∀ (c : Nat) (cs : Array Value) (t : Nat), W1.heap[c]? = some (Obj.cells cs t (0, 0)) → 62 ≠ t → W2.heap[c]? = W1.heap[c]? := fun c cs t hc ht => kb c (blk_lt hc) (far c cs t hc ht)
 refine RM.mkS k ((keep _ _ _ h1.blk (by decide)).trans h1.blk) ⟨h1.bel.out.grown hg h1.bel.size (fun j hj => own_base h1.stack.out j hj)⟩ hs ?_ (kb.own h1.evs.out (fun i hi => by obtain ⟨c, hc⟩ := own_typed h1.evs.out i hi; exact far i c _ hc (by decide))) (kb.own h1.objs.out (fun i hi => by obtain ⟨c, hc⟩ := own_typed h1.objs.out i hi; exact far i c _ hc (by decide))) ?_ ?_ h.ndo h.eo ⟨h.base.1, ?_, h.base.2.2⟩ hb
 ·exact .cons ((keep _ _ _ hvs (by decide)).trans hvs) (h1.vars.keep (fun b hm _ => by
   obtain ⟨cs, hc⟩ := h1.vars.typed b hm
   exact keep _ _ _ hc (by decide)))
 ·exact h1.flds.keep (fun b hm => by
   obtain ⟨⟨c1, t1⟩, c2, t2⟩ := h1.flds.typed b hm
   exact ⟨fun _ => keep _ _ _ t1 (by decide), fun _ => keep _ _ _ t2 (by decide)⟩)
 ·simp only [List.nodup_cons]
  refine ⟨fun e => ?_, h.nd⟩
  obtain ⟨cs, hc⟩ := h.vars.typed vb e
  have := blk_lt hc
  omega
 ·intro b hm
  rcases List.mem_cons.1 hm with rfl | hm
  ·exact Nat.le_trans h.bel.size hvb
  ·exact h.base.2.1 b hm
theorem RM.pop {f : VFr} {r : List VFr} {vb n c : Nat} {A : Option Addr} (h : RM w0 sb W s (vb :: fs) os (.slice A n c) ev hv) (hst : s.stack = f :: r) (k : KO sb W W1)
  (hb : W1.heap[sb]? = some (.cells #[.slice A r.length c, hv, ev, .int .i64 s.fin, .int .i64 s.val, .int .i64 s.code, .int .i64 s.steps] 36 (0, 0))) :
  RM w0 sb W1 { s with stack := r } fs os (.slice A r.length c) ev hv := by
 have hl := h.vars.len
 have h0 := h.stack.out
 have hv0 := h.vars
 rw [hst] at hl h0 hv0
 have hn : n = r.length + 1 := by
  obtain ⟨A', c', e⟩ := own_slice h0
  injection e
 subst hn
 have h1 : W.ownsRow w0.heap.size 62 4 (.slice A r.length c) r.length (rfCells r fs) := by
  have := own_take h0 (m := r.length) (by simp)
  have e : (rfCells (f :: r) (vb :: fs)).take (r.length * 4) = rfCells r fs := by
   simp only [rfCells]
   rw [List.take_append_of_le_length (by rw [rfCells_len r fs (by simpa using hl)]; exact Nat.le_refl _), List.take_of_length_le (by rw [rfCells_len r fs (by simpa using hl)]; exact Nat.le_refl _)]
  rw [e] at this
  exact this
 have nd := h.nd
 simp only [List.nodup_cons] at nd
 refine RM.mkS k h.blk h.bel h1 ?_ h.evs.out h.objs.out h.flds nd.2 h.ndo h.eo ⟨h.base.1, fun b hb => h.base.2.1 b (List.mem_cons_of_mem _ hb), h.base.2.2⟩ hb
 cases hv0 with
 | cons _ hr => exact hr
theorem RM.tell {n : Int} (h : RM w0 sb W s fs os sv ev hv) (he : W1.ownsRow w0.heap.size 3 1 ev1 (s.evs.length + 1) (nums .i64 (s.evs ++ [n]))) (hg : W.grownBy W1 ev.ownBlock) (hat : ev1.ownBlock = ev.ownBlock ∨ ∃ b, ev1.ownBlock = some b ∧ W.heap.size ≤ b) (k : KO sb W1 W2)
  (hb : W2.heap[sb]? = some (.cells #[sv, hv, ev1, .int .i64 s.fin, .int .i64 s.val, .int .i64 s.code, .int .i64 s.steps] 36 (0, 0))) :
  RM w0 sb W2 { s with evs := s.evs ++ [n] } fs os sv ev1 hv := by
 have kb := kb_grown hg
 have far : ∀ (c : Nat) (cs : Array Value) (t : Nat), W.heap[c]? = some (Obj.cells cs t (0, 0)) → 3 ≠ t → some c ≠ ev.ownBlock := fun c cs t hc ht e => own_neT h.evs.out hc ht c e.symm rfl
 have keep : ∀ (c : Nat) (cs : Array Value) (t : Nat), W.heap[c]? = some (Obj.cells cs t (0, 0)) → 3 ≠ t → W1.heap[c]? = W.heap[c]? := fun c cs t hc ht => kb c (blk_lt hc) (far c cs t hc ht)
 refine RM.mkS k ((keep _ _ _ h.blk (by decide)).trans h.blk) ⟨h.bel.out.grown hg h.bel.size (fun j hj => own_base h.evs.out j hj)⟩ (kb.own h.stack.out (fun i hi => by obtain ⟨c, hc⟩ := own_typed h.stack.out i hi; exact far i c _ hc (by decide))) ?_ (by
   show W1.ownsRow _ _ _ _ (s.evs ++ [n]).length _
   rw [List.length_append]
   exact he) (kb.own h.objs.out (fun i hi => by obtain ⟨c, hc⟩ := own_typed h.objs.out i hi; exact far i c _ hc (by decide))) ?_ h.nd h.ndo ?_ h.base hb
 ·exact h.vars.keep (fun b hm _ => by
   obtain ⟨cs, hc⟩ := h.vars.typed b hm
   exact keep _ _ _ hc (by decide))
 ·exact h.flds.keep (fun b hm => by
   obtain ⟨m1, m2⟩ := fldB_mem hm
   exact ⟨fun hl => kb _ hl (fun e => h.eo _ m1 e.symm), fun hl => kb _ hl (fun e => h.eo _ m2 e.symm)⟩)
 ·intro b hm e
  rcases hat with q | ⟨g, q, hle⟩
  ·exact h.eo b hm (q ▸ e)
  ·rw [q] at e
   injection e with e
   subst e
   obtain ⟨cs, hc⟩ := h.flds.fld _ hm
   have := blk_lt hc
   omega
theorem RM.make {o : SObj} {b : Nat × Nat} (h : RM w0 sb W s fs os sv ev hv) (q : Bel W W1) (i0 : IntsAt W1 b.1 o.f0) (i1 : IntsAt W1 b.2 o.f1) (hb0 : W.heap.size ≤ b.1) (hb1 : W.heap.size ≤ b.2) (hne : b.1 ≠ b.2)
  (hs : W2.ownsRow w0.heap.size 71 2 hv1 (s.heap.length + 1) (obCells s.heap os ++ [.slice (some ⟨b.1, 0, none⟩) o.f0.length o.f0.length, .slice (some ⟨b.2, 0, none⟩) o.f1.length o.f1.length])) (hg : W1.grownBy W2 hv.ownBlock) (k : KO sb W2 W3)
  (hb : W3.heap[sb]? = some (.cells #[sv, hv1, ev, .int .i64 s.fin, .int .i64 s.val, .int .i64 s.code, .int .i64 s.steps] 36 (0, 0))) :
  RM w0 sb W3 { s with heap := s.heap ++ [o] } fs (os ++ [b]) sv ev hv1 := by
 have h1 := h.step q
 have kb := kb_grown hg
 have far : ∀ (c : Nat) (cs : Array Value) (t : Nat), W1.heap[c]? = some (Obj.cells cs t (0, 0)) → 71 ≠ t → some c ≠ hv.ownBlock := fun c cs t hc ht e => own_neT h1.objs.out hc ht c e.symm rfl
 have keep : ∀ (c : Nat) (cs : Array Value) (t : Nat), W1.heap[c]? = some (Obj.cells cs t (0, 0)) → 71 ≠ t → W2.heap[c]? = W1.heap[c]? := fun c cs t hc ht => kb c (blk_lt hc) (far c cs t hc ht)
 have ef : fldB (os ++ [b]) = fldB os ++ [b.1, b.2] := by simp [fldB]
 have hlt : ∀ c ∈ fldB os, c < W.heap.size := fun c hc => by
  obtain ⟨_, t⟩ := h.flds.fld c hc
  exact blk_lt t
 refine RM.mkS k ((keep _ _ _ h1.blk (by decide)).trans h1.blk) ⟨h1.bel.out.grown hg h1.bel.size (fun j hj => own_base h1.objs.out j hj)⟩ (kb.own h1.stack.out (fun i hi => by obtain ⟨c, hc⟩ := own_typed h1.stack.out i hi; exact far i c _ hc (by decide))) ?_ (kb.own h1.evs.out (fun i hi => by obtain ⟨c, hc⟩ := own_typed h1.evs.out i hi; exact far i c _ hc (by decide))) (by
   show W2.ownsRow _ _ _ _ (s.heap ++ [o]).length (obCells (s.heap ++ [o]) (os ++ [b]))
   rw [obCells_snoc _ _ _ _ h.flds.len, List.length_append]
   exact hs) ?_ h.nd ?_ ?_ ⟨h.base.1, h.base.2.1, ?_⟩ hb
 ·exact h1.vars.keep (fun b hm _ => by
   obtain ⟨cs, hc⟩ := h1.vars.typed b hm
   exact keep _ _ _ hc (by decide))
 ·exact (h1.flds.keep (fun b hm => by
   obtain ⟨⟨c1, t1⟩, c2, t2⟩ := h1.flds.typed b hm
   exact ⟨fun _ => keep _ _ _ t1 (by decide), fun _ => keep _ _ _ t2 (by decide)⟩)).snoc ((keep _ _ _ i0 (by decide)).trans i0) ((keep _ _ _ i1 (by decide)).trans i1)
 ·rw [ef, List.nodup_append]
  refine ⟨h.ndo, by simpa using hne, fun x hx y hy e => ?_⟩
  have := hlt x hx
  simp only [List.mem_cons, List.not_mem_nil, or_false] at hy
  rcases hy with rfl | rfl <;> omega
 ·intro c hc e
  rw [ef] at hc
  rcases List.mem_append.1 hc with hc | hc
  ·exact h.eo c hc e
  ·have := own_lt h.evs.out c e
   simp only [List.mem_cons, List.not_mem_nil, or_false] at hc
   rcases hc with rfl | rfl <;> omega
 ·intro c hc
  rw [ef] at hc
  rcases List.mem_append.1 hc with hc | hc
  ·exact h.base.2.2 c hc
  ·have := h.bel.size
   simp only [List.mem_cons, List.not_mem_nil, or_false] at hc
   rcases hc with rfl | rfl <;> omega
end
section
variable {w0 : World} {sb : Nat} {W : World} {s : VSt} {fs : List Nat} {os : List (Nat × Nat)} {sv ev hv : Value}
set_option maxHeartbeats 2000000 in
theorem rtrap_any (h : RM w0 sb W s fs os sv ev hv) (e : Int) :
  Calls Try.prog 40 #[.pointer (some ⟨sb, 0, none⟩), .int .i64 e] W fun r W' => r = .returned (.tuple #[]) ∧ RM w0 sb W' { s with fin := 2, code := e } fs os sv ev hv := by
 have hm := h.blk
 have q0 := blk_frozen hm 3
 have q1 := blk_frozen hm 5
 have q2 : W.cell? ⟨sb, 3, none⟩ = some (.int .i64 s.fin) := blk_cell hm 3
 have q3 : W.cell? ⟨sb, 5, none⟩ = some (.int .i64 s.code) := blk_cell hm 5
 go_enter Try.func40, Try.ntmps40
 go_wp2
 go_end0
 exact ⟨rfl, h.setS ((KO.set sb 3 W (.int .i64 2)).trans (KO.set sb 5 _ (.int .i64 e))) rfl rfl rfl ((blk_set ((blk_set hm 3 _).trans rfl) 5 _).trans rfl)⟩
set_option maxHeartbeats 2000000 in
theorem rin_any (h : RM w0 sb W s fs os sv ev hv) (l : List Int) (A : Option Addr) (c : Nat) (n : Int) :
  Calls Try.prog 39 #[.pointer (some ⟨sb, 0, none⟩), .slice A l.length c, .int .i64 n] W fun r W' => r = .returned (.bool (decide (fldE l n = 0))) ∧ (fldE l n = 0 → W' = W) ∧ (fldE l n ≠ 0 → RM w0 sb W' { s with fin := 2, code := 15 } fs os sv ev hv) := by
 by_cases hok : 0 ≤ n ∧ n < l.length
 ·have e : fldE l n = 0 := by unfold fldE; rw [if_pos hok]
  rw [e]
  have b1 : decide (n < 0) = false := decide_eq_false (by omega)
  have b2 : decide ((l.length : Int) ≤ n) = false := decide_eq_false (by omega)
  replace hok := Aside0.mk hok
  go_enter Try.func39, Try.ntmps39
  go_wp2
  go_ret
  exact ⟨rfl, fun _ => rfl, fun q => absurd rfl q⟩
 ·have e : fldE l n = 15 := by unfold fldE; rw [if_neg hok]
  rw [e]
  have ht := Aside0.mk (rtrap_any h 15)
  have hd : decide ((15 : Int) = 0) = false := rfl
  rw [hd]
  by_cases h0 : n < 0
  ·have b1 : decide (n < 0) = true := decide_eq_true h0
   clear hok
   go_enter Try.func39, Try.ntmps39
   go_wp2_with (go_at_call 40; ((with_reducible refine ht.out.mono ?_); rintro e w2 ⟨rfl, hz⟩))
   go_ret
   exact ⟨rfl, fun q => absurd q (by decide), fun _ => hz⟩
  ·have b1 : decide (n < 0) = false := decide_eq_false h0
   have b2 : decide ((l.length : Int) ≤ n) = true := decide_eq_true (by omega)
   clear hok
   go_enter Try.func39, Try.ntmps39
   go_wp2_with (go_at_call 40; ((with_reducible refine ht.out.mono ?_); rintro e w2 ⟨rfl, hz⟩))
   go_ret
   exact ⟨rfl, fun q => absurd q (by decide), fun _ => hz⟩
set_option maxHeartbeats 2000000 in
theorem robj_no (h : RM w0 sb W s fs os sv ev hv) (o : Int) (ho : objE s.heap o ≠ 0) :
  Calls Try.prog 38 #[.pointer (some ⟨sb, 0, none⟩), .int .i64 o] W fun r W' => r = .returned (.tuple #[.pointer none, .bool false]) ∧ RM w0 sb W' { s with fin := 2, code := 14 } fs os sv ev hv := by
 have ho' : ¬ (1 ≤ o ∧ o ≤ s.heap.length) := fun q => ho (objE_in q)
 have hm := h.blk
 obtain ⟨HA, hc, rfl⟩ := own_slice h.objs.out
 have q1 : W.cell? ⟨sb, 1, none⟩ = some (.slice HA s.heap.length hc) := blk_cell hm 1
 have ht := Aside0.mk (rtrap_any h 14)
 replace ho := Aside0.mk ho
 by_cases h0 : o < 1
 ·have b1 : decide (o < 1) = true := decide_eq_true h0
  clear ho' hm
  go_enter Try.func38, Try.ntmps38
  go_wp2_with (go_at_call 40; ((with_reducible refine ht.out.mono ?_); rintro e w2 ⟨rfl, hz⟩))
  go_ret2
  exact ⟨rfl, hz⟩
 ·have b1 : decide (o < 1) = false := decide_eq_false h0
  have b2 : decide ((s.heap.length : Int) < o) = true := decide_eq_true (by omega)
  clear ho' hm
  go_enter Try.func38, Try.ntmps38
  go_wp2_with (go_at_call 40; ((with_reducible refine ht.out.mono ?_); rintro e w2 ⟨rfl, hz⟩))
  go_ret2
  exact ⟨rfl, hz⟩
set_option maxHeartbeats 2000000 in
theorem robj_at {g c : Nat} (h : RM w0 sb W s fs os sv ev (.slice (some ⟨g, 0, none⟩) s.heap.length c)) (o : Int) (k : Nat) (hk : k < s.heap.length) (ho : o = (k : Int) + 1) (hl : s.heap.length ≤ 100000) :
  Calls Try.prog 38 #[.pointer (some ⟨sb, 0, none⟩), .int .i64 o] W fun r W' => r = .returned (.tuple #[.pointer (some ⟨g, k * 2, none⟩), .bool true]) ∧ W' = W := by
 have hm := h.blk
 have q1 : W.cell? ⟨sb, 1, none⟩ = some (.slice (some ⟨g, 0, none⟩) s.heap.length c) := blk_cell hm 1
 have b1 : decide (o < 1) = false := decide_eq_false (by omega)
 have b2 : decide ((s.heap.length : Int) < o) = false := decide_eq_false (by omega)
 have e3 : IntKind.i64.wrap (o - 1) = (k : Int) := by rw [IntKind.wrap_i64]; omega
 have e4 : (k : Int) < (s.heap.length : Int) := by omega
 replace ho := Aside0.mk ho
 clear hm
 go_enter Try.func38, Try.ntmps38
 go_wp2
 go_ret2
 exact ⟨rfl, rfl⟩
theorem rbit_any (b : Bool) (w : World) : Calls Try.prog 37 #[.bool b] w fun e w' => e = .returned (.int .i64 (bitV b).f0) ∧ w' = w := by
 cases b
 ·go_enter Try.func37, Try.ntmps37
  go_wp2
  go_ret
  exact ⟨rfl, rfl⟩
 ·go_enter Try.func37, Try.ntmps37
  go_wp2
  go_ret
  exact ⟨rfl, rfl⟩
end
theorem valR_at {W : World} {A : Option Addr} {l : List SVal} (h : Rd kVal W A l) (k : Nat) (hk : k < l.length) : ∃ ad, A = some ad ∧ W.cell? (ad.add (k * 3)) = some (.int .i64 (varAt l k).f0) ∧ W.cell? ⟨(ad.add (k * 3)).block, (ad.add (k * 3)).off + 1, none⟩ = some (.int .i64 (varAt l k).f1) ∧ W.cell? ⟨(ad.add (k * 3)).block, (ad.add (k * 3)).off + 2, none⟩ = some (.int .i64 (varAt l k).f2) := by
 obtain ⟨ad, e, h0, h1, h2⟩ := at_TVal h.out (k : Int) (by omega) (by omega)
 have e1 : rd_TVal l (k : Int) = varAt l k := rfl
 rw [e1] at h0 h1 h2
 simp only [Int.toNat_natCast] at h0 h1 h2
 exact ⟨ad, e, h0, h1, h2⟩
theorem varAt_nat {l : List SVal} {k : Nat} (h : k < l.length) : varAt l (k : Int) = l[k] := by unfold varAt; rw [Int.toNat_natCast, List.getD_eq_getElem?_getD, List.getElem?_eq_getElem h, Option.getD_some]
theorem step_args (args d : List SVal) (k : Nat) (hk : k < args.length) (hd : args.length ≤ d.length) : (args.take k ++ d.drop k).set k args[k] = args.take (k + 1) ++ d.drop (k + 1) := by
 have h1 : (args.take k).length = k := by simp; omega
 rw [List.set_append_right _ _ (by omega), h1, Nat.sub_self, List.take_succ_eq_append_getElem hk, List.append_assoc]
 congr 1
 have hdk : k < d.length := by omega
 rw [List.drop_eq_getElem_cons hdk]
 rfl
theorem put4 {W : World} {b t : Nat} {c0 c1 c2 c3 : Value} (hb : W.heap[b]? = some (.cells #[c0, c1, c2, c3] t (0, 0))) (u0 u1 u2 u3 : Value) :
  ((((W.setCell ⟨b, 0, none⟩ u0).setCell ⟨b, 1, none⟩ u1).setCell ⟨b, 2, none⟩ u2).setCell ⟨b, 3, none⟩ u3).heap[b]? = some (.cells #[u0, u1, u2, u3] t (0, 0)) ∧ ∀ w0 : World, Bel w0 W → w0.heap.size ≤ b → Bel w0 ((((W.setCell ⟨b, 0, none⟩ u0).setCell ⟨b, 1, none⟩ u1).setCell ⟨b, 2, none⟩ u2).setCell ⟨b, 3, none⟩ u3) :=
 ⟨(blk_set (blk_set (blk_set (blk_set hb 0 u0) 1 u1) 2 u2) 3 u3).trans rfl, fun w0 h hn => ⟨(((h.out.setCell (p := ⟨b, 0, none⟩) hn u0).setCell (p := ⟨b, 1, none⟩) hn u1).setCell (p := ⟨b, 2, none⟩) hn u2).setCell (p := ⟨b, 3, none⟩) hn u3⟩⟩
set_option maxHeartbeats 4000000 in
theorem begin_any (p : SProg) (w : World) (PA : Option Addr) (pc : Nat) (hP : Rd kFunc w PA p.f0) (fn : Nat) (hfn : fn < p.f0.length) (hf8 : p.f0.length ≤ 100) (args : List SVal) (A : Option Addr) (c : Nat) (hR : Rd kVal w A args)
  (hl : args.length ≤ (fnAt p fn).f0.length) (h48 : (fnAt p fn).f0.length ≤ 48) :
  Calls Try.prog 22 #[.agg #[.slice PA p.f0.length pc], .int .i64 fn, .slice A args.length c] w fun e W' => ∃ vb, e = .returned (.agg #[.int .i64 fn, .slice (some ⟨vb, 0, none⟩) (fnAt p fn).f0.length (fnAt p fn).f0.length, .int .i64 0, .int .i64 0]) ∧ ValsAt W' vb (beginL p fn args).vars ∧ w.heap.size ≤ vb ∧ Bel w W' := by
 obtain ⟨ad, A0, A1, A4, c0, c1, c4, rfl, y0, _, _, _, _, _, _, _, l0, _, _⟩ := func_at hP fn hfn
 have ef : p.f0[fn] = fnAt p fn := by unfold fnAt; rw [List.getD_eq_getElem?_getD, List.getElem?_eq_getElem hfn]; rfl
 rw [ef] at y0 l0
 have hlt : (fn : Int) < (p.f0.length : Int) := by omega
 obtain ⟨nv, hnv⟩ : ∃ nv, (fnAt p fn).f0.length = nv := ⟨_, rfl⟩
 rw [hnv] at y0 l0 hl h48 ⊢
 have hvl : (beginL p fn args).vars = args.take args.length ++ (List.replicate nv zVal).drop args.length := by
  show args ++ List.replicate ((fnAt p fn).f0.length - args.length) zVal = _
  rw [hnv, List.drop_replicate, List.take_length]
 replace hvl := Aside0.mk hvl
 obtain ⟨g, hg⟩ : ∃ g, w.heap.size = g := ⟨_, rfl⟩
 have hB : Bel w ((w.alloc (.cells #[.slice (some ad) p.f0.length pc] 24)).alloc (.cells #[.int .i64 0, .slice none 0 0, .int .i64 0, .int .i64 0] 62)) := ((Bel.refl w).alloc _).alloc _
 have hb0 : ((w.alloc (.cells #[.slice (some ad) p.f0.length pc] 24)).alloc (.cells #[.int .i64 0, .slice none 0 0, .int .i64 0, .int .i64 0] 62)).heap[g]? = some (.cells #[.slice (some ad) p.f0.length pc] 24 (0, 0)) := heap_old (heap_new' hg.symm)
 have hb1 : ((w.alloc (.cells #[.slice (some ad) p.f0.length pc] 24)).alloc (.cells #[.int .i64 0, .slice none 0 0, .int .i64 0, .int .i64 0] 62)).heap[g + 1]? = some (.cells #[.int .i64 0, .slice none 0 0, .int .i64 0, .int .i64 0] 62 (0, 0)) := heap_new' (by simp [hg])
 replace hnv := Aside0.mk hnv
 clear ef
 go_enter Try.func22, Try.ntmps22
 go_upto_region 1 with (fail)
 generalize (w.alloc (.cells #[.slice (some ad) p.f0.length pc] 24)).alloc (.cells #[.int .i64 0, .slice none 0 0, .int .i64 0, .int .i64 0] 62) = wa at hB hb0 hb1 ⊢
 have z0 : wa.cell? ⟨g, 0, none⟩ = some (.slice (some ad) p.f0.length pc) := blk_cell hb0 0
 have z1 := Bel.cell hB y0
 clear y0
 have hmv := make_vals nv (by omega)
 obtain ⟨b, hb⟩ : ∃ b, wa.heap.size = b := ⟨_, rfl⟩
 have hb2 : ((wa.alloc (.cells (valCells (List.replicate nv zVal)).toArray 89)).alloc (.cells #[.int .i64 fn, .slice (some ⟨b, 0, none⟩) nv nv, .int .i64 0, .int .i64 0] 62)).heap[b]? = some (.cells (valCells (List.replicate nv zVal)).toArray 89 (0, 0)) := heap_old (heap_new' hb.symm)
 have hb3 : ((wa.alloc (.cells (valCells (List.replicate nv zVal)).toArray 89)).alloc (.cells #[.int .i64 fn, .slice (some ⟨b, 0, none⟩) nv nv, .int .i64 0, .int .i64 0] 62)).heap[b + 1]? = some (.cells #[.int .i64 fn, .slice (some ⟨b, 0, none⟩) nv nv, .int .i64 0, .int .i64 0] 62 (0, 0)) := heap_new' (by simp [hb])
 have hBa : Bel wa ((wa.alloc (.cells (valCells (List.replicate nv zVal)).toArray 89)).alloc (.cells #[.int .i64 fn, .slice (some ⟨b, 0, none⟩) nv nv, .int .i64 0, .int .i64 0] 62)) := ((Bel.refl wa).alloc _).alloc _
 go_upto_region 2 with (fail)
 generalize (wa.alloc (.cells (valCells (List.replicate nv zVal)).toArray 89)).alloc (.cells #[.int .i64 fn, .slice (some ⟨b, 0, none⟩) nv nv, .int .i64 0, .int .i64 0] 62) = wb at hBa hb2 hb3 ⊢
 have hBb := hB.trans hBa
 have hb1' := hBa.blk hb1
 have hgb : g + 1 < b := by have := blk_lt hb1; omega
 clear hmv z0 z1 hb0 hb1 hBa
 replace hg := Aside0.mk hg
 replace hb := Aside0.mk hb
 go_wp2
 go_loopw [8] (fun i W => ∃ k : Nat, k ≤ args.length ∧ i = .int .i64 k ∧ ValsAt W b (args.take k ++ (List.replicate nv zVal).drop k) ∧ KO b wb W) (fun i _ => args.length - (intOf i).toNat)
 case atStart => exact ⟨0, by omega, rfl, hb2, KO.refl _ _⟩
 case round =>
  obtain ⟨k, hk, rfl, hvs, hK⟩ := hrel
  have hBr : Bel w wr := hK.bel hBb (by have := hg.out; omega)
  have hfr := hK.blk hb3 (by omega)
  have hfz := hK.blk hb1' (by omega)
  by_cases hlt : k < args.length
  ·obtain ⟨aa, rfl, a0, a1, a2⟩ := valR_at (hR.step hBr) k hlt
   have hlen : (args.take k ++ (List.replicate nv zVal).drop k).length = nv := by simp; omega
   have hkn : (k : Int) < (nv : Int) := by omega
   have hka : (k : Int) < (args.length : Int) := by omega
   have hBd : Bel wr wr.drew := (Bel.refl wr).drewN 1
   have z1 : wr.cell? ⟨b + 1, 1, none⟩ = some (.slice (some ⟨b, 0, none⟩) nv nv) := blk_cell hfr 1
   go_upto_region 5 with (fail)
   go_still_tail 8, (by kernel_rfl)
   have hvd := hBd.blk hvs
   have hKd := hK.trans (KO.of_bel hBd (Nat.le_of_lt (blk_lt hvs)))
   change wpList _ _ _ _ _ wr.drew
   generalize wr.drew = wd at hvd hKd ⊢
   obtain ⟨y0, y1, y2⟩ := ValsAt.at_ hvd k (by omega)
   have x0 := blk_frozen hvd (k * 3)
   have x1 := blk_frozen hvd (k * 3 + 1)
   have x2 := blk_frozen hvd (k * 3 + 2)
   clear z1 a0 a1 a2
   go_wp2
   go_roundw
   case rel => exact ⟨k + 1, by omega, by go_num, by
    have := ValsAt.put hvd k (by omega) (varAt args k)
    rw [varAt_nat hlt, step_args args _ k hlt (by simp; omega), ← varAt_nat hlt] at this
    exact this, hKd.trans (KO.set3 b _ _ _ wd _ _ _)⟩
   case measure => simp [intOf]; omega
  ·obtain rfl : k = args.length := by omega
   have z0 : wr.cell? ⟨b + 1, 0, none⟩ = some (.int .i64 fn) := blk_cell hfr 0
   have z1 : wr.cell? ⟨b + 1, 1, none⟩ = some (.slice (some ⟨b, 0, none⟩) nv nv) := blk_cell hfr 1
   have z2 : wr.cell? ⟨b + 1, 2, none⟩ = some (.int .i64 0) := blk_cell hfr 2
   have z3 : wr.cell? ⟨b + 1, 3, none⟩ = some (.int .i64 0) := blk_cell hfr 3
   have x0 := blk_frozen hfz 0
   have x1 := blk_frozen hfz 1
   have x2 := blk_frozen hfz 2
   have x3 := blk_frozen hfz 3
   have y0 : wr.cell? ⟨g + 1, 0, none⟩ = some (.int .i64 0) := blk_cell hfz 0
   have y1 : wr.cell? ⟨g + 1, 1, none⟩ = some (.slice none 0 0) := blk_cell hfz 1
   have y2 : wr.cell? ⟨g + 1, 2, none⟩ = some (.int .i64 0) := blk_cell hfz 2
   have y3 : wr.cell? ⟨g + 1, 3, none⟩ = some (.int .i64 0) := blk_cell hfz 3
   have hp := put4 hfz (.int .i64 fn) (.slice (some ⟨b, 0, none⟩) nv nv) (.int .i64 0) (.int .i64 0)
   have hv4 := blk_far (blk_far (blk_far (blk_far hvs (p := ⟨g + 1, 0, none⟩) (by show b ≠ g + 1; omega) (.int .i64 fn)) (p := ⟨g + 1, 1, none⟩) (by show b ≠ g + 1; omega) (.slice (some ⟨b, 0, none⟩) nv nv)) (p := ⟨g + 1, 2, none⟩) (by show b ≠ g + 1; omega) (.int .i64 0)) (p := ⟨g + 1, 3, none⟩) (by show b ≠ g + 1; omega) (.int .i64 0)
   have hz := hp.2 w hBr (by have := hg.out; omega)
   replace hp := Aside0.mk hp.1
   go_wp2
   refine bodyPost_ret (results_cell_row rfl _ _ (g + 1) 62 #[.int .i64 fn, .slice (some ⟨b, 0, none⟩) nv nv, .int .i64 0, .int .i64 0] (0, 0) _ rfl hp.out Try.underlying62 rfl (by kernel_rfl)) rfl ?_
   refine ⟨b, rfl, ?_, by have := hg.out; omega, hz⟩
   rw [hvl.out]
   exact hv4
section
variable {w0 : World} {sb : Nat} {W : World} {s : VSt} {f : VFr} {r : List VFr} {fs : List Nat} {os : List (Nat × Nat)} {sv ev hv : Value}
theorem RM.form (h : RM w0 sb W s fs os sv ev hv) (hst : s.stack = f :: r) : ∃ g c vb fs1, sv = .slice (some ⟨g, 0, none⟩) (r.length + 1) c ∧ fs = vb :: fs1 ∧ fs1.length = r.length ∧ ValsAt W vb f.vars := by
 have h0 := h.stack.out
 have hl := h.vars.len
 have hv0 := h.vars
 rw [hst] at h0 hl hv0
 obtain ⟨g, c, e⟩ : ∃ g c, sv = .slice (some ⟨g, 0, none⟩) (r.length + 1) c := by
  rcases h0.2 with ⟨e, hl0⟩ | ⟨g, c, cur, e, _⟩
  ·simp at hl0
  ·exact ⟨g, c, e⟩
 cases hv0 with
 | cons hb hr => exact ⟨g, c, _, _, e, rfl, by simpa using hl, hb⟩
theorem RM.top {g c vb nn : Nat} (h : RM w0 sb W s (vb :: fs) os (.slice (some ⟨g, 0, none⟩) (nn + 1) c) ev hv) (hst : s.stack = f :: r) (hn : r.length = nn) :
  W.cell? ⟨g, nn * 4, none⟩ = some (.int .i64 f.fn) ∧ W.cell? ⟨g, nn * 4 + 1, none⟩ = some (.slice (some ⟨vb, 0, none⟩) f.vars.length f.vars.length) ∧ W.cell? ⟨g, nn * 4 + 2, none⟩ = some (.int .i64 f.blk) ∧ W.cell? ⟨g, nn * 4 + 3, none⟩ = some (.int .i64 f.pos) ∧ ∀ j, W.frozen? ⟨g, j, none⟩ = false := by
 have h0 := h.stack.out
 have hl := h.vars.len
 rw [hst] at h0 hl
 have hl' : fs.length = r.length := by simpa using hl
 have e : rfCells (f :: r) (vb :: fs) = rfCells r fs ++ [.int .i64 f.fn, .slice (some ⟨vb, 0, none⟩) f.vars.length f.vars.length, .int .i64 f.blk, .int .i64 f.pos] := rfl
 have hr := rfCells_len r fs hl'
 rw [e] at h0
 subst hn
 have h1 : W.ownsRow w0.heap.size 62 4 (.slice (some ⟨g, 0, none⟩) (r.length + 1) c) (r.length + 1) (rfCells r fs ++ [.int .i64 f.fn, .slice (some ⟨vb, 0, none⟩) f.vars.length f.vars.length, .int .i64 f.blk, .int .i64 f.pos]) := h0
 have hc := h1.cellAt
 have at_ : ∀ i, i < 4 → W.cell? ⟨g, r.length * 4 + i, none⟩ = [Value.int .i64 f.fn, .slice (some ⟨vb, 0, none⟩) f.vars.length f.vars.length, .int .i64 f.blk, .int .i64 f.pos][i]? := fun i hi => by
  rw [hc (r.length * 4 + i) (by omega), List.getElem?_append_right (by omega), hr]
  congr 1
  omega
 exact ⟨at_ 0 (by omega), at_ 1 (by omega), at_ 2 (by omega), at_ 3 (by omega), h1.frozenAt⟩
theorem RM.setPos {g c vb nn : Nat} (h : RM w0 sb W s (vb :: fs) os (.slice (some ⟨g, 0, none⟩) (nn + 1) c) ev hv) (hst : s.stack = f :: r) (hn : r.length = nn) (v : Nat) :
  RM w0 sb (W.setCell ⟨g, nn * 4 + 3, none⟩ (.int .i64 v)) { s with stack := { f with pos := v } :: r } (vb :: fs) os (.slice (some ⟨g, 0, none⟩) (nn + 1) c) ev hv := by
 subst hn
 have hl : s.stack.length = r.length + 1 := by rw [hst]; rfl
 rw [← hl] at h ⊢
 refine h.setF hst rfl rfl (KO.set g _ W _) (fun xs hx ho => ?_)
 rw [hl] at ho ⊢
 have h2 := (ho.stored (r.length * 4 + 3) (.int .i64 v)).1
 rw [List.set_append_right _ _ (by omega), show r.length * 4 + 3 - xs.length = 3 by omega] at h2
 exact h2
theorem RM.setBlk {g c vb nn : Nat} (h : RM w0 sb W s (vb :: fs) os (.slice (some ⟨g, 0, none⟩) (nn + 1) c) ev hv) (hst : s.stack = f :: r) (hn : r.length = nn) (v : Nat) :
  RM w0 sb (W.setCell ⟨g, nn * 4 + 2, none⟩ (.int .i64 v)) { s with stack := { f with blk := v } :: r } (vb :: fs) os (.slice (some ⟨g, 0, none⟩) (nn + 1) c) ev hv := by
 subst hn
 have hl : s.stack.length = r.length + 1 := by rw [hst]; rfl
 rw [← hl] at h ⊢
 refine h.setF hst rfl rfl (KO.set g _ W _) (fun xs hx ho => ?_)
 rw [hl] at ho ⊢
 have h2 := (ho.stored (r.length * 4 + 2) (.int .i64 v)).1
 rw [List.set_append_right _ _ (by omega), show r.length * 4 + 2 - xs.length = 2 by omega] at h2
 exact h2
theorem RM.want (h : RM w0 sb W s fs os sv ev hv) (hst : s.stack = f :: r) (n : Nat) : RM w0 sb W { s with stack := { f with want := n } :: r } fs os sv ev hv := by
 have h0 := h.stack.out
 have hv0 := h.vars
 rw [hst] at h0 hv0
 refine ⟨h.bel, h.blk, ⟨?_⟩, ?_, h.evs, h.objs, h.flds, h.nd, h.ndo, h.eo, h.base⟩
 ·cases hv0 with
  | cons _ _ => exact h0
 ·cases hv0 with
  | cons hb hr => exact .cons hb hr
theorem RM.neG {g c vb nn b t : Nat} {cs : Array Value} {fr : Nat × Nat} (h : RM w0 sb W s (vb :: fs) os (.slice (some ⟨g, 0, none⟩) (nn + 1) c) ev hv) (hb : W.heap[b]? = some (.cells cs t fr)) (ht : 62 ≠ t) : b ≠ g := fun e => own_neT h.stack.out hb ht g rfl (by rw [e])
end
def RStepIs (w0 : World) (sb : Nat) (t : VSt) (e : Ending) (W' : World) : Prop := e = .returned (.tuple #[]) ∧ ∃ fs os sv ev hv, RM w0 sb W' t fs os sv ev hv
theorem RStepIs.of {w0 W' : World} {sb : Nat} {t t' : VSt} {fs : List Nat} {os : List (Nat × Nat)} {sv ev hv : Value} (h : RM w0 sb W' t fs os sv ev hv) (e : t' = t) : RStepIs w0 sb t' (.returned (.tuple #[])) W' := ⟨rfl, fs, os, sv, ev, hv, e ▸ h⟩
abbrev SR (b1 g nn : Nat) (f : VFr) (adp : Addr) (pl pc : Nat) (ad4 ad5 : Addr) (A6 : Option Addr) (bl c4 cl d4 c6 : Nat) (op : Int) (x : SIns) (w' : World) : Prop :=
 w'.cell? ⟨b1, 0, none⟩ = some (.slice (some adp) pl pc) ∧ w'.cell? ⟨g, nn * 4, none⟩ = some (.int .i64 f.fn) ∧ w'.cell? ⟨g, nn * 4 + 2, none⟩ = some (.int .i64 f.blk) ∧ w'.cell? ⟨g, nn * 4 + 3, none⟩ = some (.int .i64 f.pos) ∧ w'.cell? ⟨(adp.add (f.fn * 5)).block, (adp.add (f.fn * 5)).off + 4, none⟩ = some (.slice (some ad4) bl c4) ∧ w'.cell? (ad4.add f.blk) = some (.slice (some ad5) cl d4) ∧ w'.cell? (ad5.add (f.pos * 7)) = some (.int .i64 op) ∧ w'.cell? ⟨(ad5.add (f.pos * 7)).block, (ad5.add (f.pos * 7)).off + 1, none⟩ = some (.int .i64 x.f1) ∧ w'.cell? ⟨(ad5.add (f.pos * 7)).block, (ad5.add (f.pos * 7)).off + 2, none⟩ = some (.int .i64 x.f2) ∧ w'.cell? ⟨(ad5.add (f.pos * 7)).block, (ad5.add (f.pos * 7)).off + 3, none⟩ = some (.int .i64 x.f3) ∧ w'.cell? ⟨(ad5.add (f.pos * 7)).block, (ad5.add (f.pos * 7)).off + 4, none⟩ = some (.int .i64 x.f4) ∧ w'.cell? ⟨(ad5.add (f.pos * 7)).block, (ad5.add (f.pos * 7)).off + 5, none⟩ = some (.int .i64 x.f5) ∧ w'.cell? ⟨(ad5.add (f.pos * 7)).block, (ad5.add (f.pos * 7)).off + 6, none⟩ = some (.slice A6 x.f6.length c6)
abbrev insC (op : Int) (x : SIns) (A6 : Option Addr) (c6 : Nat) : Obj := .cells #[.int .i64 op, .int .i64 x.f1, .int .i64 x.f2, .int .i64 x.f3, .int .i64 x.f4, .int .i64 x.f5, .slice A6 x.f6.length c6] 57 (0, 0)
theorem rpost {w0 we : World} {sb vb g nn sc X c6 : Nat} {s : VSt} {f : VFr} {r : List VFr} {fs : List Nat} {os : List (Nat × Nat)} {ev hv : Value} {op : Int} {x : SIns} {A6 : Option Addr}
  (h : RM w0 sb we { s with stack := { f with pos := f.pos + 1 } :: r, steps := s.steps + 1 } (vb :: fs) os (.slice (some ⟨g, 0, none⟩) (nn + 1) sc) ev hv) (hn : r.length = nn) (hbX : we.heap[X]? = some (insC op x A6 c6)) :
  we.cell? ⟨g, nn * 4 + 1, none⟩ = some (.slice (some ⟨vb, 0, none⟩) f.vars.length f.vars.length) ∧ (∀ j, we.frozen? ⟨g, j, none⟩ = false) ∧ we.cell? ⟨X, 0, none⟩ = some (.int .i64 op) ∧ we.cell? ⟨X, 4, none⟩ = some (.int .i64 x.f4) ∧ we.cell? ⟨X, 5, none⟩ = some (.int .i64 x.f5) ∧ we.cell? ⟨X, 6, none⟩ = some (.slice A6 x.f6.length c6) ∧ ValsAt we vb f.vars := by
 obtain ⟨u0, u1, u2, u3, hfz⟩ := h.top (f := { f with pos := f.pos + 1 }) (r := r) rfl hn
 obtain ⟨_, _, _, _, _, q, _, hq⟩ := h.form (f := { f with pos := f.pos + 1 }) (r := r) rfl
 injection q with q
 subst q
 exact ⟨u1, hfz, blk_cell hbX 0, blk_cell hbX 4, blk_cell hbX 5, blk_cell hbX 6, hq⟩
theorem rpre (w0 : World) (p : SProg) (sb : Nat) (W : World) (s : VSt) (fs0 : List Nat) (os : List (Nat × Nat)) (sv ev hv : Value) (PA : Option Addr) (pc : Nat) (hP : Rd kFunc w0 PA p.f0) (h : RM w0 sb W s fs0 os sv ev hv) (hp : Aside0 (ProgP p)) (f : VFr) (r : List VFr) (hG : GoP p s f r) (hs4 : s.steps ≤ 4000) :
  ∃ (g sc vb nn b1 c4 d4 c6 cl bl pl : Nat) (fs : List Nat) (adp ad4 ad5 : Addr) (A6 : Option Addr) (x : SIns), sv = .slice (some ⟨g, 0, none⟩) (nn + 1) sc ∧ fs0 = vb :: fs ∧ PA = some adp ∧
   (nn < 60) ∧
   (IntKind.i64.wrap ((s.steps : Int) + 1) = (s.steps : Int) + 1) ∧
   (IntKind.i64.wrap (((nn + 1 : Nat) : Int) - 1) = (nn : Int)) ∧
   ((nn : Int) < ((nn + 1 : Nat) : Int)) ∧
   (RM w0 sb W s (vb :: fs) os (.slice (some ⟨g, 0, none⟩) (nn + 1) sc) ev hv) ∧
   (Bel W (W.alloc (.cells #[.slice (some adp) pl pc] 24))) ∧
   ((W.alloc (.cells #[.slice (some adp) pl pc] 24)).heap[b1]? = some (.cells #[.slice (some adp) pl pc] 24 (0, 0))) ∧
   (∀ W2 X : World, Bel w0 W2 → Bel W2 X → W2.cell? ⟨b1, 0, none⟩ = some (.slice (some adp) pl pc) → W2.cell? ⟨g, nn * 4, none⟩ = some (.int .i64 f.fn) → W2.cell? ⟨g, nn * 4 + 2, none⟩ = some (.int .i64 f.blk) → W2.cell? ⟨g, nn * 4 + 3, none⟩ = some (.int .i64 f.pos) → SR b1 g nn f adp pl pc ad4 ad5 A6 bl c4 cl d4 c6 x.f0 x X) ∧
   (RdI w0 A6 x.f6) ∧
   ((f.pos : Int) < (cl : Int)) ∧
   ((f.blk : Int) < (bl : Int)) ∧
   ((f.fn : Int) < (pl : Int)) ∧
   (IntKind.i64.wrap ((f.pos : Int) + 1) = (f.pos : Int) + 1) ∧
   (pl ≤ 8) ∧
   (Aside0 (InsP p (fnAt p f.fn) x)) ∧
   (Aside0 (FitP (fnAt p f.fn) x)) ∧
   (Aside0 (fs.length = r.length)) ∧
   (Aside0 (r.length = nn)) ∧
   (Aside0 (s.stack = f :: r)) ∧
   (Aside0 (insAt p f = x)) ∧
   (Aside0 (p.f0.length = pl)) ∧
   (Aside0 (W.heap.size = b1)) ∧
   (Aside0 (FrP p s.heap.length f)) := by
 have hst := hG.stack
 have hfew := hG.few
 obtain ⟨g, sc, vb, fs, rfl, rfl, hlen, -⟩ := h.form hst
 obtain ⟨nn, hnn⟩ : ∃ nn, r.length = nn := ⟨_, rfl⟩
 have hn60 : nn < 60 := by omega
 have e7 : IntKind.i64.wrap ((s.steps : Int) + 1) = (s.steps : Int) + 1 := by rw [IntKind.wrap_i64]; omega
 have e1 : IntKind.i64.wrap (((nn + 1 : Nat) : Int) - 1) = (nn : Int) := by rw [IntKind.wrap_i64]; omega
 have l1 : (nn : Int) < ((nn + 1 : Nat) : Int) := by omega
 rw [hnn] at h
 have hT := hG.top
 obtain ⟨b1, hb1n⟩ : ∃ b1, W.heap.size = b1 := ⟨_, rfl⟩
 have hB0 : Bel W (W.alloc (.cells #[.slice PA p.f0.length pc] 24)) := (Bel.refl W).alloc _
 have hb1 : (W.alloc (.cells #[.slice PA p.f0.length pc] 24)).heap[b1]? = some (.cells #[.slice PA p.f0.length pc] 24 (0, 0)) := heap_new' hb1n.symm
 have hfn := hT.fn
 obtain ⟨adp, F0, F1, A4, d0, d1, c4, hPA, -, -, -, -, y4, -, -, hrd, -, -, -⟩ := func_at hP f.fn hfn
 have ef : p.f0[f.fn] = fnAt p f.fn := by unfold fnAt; rw [List.getD_eq_getElem?_getD, List.getElem?_eq_getElem hfn]; rfl
 rw [ef] at y4 hrd
 obtain ⟨ad4, B0, d4, hA4, y0, -, hri⟩ := block_at hrd f.blk hT.blk
 obtain ⟨hpl, hpe⟩ := insAt_eq hT.blk hT.pos
 obtain ⟨ad5, A6, c6, hB0e, y10, y11, y12, y13, y14, y15, y16, hl6, hR6⟩ := ins_at hri f.pos hpl
 rw [hpe] at y10 y11 y12 y13 y14 y15 y16 hl6 hR6
 subst hPA hA4 hB0e
 obtain ⟨x, hx⟩ : ∃ x, insAt p f = x := ⟨_, rfl⟩
 rw [hx] at y10 y11 y12 y13 y14 y15 y16 hl6 hR6
 obtain ⟨cl, hcl⟩ : ∃ cl, ((fnAt p f.fn).f4[f.blk]'hT.blk).f0.length = cl := ⟨_, rfl⟩
 obtain ⟨bl, hbl⟩ : ∃ bl, (fnAt p f.fn).f4.length = bl := ⟨_, rfl⟩
 obtain ⟨pl, hpl'⟩ : ∃ pl, p.f0.length = pl := ⟨_, rfl⟩
 have lpos : (f.pos : Int) < (cl : Int) := by omega
 have lblk : (f.blk : Int) < (bl : Int) := by have := hT.blk; omega
 have lfn : (f.fn : Int) < (pl : Int) := by omega
 rw [hcl] at y0
 rw [hbl] at y4
 obtain ⟨hi, hfi⟩ := hT.ins hp.out
 rw [hx] at hi hfi
 have ep : IntKind.i64.wrap ((f.pos : Int) + 1) = (f.pos : Int) + 1 := by
  have h1 := (hp.out.func f.fn hT.fn).code f.blk hT.blk
  have h2 := hT.pos
  unfold codeAt at h2
  rw [IntKind.wrap_i64]
  omega
 have hpb : p.f0.length ≤ 8 := hp.out.funcs.2
 rw [hpl'] at hB0 hb1 hpb
 replace hi := Aside0.mk hi
 replace hfi := Aside0.mk hfi
 replace hlen := Aside0.mk hlen
 replace hnn := Aside0.mk hnn
 replace hst := Aside0.mk hst
 replace hx := Aside0.mk hx
 replace hpl' := Aside0.mk hpl'
 replace hb1n := Aside0.mk hb1n
 replace hT := Aside0.mk hT
 exact ⟨g, sc, vb, nn, b1, c4, d4, c6, cl, bl, pl, fs, adp, ad4, ad5, A6, x, by rw [hnn.out], rfl, rfl, hn60, e7, e1, l1, h, hB0, hb1, (fun W2 X q k ub u0 u2 u3 => ⟨Bel.cell k ub, Bel.cell k u0, Bel.cell k u2, Bel.cell k u3, Bel.cell (q.trans k) y4, Bel.cell (q.trans k) y0, Bel.cell (q.trans k) y10, Bel.cell (q.trans k) y11, Bel.cell (q.trans k) y12, Bel.cell (q.trans k) y13, Bel.cell (q.trans k) y14, Bel.cell (q.trans k) y15, Bel.cell (q.trans k) y16⟩), hR6, lpos, lblk, lfn, ep, hpb, hi, hfi, hlen, hnn, hst, hx, hpl', hb1n, hT⟩
end Go.Proofs.Ytodjpbidjldblaa.H
