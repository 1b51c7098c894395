/- Texts of this work, joined. Conditions: each stands with its theorem. -/
import Derived.Test.YtodjpbidjldblaaX02
/- Layer 1, law10: a run under way, turned. -/
namespace Go.Proofs.Ytodjpbidjldblaa.H
open Go.RowKit Go.Proofs.YtodjpbidjldblaaW.PrintWords Go.Proofs.YtodjpbidjldblaaW.PrintLast
set_option linter.unusedVariables false
set_option linter.unusedSimpArgs false
set_option maxRecDepth 100000
section
variable {w0 : World} {p : SProg} {mb : Nat} {W W1 W2 W3 : World} {s s1 : VSt} {fs : List (Nat × Nat)} {sv ev hv : Value} {S : Nat → Prop} {f f1 : VFr} {r : List VFr} {fb vb : Nat}
/-- the last function's blocks -/
theorem CM.top (h : CM w0 p mb W s fs sv ev hv S) (hst : s.stack = f :: r) : ∃ fb vb fs1, fs = (fb, vb) :: fs1 ∧ FrAt w0 p W (fb, vb) f := by
  have q := h.frames
  rw [hst] at q
  cases q with
  | cons hf hr => rename_i b bs; exact ⟨b.1, b.2, bs, rfl, hf⟩
theorem CM.len (h : CM w0 p mb W s fs sv ev hv S) : fs.length = s.stack.length := by
  have q := h.frames
  clear h
  generalize s.stack = l at q
  induction q with
  | nil => rfl
  | cons _ _ ih => simp [ih]
theorem CM.rest (h : CM w0 p mb W s ((fb, vb) :: fs) sv ev hv S) (hst : s.stack = f :: r) (k : ∀ c, c ≠ fb → c ≠ vb → c < W.heap.size → W1.heap[c]? = W.heap[c]?) : Frames w0 p W1 fs r := by
  have q := h.frames
  rw [hst] at q
  cases q with
  | cons hf hr =>
    refine hr.keep (fun b hb => ?_)
    obtain ⟨⟨c1, h1⟩, c2, h2⟩ := hr.typed b hb
    obtain ⟨_, _, _, _, _, _, t1, _⟩ := hf.frame
    have t2 := hf.vars
    have n1 := h.nd1
    have n2 := h.nd2
    simp only [List.map_cons, List.nodup_cons] at n1 n2
    refine ⟨k _ (fun e => n1.1 (List.mem_map.2 ⟨b, hb, e⟩)) (two_types h1 t2 (by decide)) (blk_lt h1), k _ (two_types h2 t1 (by decide)) (fun e => n2.1 (List.mem_map.2 ⟨b, hb, e⟩)) (blk_lt h2)⟩
/-- the last function's frame is written -/
theorem CM.setF (h : CM w0 p mb W s ((fb, vb) :: fs) sv ev hv S) (hst : s.stack = f :: r) (hfn : f1.fn = f.fn) (hvs : f1.vars = f.vars) (k : KO fb W W1)
    (hb : ∀ k0 k1 k2 k3 k4 k5, W.heap[fb]? = some (.cells #[k0, k1, k2, k3, k4, k5, .int .i64 f.blk, .int .i64 f.pos, .int .i64 f.want] 122 (0, 0)) → W1.heap[fb]? = some (.cells #[k0, k1, k2, k3, k4, k5, .int .i64 f1.blk, .int .i64 f1.pos, .int .i64 f1.want] 122 (0, 0))) : CM w0 p mb W1 { s with stack := f1 :: r } ((fb, vb) :: fs) sv ev hv S := by
  obtain ⟨PA, pc, hm, hr⟩ := h.blk
  obtain ⟨_, _, _, q0, hf⟩ := h.top hst
  injection q0 with q0 q1
  cases q0
  obtain ⟨k0, k1, k2, k3, A4, c4, hfr, hrd⟩ := hf.frame
  have t2 := hf.vars
  refine ⟨k.bel h.bel (h.base.2 _ (List.mem_cons_self ..)).1, ⟨PA, pc, k.blk hm (two_types hm hfr (by decide)), hr⟩, h.stack.koE rfl k (h.stack.ne hfr (by decide)), h.evs.koE rfl k (h.evs.ne hfr (by decide)), h.heap.ko k (h.sf _ (List.mem_cons_self ..)).1, ?_, h.nd1, h.nd2, h.base, fun j hj => Nat.lt_of_lt_of_le (h.sb j hj) k.size, h.sm, h.ss, h.se, h.sf, h.old⟩
  refine .cons ⟨⟨k0, k1, k2, k3, A4, c4, ?_, by rw [hfn]; exact hrd⟩, ?_⟩ (h.rest hst (fun c h1 _ h3 => k.keep c h3 h1))
  · rw [hfn, hvs]
    exact hb _ _ _ _ _ _ hfr
  · rw [hvs]
    exact (k.blk t2 (two_types t2 hfr (by decide)))
/-- the last function's variables are written -/
theorem CM.setV (h : CM w0 p mb W s ((fb, vb) :: fs) sv ev hv S) (hst : s.stack = f :: r) {vs : List SVal} (hl : vs.length = f.vars.length) (k : KO vb W W1) (hb : ValsAt W1 vb vs) : CM w0 p mb W1 { s with stack := { f with vars := vs } :: r } ((fb, vb) :: fs) sv ev hv S := by
  obtain ⟨PA, pc, hm, hr⟩ := h.blk
  obtain ⟨_, _, _, q0, hf⟩ := h.top hst
  injection q0 with q0 q1
  cases q0
  obtain ⟨k0, k1, k2, k3, A4, c4, hfr, hrd⟩ := hf.frame
  have t2 := hf.vars
  refine ⟨k.bel h.bel (h.base.2 _ (List.mem_cons_self ..)).2, ⟨PA, pc, k.blk hm (two_types hm t2 (by decide)), hr⟩, h.stack.koE rfl k (h.stack.ne t2 (by decide)), h.evs.koE rfl k (h.evs.ne t2 (by decide)), h.heap.ko k (h.sf _ (List.mem_cons_self ..)).2, ?_, h.nd1, h.nd2, h.base, fun j hj => Nat.lt_of_lt_of_le (h.sb j hj) k.size, h.sm, h.ss, h.se, h.sf, h.old⟩
  refine .cons ⟨⟨k0, k1, k2, k3, A4, c4, ?_, hrd⟩, hb⟩ (h.rest hst (fun c _ h2 h3 => k.keep c h3 h2))
  rw [show ({ f with vars := vs } : VFr).vars.length = f.vars.length from hl]
  exact k.blk hfr (two_types hfr t2 (by decide))
/-- the last function is left -/
theorem CM.pop {A : Option Addr} {c : Nat} (h : CM w0 p mb W s ((fb, vb) :: fs) (.slice A (fs.length + 1) c) ev hv S) (hst : s.stack = f :: r) (k : KO mb W W1)
    (hb : ∀ PA pc, W.heap[mb]? = some (.cells #[.slice PA p.f0.length pc, .slice A (fs.length + 1) c, hv, ev, .int .i64 s.fin, .int .i64 s.val, .int .i64 s.code, .int .i64 s.steps] 67 (0, 0)) → W1.heap[mb]? = some (.cells #[.slice PA p.f0.length pc, .slice A fs.length c, hv, ev, .int .i64 s.fin, .int .i64 s.val, .int .i64 s.code, .int .i64 s.steps] 67 (0, 0))) : CM w0 p mb W1 { s with stack := r } fs (.slice A fs.length c) ev hv S := by
  obtain ⟨PA, pc, hm, hr⟩ := h.blk
  have n1 := h.nd1
  have n2 := h.nd2
  simp only [List.map_cons, List.nodup_cons] at n1 n2
  have hs : OwnAt kPtr 120 w0.heap.size W (.slice A fs.length c) (fs.reverse.map fun b => b.1) := ⟨by
    have h1 := Kd.R_take h.stack.out (m := fs.length) (by simp)
    have e : ((((fb, vb) :: fs).reverse.map fun b => b.1).take fs.length) = fs.reverse.map fun b => b.1 := by simp
    rw [e] at h1
    exact h1⟩
  have hne : (Value.slice A fs.length c).ownBlock = (Value.slice A (fs.length + 1) c).ownBlock := by cases A <;> rfl
  refine ⟨k.bel h.bel h.base.1, ⟨PA, pc, hb PA pc hm, hr⟩, hs.koE rfl k (hs.ne hm (by decide)), h.evs.koE rfl k (h.evs.ne hm (by decide)), h.heap.ko k h.sm, ?_, n1.2, n2.2, ⟨h.base.1, fun b hb => h.base.2 b (List.mem_cons_of_mem _ hb)⟩, fun j hj => Nat.lt_of_lt_of_le (h.sb j hj) k.size, h.sm, fun j hj => h.ss j (hne ▸ hj), h.se, fun b hb => h.sf b (List.mem_cons_of_mem _ hb), h.old⟩
  have q := h.frames
  rw [hst] at q
  cases q with
  | cons hf hr =>
    exact hr.keep (fun b hb => by
      obtain ⟨⟨c1, h1⟩, c2, h2⟩ := hr.typed b hb
      exact ⟨k.keep _ (blk_lt h1) (two_types h1 hm (by decide)), k.keep _ (blk_lt h2) (two_types h2 hm (by decide))⟩)
/-- a function is entered: its frame is there (W1), its pointer behind the others' (W2), and the machine has these (W3) -/
theorem CM.push (h : CM w0 p mb W s fs sv ev hv S) (q : Bel W W1) (hf : FrAt w0 p W1 (fb, vb) f) (hfb : W.heap.size ≤ fb) (hvb : W.heap.size ≤ vb) {sv1 : Value} (hs : OwnAt kPtr 120 w0.heap.size W2 sv1 ((fs.reverse.map fun b => b.1) ++ [fb])) (hg : W1.grownBy W2 sv.ownBlock)
    (hat : sv1.ownBlock = sv.ownBlock ∨ ∃ b, sv1.ownBlock = some b ∧ W1.heap.size ≤ b) (k : KO mb W2 W3)
    (hb : ∀ PA pc, W2.heap[mb]? = some (.cells #[.slice PA p.f0.length pc, sv, hv, ev, .int .i64 s.fin, .int .i64 s.val, .int .i64 s.code, .int .i64 s.steps] 67 (0, 0)) → W3.heap[mb]? = some (.cells #[.slice PA p.f0.length pc, sv1, hv, ev, .int .i64 s.fin, .int .i64 s.val, .int .i64 s.code, .int .i64 s.steps] 67 (0, 0))) :
    ∃ S1, CM w0 p mb W3 { s with stack := f :: s.stack } ((fb, vb) :: fs) sv1 ev hv S1 := by
  have h1 := h.step q
  obtain ⟨PA, pc, hm, hr⟩ := h1.blk
  obtain ⟨k0, k1, k2, k3, A4, c4, hfr, hrd⟩ := hf.frame
  have t2 := hf.vars
  have hsz := q.size
  have hz2 := hg.size
  have hz3 := k.size
  have keep : ∀ (c : Nat) (cs : Array Value) (t : Nat), W1.heap[c]? = some (Obj.cells cs t (0, 0)) → t ≠ 120 → W2.heap[c]? = some (Obj.cells cs t (0, 0)) := fun c cs t hc ht => (hg.block c (blk_lt hc) (fun e => h1.stack.ne hc (fun e2 => ht e2.symm) e.symm)).trans hc
  have hm2 := keep _ _ _ hm (by decide)
  have hfr2 := keep _ _ _ hfr (by decide)
  have t22 := keep _ _ _ t2 (by decide)
  have hB2 : Bel w0 W2 := ⟨h1.bel.out.grown hg h1.bel.size (fun j hj => Kd.R_base h1.stack.out j hj)⟩
  refine ⟨fun j => S j ∨ j = fb ∨ j = vb ∨ sv1.ownBlock = some j, k.bel hB2 h.base.1, ⟨PA, pc, hb PA pc hm2, hr⟩, ?_, ?_, ?_, ?_, ?_, ?_, ⟨h.base.1, ?_⟩, ?_, .inl h.sm, fun j hj => .inr (.inr (.inr hj)), fun j hj => .inl (h.se j hj), ?_, fun j hj => .inl (h.old j hj)⟩
  · have e : ((((fb, vb) :: fs).reverse.map fun b => b.1)) = (fs.reverse.map fun b => b.1) ++ [fb] := by simp
    rw [e]
    exact hs.koE rfl k (hs.ne hm2 (by decide))
  · have he2 : OwnAt (Kd.int .i64) 3 w0.heap.size W2 ev s.evs := ⟨Kd.R_mono (Kd.R_grown (Kd.R_tight rfl h1.evs.out) hg (fun j hj e => by
      obtain ⟨c1, hc1⟩ := Kd.R_typed h1.evs.out j hj.symm
      exact h1.stack.ne hc1 (by decide) e.symm)) (fun _ _ => trivial)⟩
    exact he2.koE rfl k (he2.ne hm2 (by decide))
  · have hh : HV (fun j => S j ∨ j = fb ∨ j = vb ∨ sv1.ownBlock = some j) W hv s.heap := h.heap.more (fun j hj => by
      rcases hj with hj | rfl | rfl | hj
      · exact .inl hj
      · exact .inr hfb
      · exact .inr hvb
      · rcases hat with e | ⟨b, e, hle⟩
        · exact .inl (h.ss j (by rw [← e]; exact hj))
        · rw [e] at hj
          injection hj with hj
          exact .inr (by omega))
    have hh2 : HV (fun j => S j ∨ j = fb ∨ j = vb ∨ sv1.ownBlock = some j) W2 hv s.heap := ⟨Kd.V_grown (hh.step q).out hg (fun j hj e => hj (.inl (h.ss j e.symm)))⟩
    exact hh2.ko k (.inl h.sm)
  · refine .cons ⟨⟨k0, k1, k2, k3, A4, c4, k.blk hfr2 (two_types hfr2 hm2 (by decide)), hrd⟩, k.blk t22 (two_types t22 hm2 (by decide))⟩ ?_
    refine h1.frames.keep (fun b hb => ?_)
    obtain ⟨⟨c1, h2⟩, c2, h3⟩ := h1.frames.typed b hb
    have h22 := keep _ _ _ h2 (by decide)
    have h33 := keep _ _ _ h3 (by decide)
    exact ⟨(k.blk h22 (two_types h22 hm2 (by decide))).trans h2.symm, (k.blk h33 (two_types h33 hm2 (by decide))).trans h3.symm⟩
  · simp only [List.map_cons, List.nodup_cons]
    refine ⟨fun e => ?_, h.nd1⟩
    obtain ⟨b, hb, e⟩ := List.mem_map.1 e
    have := h.sb b.1 (h.sf b hb).1
    omega
  · simp only [List.map_cons, List.nodup_cons]
    refine ⟨fun e => ?_, h.nd2⟩
    obtain ⟨b, hb, e⟩ := List.mem_map.1 e
    have := h.sb b.2 (h.sf b hb).2
    omega
  · intro b hb
    rcases List.mem_cons.1 hb with rfl | hb
    · have := h.bel.size
      exact ⟨by show w0.heap.size ≤ fb; omega, by show w0.heap.size ≤ vb; omega⟩
    · exact h.base.2 b hb
  · intro j hj
    rcases hj with hj | rfl | rfl | hj
    · have := h.sb j hj
      omega
    · have := blk_lt hfr
      omega
    · have := blk_lt t2
      omega
    · have := Kd.R_lt hs.out j hj
      omega
  · intro b hb
    rcases List.mem_cons.1 hb with rfl | hb
    · exact ⟨.inr (.inl rfl), .inr (.inr (.inl rfl))⟩
    · exact ⟨.inl (h.sf b hb).1, .inl (h.sf b hb).2⟩
/-- a number is told: behind the others (W1), and the machine has these (W2) -/
theorem CM.tell (h : CM w0 p mb W s fs sv ev hv S) {ev1 : Value} {n : Int} (he : OwnAt (Kd.int .i64) 3 w0.heap.size W1 ev1 (s.evs ++ [n])) (hg : W.grownBy W1 ev.ownBlock) (hat : ev1.ownBlock = ev.ownBlock ∨ ∃ b, ev1.ownBlock = some b ∧ W.heap.size ≤ b) (k : KO mb W1 W2)
    (hb : ∀ PA pc, W1.heap[mb]? = some (.cells #[.slice PA p.f0.length pc, sv, hv, ev, .int .i64 s.fin, .int .i64 s.val, .int .i64 s.code, .int .i64 s.steps] 67 (0, 0)) → W2.heap[mb]? = some (.cells #[.slice PA p.f0.length pc, sv, hv, ev1, .int .i64 s.fin, .int .i64 s.val, .int .i64 s.code, .int .i64 s.steps] 67 (0, 0))) :
    ∃ S1, CM w0 p mb W2 { s with evs := s.evs ++ [n] } fs sv ev1 hv S1 := by
  obtain ⟨PA, pc, hm, hr⟩ := h.blk
  have hz2 := hg.size
  have hz3 := k.size
  have keep : ∀ (c : Nat) (cs : Array Value) (t : Nat), W.heap[c]? = some (Obj.cells cs t (0, 0)) → t ≠ 3 → W1.heap[c]? = some (Obj.cells cs t (0, 0)) := fun c cs t hc ht => (hg.block c (blk_lt hc) (fun e => h.evs.ne hc (fun e2 => ht e2.symm) e.symm)).trans hc
  have hm2 := keep _ _ _ hm (by decide)
  have hB2 : Bel w0 W1 := ⟨h.bel.out.grown hg h.bel.size (fun j hj => Kd.R_base h.evs.out j hj)⟩
  refine ⟨fun j => S j ∨ ev1.ownBlock = some j, k.bel hB2 h.base.1, ⟨PA, pc, hb PA pc hm2, hr⟩, ?_, he.koE rfl k (he.ne hm2 (by decide)), ?_, ?_, h.nd1, h.nd2, h.base, ?_, .inl h.sm, fun j hj => .inl (h.ss j hj), fun j hj => .inr hj, fun b hb => ⟨.inl (h.sf b hb).1, .inl (h.sf b hb).2⟩, fun j hj => .inl (h.old j hj)⟩
  · have hs2 : OwnAt kPtr 120 w0.heap.size W1 sv (fs.reverse.map fun b => b.1) := ⟨Kd.R_mono (Kd.R_grown (Kd.R_tight rfl h.stack.out) hg (fun j hj e => by
      obtain ⟨c1, hc1⟩ := Kd.R_typed h.stack.out j hj.symm
      exact h.evs.ne hc1 (by decide) e.symm)) (fun _ _ => trivial)⟩
    exact hs2.koE rfl k (hs2.ne hm2 (by decide))
  · have hh : HV (fun j => S j ∨ ev1.ownBlock = some j) W hv s.heap := h.heap.more (fun j hj => by
      rcases hj with hj | hj
      · exact .inl hj
      · rcases hat with e | ⟨b, e, hle⟩
        · exact .inl (h.se j (by rw [← e]; exact hj))
        · rw [e] at hj
          injection hj with hj
          exact .inr (by omega))
    have hh2 : HV (fun j => S j ∨ ev1.ownBlock = some j) W1 hv s.heap := ⟨Kd.V_grown hh.out hg (fun j hj e => hj (.inl (h.se j e.symm)))⟩
    exact hh2.ko k (.inl h.sm)
  · refine h.frames.keep (fun b hb => ?_)
    obtain ⟨⟨c1, h2⟩, c2, h3⟩ := h.frames.typed b hb
    have h22 := keep _ _ _ h2 (by decide)
    have h33 := keep _ _ _ h3 (by decide)
    exact ⟨(k.blk h22 (two_types h22 hm2 (by decide))).trans h2.symm, (k.blk h33 (two_types h33 hm2 (by decide))).trans h3.symm⟩
  · intro j hj
    rcases hj with hj | hj
    · have := h.sb j hj
      omega
    · have := Kd.R_lt he.out j hj
      omega
end
end Go.Proofs.Ytodjpbidjldblaa.H
