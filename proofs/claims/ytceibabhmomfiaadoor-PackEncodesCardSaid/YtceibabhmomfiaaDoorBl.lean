/- Words of this work: append of one element, with what it owns, to a row of one's own made from a base on. -/
import Derived.Test.YtceibabhmomfiaaDoorBk
import Derived.Test.YtceibabhmomfiaaDoorPk
import Derived.Test.YtceibabhmomfiaaDoorVa
namespace Go.Proofs.YtceibabhmomfiaaDoor.H
open Go.RowKit Go.Proofs.YtceibabhmomfiaaDoorW.PrintWords
set_option linter.unusedVariables false
set_option linter.unusedSimpArgs false

/-- what is written only from w's size on doesn't count for w -/
theorem KT.after {ts : List Nat} {base : Nat} {w W W1 : World} (h : KT ts base w W) (k : Below w.heap.size W W1) (hb : base ≤ w.heap.size) : KT ts base w W1 :=
  ⟨h.below.trans (k.mono hb), fun i cs t fr hi hn => (k.block i (blk_lt hi)).trans (h.keep i cs t fr hi hn)⟩

section
variable {ops : Array Oper} {rest : List Oper} {o : Oper} {a : Act} {Q : Exit → Act → World → Prop}
theorem app_own_step {α : Type} (d : Kd α) (e t : Nat) (z : Value) (bytes : Nat) (ht : Tryd.prog.underlying t = some (.slice e)) (hinfo : (Tryd.prog.info? e).map (fun i => (i.zero, i.size, i.bytes)) = some (some z, d.sz, bytes)) (hz : z.cells.size = d.sz) (hs0 : 0 < d.sz) (hb0 : 0 < bytes) (hE : e ∉ d.E)
    {Kc : Act → World → Prop} {base : Nat} {W : World} {v : Value} {xs : List α} (p : α) (cs : List Value) (HO : OwnAt d e base W v xs) (HP : Aside0 (d.M W base (fun _ => True) p cs)) (hbase : base ≤ W.heap.size) (hgd : o.guard = none) (s x : Operand)
    (ho : o.op = .call { callee := .builtin .append, args := #[s, x], argTypes := #[t, t] })
    (hl : (xs.length + 1) * bytes ≤ 140737488355328) (hs : a.eval s = v) (hx : a.eval x = .slice (some ⟨W.heap.size, 0, none⟩) 1 1)
    (h : ∀ v1 w1, OwnAt d e base w1 v1 (xs ++ [p]) → KT [e] base W w1 → Kc (a.put o.dst v1) w1) :
    if Region.wanted o (yielded ops a.tmps) = true then Oper.wp Tryd.prog o a (W.alloc (.cells cs.toArray e)) Kc Q else Kc (a.put o.dst undef) (W.alloc (.cells cs.toArray e)) := by
  refine Kd.R_append_step d (w0 := W) base (by simp [Region.wanted, hgd]) s x t e z bytes ho ht hinfo hz hs0 hb0 v xs p cs (fun _ => True) _ hs hx (d.M_bound HP.out) ?_ (fun _ _ => trivial) HO.out (Below.refl _ _) hbase hl ?_
  · intro k hk
    refine ⟨trivial, fun hv => ?_⟩
    obtain ⟨_, _, _, q, hq, cells, hc⟩ := hk
    obtain ⟨cells', hc'⟩ := Kd.R_typed HO.out k hv.symm
    rw [hc] at hc'
    injection hc' with hc'
    injection hc' with _ hc' _
    exact hE (hc' ▸ hq)
  · intro v1 w1 ho hb hg hat
    obtain ⟨inner, hrow⟩ := Kd.R_own HO.out
    exact h v1 w1 ⟨ho⟩ (KT.grown hrow hg (by simp) (Nat.le_refl _) hbase)
end
section
variable {ops : Array Oper} {rest : List Oper} {o : Oper} {a : Act} {Q : Exit → Act → World → Prop}
/-- the same in a region whose order is fixed -/
theorem app_own {α : Type} (d : Kd α) (e t : Nat) (z : Value) (bytes : Nat) (ht : Tryd.prog.underlying t = some (.slice e)) (hinfo : (Tryd.prog.info? e).map (fun i => (i.zero, i.size, i.bytes)) = some (some z, d.sz, bytes)) (hz : z.cells.size = d.sz) (hs0 : 0 < d.sz) (hb0 : 0 < bytes) (hE : e ∉ d.E)
    {base : Nat} {W : World} {v : Value} {xs : List α} (p : α) (cs : List Value) (HO : OwnAt d e base W v xs) (HP : Aside0 (d.M W base (fun _ => True) p cs)) (hbase : base ≤ W.heap.size) (hgd : o.guard = none) (s x : Operand)
    (ho : o.op = .call { callee := .builtin .append, args := #[s, x], argTypes := #[t, t] })
    (hl : (xs.length + 1) * bytes ≤ 140737488355328) (hs : a.eval s = v) (hx : a.eval x = .slice (some ⟨W.heap.size, 0, none⟩) 1 1)
    (h : ∀ v1 w1, OwnAt d e base w1 v1 (xs ++ [p]) → KT [e] base W w1 → wpList Tryd.prog ops Q rest (a.put o.dst v1) w1) :
    wpList Tryd.prog ops Q (o :: rest) a (W.alloc (.cells cs.toArray e)) := by
  refine Kd.R_append d (w0 := W) base hgd s x t e z bytes ho ht hinfo hz hs0 hb0 v xs p cs (fun _ => True) _ hs hx (d.M_bound HP.out) ?_ (fun _ _ => trivial) HO.out (Below.refl _ _) hbase hl ?_
  · intro k hk
    refine ⟨trivial, fun hv => ?_⟩
    obtain ⟨_, _, _, q, hq, cells, hc⟩ := hk
    obtain ⟨cells', hc'⟩ := Kd.R_typed HO.out k hv.symm
    rw [hc] at hc'
    injection hc' with hc'
    injection hc' with _ hc' _
    exact hE (hc' ▸ hq)
  · intro v1 w1 ho hb hg hat
    obtain ⟨inner, hrow⟩ := Kd.R_own HO.out
    exact h v1 w1 ⟨ho⟩ (KT.grown hrow hg (by simp) (Nat.le_refl _) hbase)
end
theorem info_Loc : (Tryd.prog.info? 50).map (fun i => (i.zero, i.size, i.bytes)) = some (some (.agg #[.int .i64 0, .int .i64 0]), 2, 16) := by kernel_rfl
theorem info_Pair : (Tryd.prog.info? 73).map (fun i => (i.zero, i.size, i.bytes)) = some (some (.agg #[.int .i64 0, .int .i64 0, .int .i64 0, .int .i64 0]), 4, 32) := by kernel_rfl
theorem info_Chart : (Tryd.prog.info? 36).map (fun i => (i.zero, i.size, i.bytes)) = some (some (.agg #[.int .i64 0, .slice none 0 0, .slice none 0 0]), 3, 56) := by kernel_rfl
section
variable {ops : Array Oper} {rest : List Oper} {o : Oper} {a : Act} {Q : Exit → Act → World → Prop}
theorem app_int_at {Kc : Act → World → Prop} {base : Nat} {W : World} {v : Value} {xs : List Int} (p : Int) (cs : List Value) (HO : OwnAt (Kd.int .i64) 3 base W v xs) (HP : Aside0 ((Kd.int .i64).M W base (fun _ => True) p cs)) (hbase : base ≤ W.heap.size) (hgd : o.guard = none) (s x : Operand)
    (ho : o.op = .call { callee := .builtin .append, args := #[s, x], argTypes := #[52, 52] })
    (hl : xs.length ≤ 1000000000) (hs : a.eval s = v) (hx : a.eval x = .slice (some ⟨W.heap.size, 0, none⟩) 1 1)
    (h : ∀ v1 w1, OwnAt (Kd.int .i64) 3 base w1 v1 (xs ++ [p]) → KT [3] base W w1 → Kc (a.put o.dst v1) w1) :
    if Region.wanted o (yielded ops a.tmps) = true then Oper.wp Tryd.prog o a (W.alloc (.cells cs.toArray 3)) Kc Q else Kc (a.put o.dst undef) (W.alloc (.cells cs.toArray 3)) :=
  app_own_step (Kd.int .i64) 3 52 (.int .i64 0) 8 Tryd.underlying52 info_int rfl (by decide) (by decide) (by decide) p cs HO HP hbase hgd s x ho (by omega) hs hx h
theorem app_int_at_ {base : Nat} {W : World} {v : Value} {xs : List Int} (p : Int) (cs : List Value) (HO : OwnAt (Kd.int .i64) 3 base W v xs) (HP : Aside0 ((Kd.int .i64).M W base (fun _ => True) p cs)) (hbase : base ≤ W.heap.size) (hgd : o.guard = none) (s x : Operand)
    (ho : o.op = .call { callee := .builtin .append, args := #[s, x], argTypes := #[52, 52] })
    (hl : xs.length ≤ 1000000000) (hs : a.eval s = v) (hx : a.eval x = .slice (some ⟨W.heap.size, 0, none⟩) 1 1)
    (h : ∀ v1 w1, OwnAt (Kd.int .i64) 3 base w1 v1 (xs ++ [p]) → KT [3] base W w1 → wpList Tryd.prog ops Q rest (a.put o.dst v1) w1) :
    wpList Tryd.prog ops Q (o :: rest) a (W.alloc (.cells cs.toArray 3)) :=
  app_own (Kd.int .i64) 3 52 (.int .i64 0) 8 Tryd.underlying52 info_int rfl (by decide) (by decide) (by decide) p cs HO HP hbase hgd s x ho (by omega) hs hx h
end
section
variable {ops : Array Oper} {rest : List Oper} {o : Oper} {a : Act} {Q : Exit → Act → World → Prop}
theorem app_loc_at {Kc : Act → World → Prop} {base : Nat} {W : World} {v : Value} {xs : List SLoc} (p : SLoc) (cs : List Value) (HO : OwnAt kLoc 50 base W v xs) (HP : Aside0 (kLoc.M W base (fun _ => True) p cs)) (hbase : base ≤ W.heap.size) (hgd : o.guard = none) (s x : Operand)
    (ho : o.op = .call { callee := .builtin .append, args := #[s, x], argTypes := #[33, 33] })
    (hl : xs.length ≤ 1000000000) (hs : a.eval s = v) (hx : a.eval x = .slice (some ⟨W.heap.size, 0, none⟩) 1 1)
    (h : ∀ v1 w1, OwnAt kLoc 50 base w1 v1 (xs ++ [p]) → KT [50] base W w1 → Kc (a.put o.dst v1) w1) :
    if Region.wanted o (yielded ops a.tmps) = true then Oper.wp Tryd.prog o a (W.alloc (.cells cs.toArray 50)) Kc Q else Kc (a.put o.dst undef) (W.alloc (.cells cs.toArray 50)) :=
  app_own_step kLoc 50 33 (.agg #[.int .i64 0, .int .i64 0]) 16 Tryd.underlying33 info_Loc rfl (by decide) (by decide) (by decide) p cs HO HP hbase hgd s x ho (by omega) hs hx h
theorem app_loc_at_ {base : Nat} {W : World} {v : Value} {xs : List SLoc} (p : SLoc) (cs : List Value) (HO : OwnAt kLoc 50 base W v xs) (HP : Aside0 (kLoc.M W base (fun _ => True) p cs)) (hbase : base ≤ W.heap.size) (hgd : o.guard = none) (s x : Operand)
    (ho : o.op = .call { callee := .builtin .append, args := #[s, x], argTypes := #[33, 33] })
    (hl : xs.length ≤ 1000000000) (hs : a.eval s = v) (hx : a.eval x = .slice (some ⟨W.heap.size, 0, none⟩) 1 1)
    (h : ∀ v1 w1, OwnAt kLoc 50 base w1 v1 (xs ++ [p]) → KT [50] base W w1 → wpList Tryd.prog ops Q rest (a.put o.dst v1) w1) :
    wpList Tryd.prog ops Q (o :: rest) a (W.alloc (.cells cs.toArray 50)) :=
  app_own kLoc 50 33 (.agg #[.int .i64 0, .int .i64 0]) 16 Tryd.underlying33 info_Loc rfl (by decide) (by decide) (by decide) p cs HO HP hbase hgd s x ho (by omega) hs hx h
end
section
variable {ops : Array Oper} {rest : List Oper} {o : Oper} {a : Act} {Q : Exit → Act → World → Prop}
theorem app_pair_at {Kc : Act → World → Prop} {base : Nat} {W : World} {v : Value} {xs : List SPair} (p : SPair) (cs : List Value) (HO : OwnAt kPair 73 base W v xs) (HP : Aside0 (kPair.M W base (fun _ => True) p cs)) (hbase : base ≤ W.heap.size) (hgd : o.guard = none) (s x : Operand)
    (ho : o.op = .call { callee := .builtin .append, args := #[s, x], argTypes := #[34, 34] })
    (hl : xs.length ≤ 1000000000) (hs : a.eval s = v) (hx : a.eval x = .slice (some ⟨W.heap.size, 0, none⟩) 1 1)
    (h : ∀ v1 w1, OwnAt kPair 73 base w1 v1 (xs ++ [p]) → KT [73] base W w1 → Kc (a.put o.dst v1) w1) :
    if Region.wanted o (yielded ops a.tmps) = true then Oper.wp Tryd.prog o a (W.alloc (.cells cs.toArray 73)) Kc Q else Kc (a.put o.dst undef) (W.alloc (.cells cs.toArray 73)) :=
  app_own_step kPair 73 34 (.agg #[.int .i64 0, .int .i64 0, .int .i64 0, .int .i64 0]) 32 Tryd.underlying34 info_Pair rfl (by decide) (by decide) (by decide) p cs HO HP hbase hgd s x ho (by omega) hs hx h
theorem app_pair_at_ {base : Nat} {W : World} {v : Value} {xs : List SPair} (p : SPair) (cs : List Value) (HO : OwnAt kPair 73 base W v xs) (HP : Aside0 (kPair.M W base (fun _ => True) p cs)) (hbase : base ≤ W.heap.size) (hgd : o.guard = none) (s x : Operand)
    (ho : o.op = .call { callee := .builtin .append, args := #[s, x], argTypes := #[34, 34] })
    (hl : xs.length ≤ 1000000000) (hs : a.eval s = v) (hx : a.eval x = .slice (some ⟨W.heap.size, 0, none⟩) 1 1)
    (h : ∀ v1 w1, OwnAt kPair 73 base w1 v1 (xs ++ [p]) → KT [73] base W w1 → wpList Tryd.prog ops Q rest (a.put o.dst v1) w1) :
    wpList Tryd.prog ops Q (o :: rest) a (W.alloc (.cells cs.toArray 73)) :=
  app_own kPair 73 34 (.agg #[.int .i64 0, .int .i64 0, .int .i64 0, .int .i64 0]) 32 Tryd.underlying34 info_Pair rfl (by decide) (by decide) (by decide) p cs HO HP hbase hgd s x ho (by omega) hs hx h
end
section
variable {ops : Array Oper} {rest : List Oper} {o : Oper} {a : Act} {Q : Exit → Act → World → Prop}
theorem app_chart_at {Kc : Act → World → Prop} {base : Nat} {W : World} {v : Value} {xs : List SChart} (p : SChart) (cs : List Value) (HO : OwnAt kChart 36 base W v xs) (HP : Aside0 (kChart.M W base (fun _ => True) p cs)) (hbase : base ≤ W.heap.size) (hgd : o.guard = none) (s x : Operand)
    (ho : o.op = .call { callee := .builtin .append, args := #[s, x], argTypes := #[24, 24] })
    (hl : xs.length ≤ 1000000000) (hs : a.eval s = v) (hx : a.eval x = .slice (some ⟨W.heap.size, 0, none⟩) 1 1)
    (h : ∀ v1 w1, OwnAt kChart 36 base w1 v1 (xs ++ [p]) → KT [36] base W w1 → Kc (a.put o.dst v1) w1) :
    if Region.wanted o (yielded ops a.tmps) = true then Oper.wp Tryd.prog o a (W.alloc (.cells cs.toArray 36)) Kc Q else Kc (a.put o.dst undef) (W.alloc (.cells cs.toArray 36)) :=
  app_own_step kChart 36 24 (.agg #[.int .i64 0, .slice none 0 0, .slice none 0 0]) 56 Tryd.underlying24 info_Chart rfl (by decide) (by decide) (by decide) p cs HO HP hbase hgd s x ho (by omega) hs hx h
theorem app_chart_at_ {base : Nat} {W : World} {v : Value} {xs : List SChart} (p : SChart) (cs : List Value) (HO : OwnAt kChart 36 base W v xs) (HP : Aside0 (kChart.M W base (fun _ => True) p cs)) (hbase : base ≤ W.heap.size) (hgd : o.guard = none) (s x : Operand)
    (ho : o.op = .call { callee := .builtin .append, args := #[s, x], argTypes := #[24, 24] })
    (hl : xs.length ≤ 1000000000) (hs : a.eval s = v) (hx : a.eval x = .slice (some ⟨W.heap.size, 0, none⟩) 1 1)
    (h : ∀ v1 w1, OwnAt kChart 36 base w1 v1 (xs ++ [p]) → KT [36] base W w1 → wpList Tryd.prog ops Q rest (a.put o.dst v1) w1) :
    wpList Tryd.prog ops Q (o :: rest) a (W.alloc (.cells cs.toArray 36)) :=
  app_own kChart 36 24 (.agg #[.int .i64 0, .slice none 0 0, .slice none 0 0]) 56 Tryd.underlying24 info_Chart rfl (by decide) (by decide) (by decide) p cs HO HP hbase hgd s x ho (by omega) hs hx h
end
end Go.Proofs.YtceibabhmomfiaaDoor.H
