/- Words of this work: append of one element, with what it owns, to a row of one's own made from a base on. -/
import Derived.Test.YtijdmnjkiiemlaaDoorBk
import Derived.Test.YtijdmnjkiiemlaaDoorCk
namespace Go.Proofs.YtijdmnjkiiemlaaDoor.H
open Go.RowKit Go.Proofs.YtijdmnjkiiemlaaDoorW.PrintWords
set_option linter.unusedVariables false
set_option linter.unusedSimpArgs false

/-- what is written only from w's size on doesn't count for w -/
theorem KT.after {ts : List Nat} {base : Nat} {w W W1 : World} (h : KT ts base w W) (k : Below w.heap.size W W1) (hb : base ≤ w.heap.size) : KT ts base w W1 :=
  ⟨h.below.trans (k.mono hb), fun i cs t fr hi hn => (k.block i (blk_lt hi)).trans (h.keep i cs t fr hi hn)⟩

section
variable {ops : Array Oper} {rest : List Oper} {o : Oper} {a : Act} {Q : Exit → Act → World → Prop}
theorem app_own_step {α : Type} (d : Kd α) (e t : Nat) (z : Value) (bytes : Nat) (ht : Tryd.prog.underlying t = some (.slice e)) (hinfo : (Tryd.prog.info? e).map (fun i => (i.zero, i.size, i.bytes)) = some (some z, d.sz, bytes)) (hz : z.cells.size = d.sz) (hs0 : 0 < d.sz) (hb0 : 0 < bytes) (hE : e ∉ d.E)
    {Kc : Act → World → Prop} {base : Nat} {W : World} {v : Value} {xs : List α} (p : α) (cs : List Value) (HO : OwnAt d e base W v xs) (HP : Aside0 (d.M W base (fun _ => True) p cs)) (hbase : base ≤ W.heap.size) (hgd : o.guard = none) (s x : Operand)
    (ho : o.op = .call { callee := .builtin .append, args := #[s, x], argTypes := #[t, t] })
    (hl : (xs.length + 1) * bytes ≤ 140737488355328) (hs : a.eval s = v) (hx : a.eval x = .slice (some ⟨W.heap.size, 0, none⟩) 1 1)
    (h : ∀ v1 w1, OwnAt d e base w1 v1 (xs ++ [p]) → KT [e] base W w1 → Kc (a.put o.dst v1) w1) :
    if Region.wanted o (yielded ops a.tmps) = true then Oper.wp Tryd.prog o a (W.alloc (.cells cs.toArray e)) Kc Q else Kc (a.put o.dst undef) (W.alloc (.cells cs.toArray e)) := by
  refine Kd.R_append_step d (w0 := W) base (by simp [Region.wanted, hgd]) s x t e z bytes ho ht hinfo hz hs0 hb0 v xs p cs (fun _ => True) _ hs hx (d.M_bound HP.out) ?_ (fun _ _ => trivial) HO.out (Below.refl _ _) hbase hl ?_
  · intro k hk
    refine ⟨trivial, fun hv => ?_⟩
    obtain ⟨_, _, _, q, hq, cells, hc⟩ := hk
    obtain ⟨cells', hc'⟩ := Kd.R_typed HO.out k hv.symm
    rw [hc] at hc'
    injection hc' with hc'
    injection hc' with _ hc' _
    exact hE (hc' ▸ hq)
  · intro v1 w1 ho hb hg hat
    obtain ⟨inner, hrow⟩ := Kd.R_own HO.out
    exact h v1 w1 ⟨ho⟩ (KT.grown hrow hg (by simp) (Nat.le_refl _) hbase)
end
section
variable {ops : Array Oper} {rest : List Oper} {o : Oper} {a : Act} {Q : Exit → Act → World → Prop}
/-- the same in a region whose order is fixed -/
theorem app_own {α : Type} (d : Kd α) (e t : Nat) (z : Value) (bytes : Nat) (ht : Tryd.prog.underlying t = some (.slice e)) (hinfo : (Tryd.prog.info? e).map (fun i => (i.zero, i.size, i.bytes)) = some (some z, d.sz, bytes)) (hz : z.cells.size = d.sz) (hs0 : 0 < d.sz) (hb0 : 0 < bytes) (hE : e ∉ d.E)
    {base : Nat} {W : World} {v : Value} {xs : List α} (p : α) (cs : List Value) (HO : OwnAt d e base W v xs) (HP : Aside0 (d.M W base (fun _ => True) p cs)) (hbase : base ≤ W.heap.size) (hgd : o.guard = none) (s x : Operand)
    (ho : o.op = .call { callee := .builtin .append, args := #[s, x], argTypes := #[t, t] })
    (hl : (xs.length + 1) * bytes ≤ 140737488355328) (hs : a.eval s = v) (hx : a.eval x = .slice (some ⟨W.heap.size, 0, none⟩) 1 1)
    (h : ∀ v1 w1, OwnAt d e base w1 v1 (xs ++ [p]) → KT [e] base W w1 → wpList Tryd.prog ops Q rest (a.put o.dst v1) w1) :
    wpList Tryd.prog ops Q (o :: rest) a (W.alloc (.cells cs.toArray e)) := by
  refine Kd.R_append d (w0 := W) base hgd s x t e z bytes ho ht hinfo hz hs0 hb0 v xs p cs (fun _ => True) _ hs hx (d.M_bound HP.out) ?_ (fun _ _ => trivial) HO.out (Below.refl _ _) hbase hl ?_
  · intro k hk
    refine ⟨trivial, fun hv => ?_⟩
    obtain ⟨_, _, _, q, hq, cells, hc⟩ := hk
    obtain ⟨cells', hc'⟩ := Kd.R_typed HO.out k hv.symm
    rw [hc] at hc'
    injection hc' with hc'
    injection hc' with _ hc' _
    exact hE (hc' ▸ hq)
  · intro v1 w1 ho hb hg hat
    obtain ⟨inner, hrow⟩ := Kd.R_own HO.out
    exact h v1 w1 ⟨ho⟩ (KT.grown hrow hg (by simp) (Nat.le_refl _) hbase)
end
theorem info_Ins : (Tryd.prog.info? 45).map (fun i => (i.zero, i.size, i.bytes)) = some (some (.agg #[.int .i64 0, .int .i64 0, .int .i64 0, .int .i64 0, .int .i64 0, .int .i64 0, .slice none 0 0]), 7, 72) := by kernel_rfl
theorem info_Block : (Tryd.prog.info? 48).map (fun i => (i.zero, i.size, i.bytes)) = some (some (.agg #[.slice none 0 0]), 1, 24) := by kernel_rfl
theorem info_Func : (Tryd.prog.info? 43).map (fun i => (i.zero, i.size, i.bytes)) = some (some (.agg #[.slice none 0 0, .slice none 0 0, .int .i64 0, .int .i64 0, .slice none 0 0]), 5, 88) := by kernel_rfl
section
variable {ops : Array Oper} {rest : List Oper} {o : Oper} {a : Act} {Q : Exit → Act → World → Prop}
theorem app_int_at {Kc : Act → World → Prop} {base : Nat} {W : World} {v : Value} {xs : List Int} (p : Int) (cs : List Value) (HO : OwnAt (Kd.int .i64) 3 base W v xs) (HP : Aside0 ((Kd.int .i64).M W base (fun _ => True) p cs)) (hbase : base ≤ W.heap.size) (hgd : o.guard = none) (s x : Operand)
    (ho : o.op = .call { callee := .builtin .append, args := #[s, x], argTypes := #[40, 40] })
    (hl : xs.length ≤ 1000000000) (hs : a.eval s = v) (hx : a.eval x = .slice (some ⟨W.heap.size, 0, none⟩) 1 1)
    (h : ∀ v1 w1, OwnAt (Kd.int .i64) 3 base w1 v1 (xs ++ [p]) → KT [3] base W w1 → Kc (a.put o.dst v1) w1) :
    if Region.wanted o (yielded ops a.tmps) = true then Oper.wp Tryd.prog o a (W.alloc (.cells cs.toArray 3)) Kc Q else Kc (a.put o.dst undef) (W.alloc (.cells cs.toArray 3)) :=
  app_own_step (Kd.int .i64) 3 40 (.int .i64 0) 8 Tryd.underlying40 info_int rfl (by decide) (by decide) (by decide) p cs HO HP hbase hgd s x ho (by omega) hs hx h
theorem app_int_at_ {base : Nat} {W : World} {v : Value} {xs : List Int} (p : Int) (cs : List Value) (HO : OwnAt (Kd.int .i64) 3 base W v xs) (HP : Aside0 ((Kd.int .i64).M W base (fun _ => True) p cs)) (hbase : base ≤ W.heap.size) (hgd : o.guard = none) (s x : Operand)
    (ho : o.op = .call { callee := .builtin .append, args := #[s, x], argTypes := #[40, 40] })
    (hl : xs.length ≤ 1000000000) (hs : a.eval s = v) (hx : a.eval x = .slice (some ⟨W.heap.size, 0, none⟩) 1 1)
    (h : ∀ v1 w1, OwnAt (Kd.int .i64) 3 base w1 v1 (xs ++ [p]) → KT [3] base W w1 → wpList Tryd.prog ops Q rest (a.put o.dst v1) w1) :
    wpList Tryd.prog ops Q (o :: rest) a (W.alloc (.cells cs.toArray 3)) :=
  app_own (Kd.int .i64) 3 40 (.int .i64 0) 8 Tryd.underlying40 info_int rfl (by decide) (by decide) (by decide) p cs HO HP hbase hgd s x ho (by omega) hs hx h
end
section
variable {ops : Array Oper} {rest : List Oper} {o : Oper} {a : Act} {Q : Exit → Act → World → Prop}
theorem app_ins_at {Kc : Act → World → Prop} {base : Nat} {W : World} {v : Value} {xs : List SIns} (p : SIns) (cs : List Value) (HO : OwnAt kIns 45 base W v xs) (HP : Aside0 (kIns.M W base (fun _ => True) p cs)) (hbase : base ≤ W.heap.size) (hgd : o.guard = none) (s x : Operand)
    (ho : o.op = .call { callee := .builtin .append, args := #[s, x], argTypes := #[46, 46] })
    (hl : xs.length ≤ 1000000000) (hs : a.eval s = v) (hx : a.eval x = .slice (some ⟨W.heap.size, 0, none⟩) 1 1)
    (h : ∀ v1 w1, OwnAt kIns 45 base w1 v1 (xs ++ [p]) → KT [45] base W w1 → Kc (a.put o.dst v1) w1) :
    if Region.wanted o (yielded ops a.tmps) = true then Oper.wp Tryd.prog o a (W.alloc (.cells cs.toArray 45)) Kc Q else Kc (a.put o.dst undef) (W.alloc (.cells cs.toArray 45)) :=
  app_own_step kIns 45 46 (.agg #[.int .i64 0, .int .i64 0, .int .i64 0, .int .i64 0, .int .i64 0, .int .i64 0, .slice none 0 0]) 72 Tryd.underlying46 info_Ins rfl (by decide) (by decide) (by decide) p cs HO HP hbase hgd s x ho (by omega) hs hx h
theorem app_ins_at_ {base : Nat} {W : World} {v : Value} {xs : List SIns} (p : SIns) (cs : List Value) (HO : OwnAt kIns 45 base W v xs) (HP : Aside0 (kIns.M W base (fun _ => True) p cs)) (hbase : base ≤ W.heap.size) (hgd : o.guard = none) (s x : Operand)
    (ho : o.op = .call { callee := .builtin .append, args := #[s, x], argTypes := #[46, 46] })
    (hl : xs.length ≤ 1000000000) (hs : a.eval s = v) (hx : a.eval x = .slice (some ⟨W.heap.size, 0, none⟩) 1 1)
    (h : ∀ v1 w1, OwnAt kIns 45 base w1 v1 (xs ++ [p]) → KT [45] base W w1 → wpList Tryd.prog ops Q rest (a.put o.dst v1) w1) :
    wpList Tryd.prog ops Q (o :: rest) a (W.alloc (.cells cs.toArray 45)) :=
  app_own kIns 45 46 (.agg #[.int .i64 0, .int .i64 0, .int .i64 0, .int .i64 0, .int .i64 0, .int .i64 0, .slice none 0 0]) 72 Tryd.underlying46 info_Ins rfl (by decide) (by decide) (by decide) p cs HO HP hbase hgd s x ho (by omega) hs hx h
end
section
variable {ops : Array Oper} {rest : List Oper} {o : Oper} {a : Act} {Q : Exit → Act → World → Prop}
theorem app_block_at {Kc : Act → World → Prop} {base : Nat} {W : World} {v : Value} {xs : List SBlock} (p : SBlock) (cs : List Value) (HO : OwnAt kBlock 48 base W v xs) (HP : Aside0 (kBlock.M W base (fun _ => True) p cs)) (hbase : base ≤ W.heap.size) (hgd : o.guard = none) (s x : Operand)
    (ho : o.op = .call { callee := .builtin .append, args := #[s, x], argTypes := #[41, 41] })
    (hl : xs.length ≤ 1000000000) (hs : a.eval s = v) (hx : a.eval x = .slice (some ⟨W.heap.size, 0, none⟩) 1 1)
    (h : ∀ v1 w1, OwnAt kBlock 48 base w1 v1 (xs ++ [p]) → KT [48] base W w1 → Kc (a.put o.dst v1) w1) :
    if Region.wanted o (yielded ops a.tmps) = true then Oper.wp Tryd.prog o a (W.alloc (.cells cs.toArray 48)) Kc Q else Kc (a.put o.dst undef) (W.alloc (.cells cs.toArray 48)) :=
  app_own_step kBlock 48 41 (.agg #[.slice none 0 0]) 24 Tryd.underlying41 info_Block rfl (by decide) (by decide) (by decide) p cs HO HP hbase hgd s x ho (by omega) hs hx h
theorem app_block_at_ {base : Nat} {W : World} {v : Value} {xs : List SBlock} (p : SBlock) (cs : List Value) (HO : OwnAt kBlock 48 base W v xs) (HP : Aside0 (kBlock.M W base (fun _ => True) p cs)) (hbase : base ≤ W.heap.size) (hgd : o.guard = none) (s x : Operand)
    (ho : o.op = .call { callee := .builtin .append, args := #[s, x], argTypes := #[41, 41] })
    (hl : xs.length ≤ 1000000000) (hs : a.eval s = v) (hx : a.eval x = .slice (some ⟨W.heap.size, 0, none⟩) 1 1)
    (h : ∀ v1 w1, OwnAt kBlock 48 base w1 v1 (xs ++ [p]) → KT [48] base W w1 → wpList Tryd.prog ops Q rest (a.put o.dst v1) w1) :
    wpList Tryd.prog ops Q (o :: rest) a (W.alloc (.cells cs.toArray 48)) :=
  app_own kBlock 48 41 (.agg #[.slice none 0 0]) 24 Tryd.underlying41 info_Block rfl (by decide) (by decide) (by decide) p cs HO HP hbase hgd s x ho (by omega) hs hx h
end
section
variable {ops : Array Oper} {rest : List Oper} {o : Oper} {a : Act} {Q : Exit → Act → World → Prop}
theorem app_func_at {Kc : Act → World → Prop} {base : Nat} {W : World} {v : Value} {xs : List SFunc} (p : SFunc) (cs : List Value) (HO : OwnAt kFunc 43 base W v xs) (HP : Aside0 (kFunc.M W base (fun _ => True) p cs)) (hbase : base ≤ W.heap.size) (hgd : o.guard = none) (s x : Operand)
    (ho : o.op = .call { callee := .builtin .append, args := #[s, x], argTypes := #[22, 22] })
    (hl : xs.length ≤ 1000000000) (hs : a.eval s = v) (hx : a.eval x = .slice (some ⟨W.heap.size, 0, none⟩) 1 1)
    (h : ∀ v1 w1, OwnAt kFunc 43 base w1 v1 (xs ++ [p]) → KT [43] base W w1 → Kc (a.put o.dst v1) w1) :
    if Region.wanted o (yielded ops a.tmps) = true then Oper.wp Tryd.prog o a (W.alloc (.cells cs.toArray 43)) Kc Q else Kc (a.put o.dst undef) (W.alloc (.cells cs.toArray 43)) :=
  app_own_step kFunc 43 22 (.agg #[.slice none 0 0, .slice none 0 0, .int .i64 0, .int .i64 0, .slice none 0 0]) 88 Tryd.underlying22 info_Func rfl (by decide) (by decide) (by decide) p cs HO HP hbase hgd s x ho (by omega) hs hx h
theorem app_func_at_ {base : Nat} {W : World} {v : Value} {xs : List SFunc} (p : SFunc) (cs : List Value) (HO : OwnAt kFunc 43 base W v xs) (HP : Aside0 (kFunc.M W base (fun _ => True) p cs)) (hbase : base ≤ W.heap.size) (hgd : o.guard = none) (s x : Operand)
    (ho : o.op = .call { callee := .builtin .append, args := #[s, x], argTypes := #[22, 22] })
    (hl : xs.length ≤ 1000000000) (hs : a.eval s = v) (hx : a.eval x = .slice (some ⟨W.heap.size, 0, none⟩) 1 1)
    (h : ∀ v1 w1, OwnAt kFunc 43 base w1 v1 (xs ++ [p]) → KT [43] base W w1 → wpList Tryd.prog ops Q rest (a.put o.dst v1) w1) :
    wpList Tryd.prog ops Q (o :: rest) a (W.alloc (.cells cs.toArray 43)) :=
  app_own kFunc 43 22 (.agg #[.slice none 0 0, .slice none 0 0, .int .i64 0, .int .i64 0, .slice none 0 0]) 88 Tryd.underlying22 info_Func rfl (by decide) (by decide) (by decide) p cs HO HP hbase hgd s x ho (by omega) hs hx h
end
end Go.Proofs.YtijdmnjkiiemlaaDoor.H
