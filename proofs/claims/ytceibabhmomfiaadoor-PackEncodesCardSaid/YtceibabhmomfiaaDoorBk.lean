/- Words of this work: what a call keeps where it writes blocks of some types alone; what is read meanwhile. -/
import Derived.Test.YtceibabhmomfiaaDoorBa
import Derived.Test.YtceibabhmomfiaaDoorWLast
namespace Go.Proofs.YtceibabhmomfiaaDoor.H
open Go.RowKit Go.Proofs.YtceibabhmomfiaaDoorW.PrintWords
set_option linter.unusedVariables false
set_option linter.unusedSimpArgs false

/-- From w to w' nothing below base has turned, and of the rest no block of a type that isn't one of ts. -/
structure KT (ts : List Nat) (base : Nat) (w w' : World) : Prop where
  below : Below base w w'
  keep : ∀ (i : Nat) (cs : Array Value) (t : TypeId) (fr : Nat × Nat), w.heap[i]? = some (.cells cs t fr) → t ∉ ts → w'.heap[i]? = w.heap[i]?

section
variable {ts : List Nat} {base : Nat} {w w1 w2 : World}
theorem KT.refl (ts : List Nat) (base : Nat) (w : World) : KT ts base w w := ⟨Below.refl _ _, fun _ _ _ _ _ _ => rfl⟩
theorem KT.trans (h : KT ts base w w1) (k : KT ts base w1 w2) : KT ts base w w2 :=
  ⟨h.below.trans k.below, fun i cs t fr hb ht => by
    have h1 := h.keep i cs t fr hb ht
    rw [hb] at h1
    rw [k.keep i cs t fr h1 ht, h1, hb]⟩
theorem KT.size (h : KT ts base w w1) : w.heap.size ≤ w1.heap.size := h.below.size
theorem KT.of_bel (h : Bel w w1) (hb : base ≤ w.heap.size) (ts : List Nat) : KT ts base w w1 :=
  ⟨h.out.mono hb, fun i cs t fr hi _ => h.out.block i (blk_lt hi)⟩
theorem KT.mono {ts' : List Nat} {base' : Nat} (h : KT ts base w w1) (hb : base' ≤ base) (ht : ∀ t, t ∈ ts → t ∈ ts') : KT ts' base' w w1 :=
  ⟨h.below.mono hb, fun i cs t fr hi hn => h.keep i cs t fr hi (fun hm => hn (ht t hm))⟩
theorem KT.blk (h : KT ts base w w1) {g t : Nat} {cs : Array Value} {fr : Nat × Nat} (hb : w.heap[g]? = some (.cells cs t fr)) (ht : t ∉ ts) : w1.heap[g]? = some (.cells cs t fr) := (h.keep g cs t fr hb ht).trans hb
/-- a store into a block of one of the types -/
theorem KT.set {g t : Nat} {cs : Array Value} {fr : Nat × Nat} (hb : w.heap[g]? = some (.cells cs t fr)) (ht : t ∈ ts) (hg : base ≤ g) (j : Nat) (u : Value) : KT ts base w (w.setCell ⟨g, j, none⟩ u) :=
  ⟨(Below.refl _ _).setCell (p := ⟨g, j, none⟩) hg u, fun i cs' t' fr' hi hn => Below.heap_setCell w ⟨g, j, none⟩ u i (fun e => by
    have e : i = g := e
    subst e
    rw [hi] at hb
    injection hb with hb
    injection hb with _ hb _
    exact hn (hb ▸ ht))⟩
/-- an append to a row of one's own, of elements of one of the types -/
theorem KT.grown {e size n b : Nat} {v : Value} {xs : List Value} (ho : w.ownsRow b e size v n xs) (hg : w.grownBy w1 v.ownBlock) (he : e ∈ ts) (hb : base ≤ b) (hs : base ≤ w.heap.size) : KT ts base w w1 :=
  ⟨(Below.refl _ _).grown hg hs (fun k hk => Nat.le_trans hb (own_base ho k hk)), fun i cs t fr hi hn => hg.block i (blk_lt hi) (fun e' => by
    obtain ⟨cells, hc⟩ := own_typed ho i e'.symm
    rw [hi] at hc
    injection hc with hc
    injection hc with _ hc _
    exact hn (hc ▸ he))⟩
end

/-- A row of one's own, made from base on. -/
abbrev OwnAt {α : Type} (d : Kd α) (e : Nat) (base : Nat) (W : World) (v : Value) (xs : List α) : Prop := Aside0 (Kd.R d e W base (fun _ => True) v xs)
theorem OwnAt.keep {α : Type} {d : Kd α} {e base b : Nat} {W W1 : World} {v : Value} {xs : List α} {ts : List Nat} (h : OwnAt d e base W v xs) (k : KT ts b W W1) (ht : ∀ q, q ∈ e :: d.E → q ∉ ts) : OwnAt d e base W1 v xs :=
  ⟨Kd.R_mono (Kd.R_move (Kd.R_bound h.out) (fun i hi => by
    obtain ⟨_, _, _, q, hq, cells, hc⟩ := hi
    exact k.keep i cells q (0, 0) hc (ht q hq))) (fun _ hk => hk.1)⟩
theorem OwnAt.step {α : Type} {d : Kd α} {e base : Nat} {W W1 : World} {v : Value} {xs : List α} (h : OwnAt d e base W v xs) (k : Bel W W1) : OwnAt d e base W1 v xs := ⟨Kd.R_below h.out k.out⟩
theorem OwnAt.of_own {α : Type} {d : Kd α} {e base : Nat} {w0 W : World} {v : Value} {xs : List α} (h : Own d e w0 W v xs) (hb : base ≤ w0.heap.size) : OwnAt d e base W v xs := ⟨Kd.R_lower h.out hb⟩
theorem OwnAt.nil {α : Type} (d : Kd α) (e base : Nat) (W : World) : OwnAt d e base W (.slice none 0 0) [] := ⟨Kd.R_nil _ _ _ _ _⟩
theorem OwnAt.reads {α : Type} {d : Kd α} {e base : Nat} {W : World} {v : Value} {xs : List α} (h : OwnAt d e base W v xs) : ∃ A c, v = .slice A xs.length c ∧ xs.length ≤ c ∧ Rd d W A xs := by
  obtain ⟨A, c, h1, h2, h3⟩ := Kd.R_reads h.out
  exact ⟨A, c, h1, h2, ⟨h3⟩⟩

/-- A row that is read, whatever is written to blocks of these types from base on. -/
abbrev RdK {α : Type} (d : Kd α) (ts : List Nat) (base : Nat) (W : World) (A : Option Addr) (xs : List α) : Prop := Aside0 (∀ W', KT ts base W W' → Rd d W' A xs)
section
variable {α : Type} {d : Kd α} {ts : List Nat} {base : Nat} {W W1 : World} {A : Option Addr} {xs : List α}
theorem RdK.now (h : RdK d ts base W A xs) : Rd d W A xs := h.out W (KT.refl _ _ _)
theorem RdK.keep (h : RdK d ts base W A xs) (k : KT ts base W W1) : RdK d ts base W1 A xs := ⟨fun W' k' => h.out W' (k.trans k')⟩
theorem RdK.step (h : RdK d ts base W A xs) (k : Bel W W1) (hb : base ≤ W.heap.size) : RdK d ts base W1 A xs := h.keep (KT.of_bel k hb ts)
/-- what came in, base being the heap's size then -/
theorem RdK.came {w0 : World} (h : Rd d w0 A xs) (k : Below w0.heap.size w0 W) (ts : List Nat) : RdK d ts w0.heap.size W A xs :=
  ⟨fun W' k' => ⟨Kd.C_below h.out (k.trans k'.below)⟩⟩
/-- a row of one's own, of other types -/
theorem RdK.own {e b n c : Nat} (h : OwnAt d e b W (.slice A n c) xs) (ht : ∀ q, q ∈ e :: d.E → q ∉ ts) (base : Nat) : RdK d ts base W A xs :=
  ⟨fun W' k' => by
    obtain ⟨A', c', h1, _, h3⟩ := (h.keep k' ht).reads
    injection h1 with h1
    rw [h1]
    exact h3⟩
theorem RdK.nil (d : Kd α) (ts : List Nat) (base : Nat) (W : World) : RdK d ts base W none [] := ⟨fun _ _ => ⟨rfl, by simp, fun h => by simp at h⟩⟩
end

section
variable {ops : Array Oper} {rest : List Oper} {o : Oper} {a : Act} {Q : Exit → Act → World → Prop}
/-- append(v, ys...), bytes, one's own row made from base on; as one step of a region that draws its order. -/
theorem app_bytes_step {Kc : Act → World → Prop} {base : Nat} {W : World} {v : Value} {xs ys : List Int} {A : Option Addr} {c : Nat} (HO : OwnAt (Kd.int .u8) 5 base W v xs) (hbase : base ≤ W.heap.size) (HR : RdB W A ys) (hgd : o.guard = none) (s x : Operand)
    (ho : o.op = .call { callee := .builtin .append, args := #[s, x], argTypes := #[22, 22] })
    (hl : xs.length + ys.length ≤ 140737488355328) (hs : a.eval s = v) (hx : a.eval x = .slice A ys.length c)
    (h : ∀ v1 w1, OwnAt (Kd.int .u8) 5 base w1 v1 (xs ++ ys) → KT [5] base W w1 → Kc (a.put o.dst v1) w1) :
    if Region.wanted o (yielded ops a.tmps) = true then Oper.wp Tryd.prog o a W Kc Q else Kc (a.put o.dst undef) W := by
  refine Kd.R_append_rows_step (Kd.int .u8) (Rr := (Kd.int .u8).K W) (w0 := W) base (by simp [Region.wanted, hgd]) s x 22 5 (.int .u8 0) 1 ho Tryd.underlying22 info_u8 rfl (by decide) (by omega) v xs ys A ys.length c (fun _ => True) (fun _ => False) hs hx HO.out HR.out (fun _ _ hk => hk) (fun _ hk => hk.elim) (fun _ _ => trivial) (Below.refl _ _) hbase (by omega) ?_
  intro v1 w1 ho hb hg hat
  obtain ⟨inner, hrow⟩ := Kd.R_own HO.out
  exact h v1 w1 ⟨ho⟩ (KT.grown hrow hg (by simp) (Nat.le_refl _) hbase)
end
end Go.Proofs.YtceibabhmomfiaaDoor.H
