/- Texts of this work, joined. Conditions: each stands with its theorem. -/
import Derived.Test.YtodjpbidjldblaaX07
import Derived.Laws.IdiomCopy
import Derived.Laws.CopyOwn
import Derived.Test.YtodjpbidjldblaaX05
/- Layer 1, law10, run: variables made and copied. -/
namespace Go.Proofs.Ytodjpbidjldblaa.H
open Go.RowKit Go.Proofs.YtodjpbidjldblaaW.PrintWords Go.Proofs.YtodjpbidjldblaaW.PrintLast
set_option linter.unusedVariables false
set_option linter.unusedSimpArgs false
set_option maxRecDepth 100000
theorem info_Val : (Try.prog.info? 89).map (fun i => (i.zero, i.size, i.bytes)) = some (some (.agg #[.int .i64 0, .int .i64 0, .int .i64 0]), 3, 24) := by kernel_rfl
theorem zeros_cells (n : Nat) : valCells (List.replicate n zVal) = List.replicate (n * 3) (.int .i64 0) := by
  induction n with
  | zero => rfl
  | succ n ih =>
    have e : valCells (zVal :: List.replicate n zVal) = .int .i64 0 :: .int .i64 0 :: .int .i64 0 :: valCells (List.replicate n zVal) := rfl
    rw [List.replicate_succ, e, ih, show (n + 1) * 3 = n * 3 + 1 + 1 + 1 by omega]
    rfl
theorem make_vals (n : Nat) (hn : n ≤ 1000000) (W : World) : (Instr.makeSlice 60 (.int .i64 (n : Int)) (.int .i64 (n : Int))).run Try.prog W = .ok (.slice (some ⟨W.heap.size, 0, none⟩) n n) (W.alloc (.cells (valCells (List.replicate n zVal)).toArray 89)) := by
  obtain ⟨i0, hi, hz0, hz1, hz2⟩ := info_parts info_Val
  have h := run_make (P := Try.prog) W 60 89 i0 (.agg #[.int .i64 0, .int .i64 0, .int .i64 0]) Try.underlying60 hi hz0 .i64 .i64 (n : Int) (n : Int) (by omega) (by omega) (by rw [hz2]; omega) (by omega)
  rw [h, hz1, zeros_cells]
  have e : madeCells (Value.agg #[.int .i64 0, .int .i64 0, .int .i64 0]).cells ((n : Int).toNat * 3) = (List.replicate (n * 3) (Value.int .i64 0)).toArray := by
    have hc : (Value.agg #[.int .i64 0, .int .i64 0, .int .i64 0]).cells = #[.int .i64 0, .int .i64 0, .int .i64 0] := by simp [Value.cells]
    rw [hc]
    refine Array.ext (by simp [madeCells]) fun j h1 h2 => ?_
    simp only [madeCells, Array.getElem_map, Array.getElem_range, List.getElem_toArray, List.getElem_replicate]
    have h3 : j % (#[Value.int .i64 0, .int .i64 0, .int .i64 0] : Array Value).size < 3 := Nat.mod_lt _ (by decide)
    generalize j % (#[Value.int .i64 0, .int .i64 0, .int .i64 0] : Array Value).size = k at h3
    match k, h3 with
    | 0, _ => rfl
    | 1, _ => rfl
    | 2, _ => rfl
  rw [e]
  rfl
theorem vals_read {w : World} {ad : Addr} {n : Nat} {xs : List SVal} (h : Kd.C kVal w (some ad) n xs) : ∀ j v, (valCells xs)[j]? = some v → w.cell? (ad.add j) = some v := by
  intro j v hj
  have hlt : j < 3 * xs.length := by
    obtain ⟨hl, _⟩ := List.getElem?_eq_some_iff.1 hj
    rwa [valCells_len] at hl
  have hn := h.1
  obtain ⟨i, k, hi, hk, rfl⟩ : ∃ i k, i < xs.length ∧ k < 3 ∧ j = i * 3 + k := ⟨j / 3, j % 3, by omega, by omega, by omega⟩
  obtain ⟨ad', c, e', hl, hK, hc⟩ := Kd.C_get h zVal (i : Int) (by omega) (by omega)
  injection e' with e'
  subst e'
  rw [show (i : Int).toNat = i from rfl, List.getD_eq_getElem?_getD, List.getElem?_eq_getElem hi, Option.getD_some] at hK
  rw [show (i : Int).toNat = i from rfl] at hc
  have hk2 := kVal_open hK
  subst hk2
  obtain ⟨h0, h1, h2⟩ := valCells_at xs i hi
  rw [show kVal.sz = 3 from rfl] at hc
  match k, hk with
  | 0, _ => rw [show i * 3 + 0 = i * 3 from rfl, h0] at hj; injection hj with hj; rw [← hj]; exact hc 0 _ rfl
  | 1, _ => rw [h1] at hj; injection hj with hj; rw [← hj]; exact hc 1 _ rfl
  | 2, _ => rw [h2] at hj; injection hj with hj; rw [← hj]; exact hc 2 _ rfl
theorem KO.row (g : Nat) (w : World) (cs : Array Value) : KO g w (w.setRow g cs) :=
  ⟨fun i _ hn => setRow_other w g i cs hn, below_setRow (Below.refl g w) (Nat.le_refl g) cs⟩
theorem valCells_one (vs : List SVal) : ∀ v ∈ valCells vs, v.oneCell' = true := by
  intro v hv
  unfold valCells at hv
  obtain ⟨u, _, hu⟩ := List.mem_flatMap.1 hv
  simp only [List.mem_cons, List.not_mem_nil, or_false] at hu
  rcases hu with rfl | rfl | rfl <;> rfl
theorem valCells_app (vs us : List SVal) : valCells (vs ++ us) = valCells vs ++ valCells us := by simp [valCells]
theorem valCells_drop (vs : List SVal) : ∀ k, (valCells vs).drop (3 * k) = valCells (vs.drop k) := by
  induction vs with
  | nil => intro k; simp [valCells]
  | cons v r ih =>
    intro k
    cases k with
    | zero => rfl
    | succ k =>
      have e : valCells (v :: r) = .int .i64 v.f0 :: .int .i64 v.f1 :: .int .i64 v.f2 :: valCells r := rfl
      rw [e, show 3 * (k + 1) = 3 * k + 1 + 1 + 1 by omega]
      simpa using ih k
theorem copy_vals (w : World) (g : Nat) (dvs args : List SVal) (hg : ValsAt w g dvs) (A : Option Addr) (c : Nat) (hR : Rd kVal w A args) (hle : args.length ≤ dvs.length) :
    ∃ w1, (∀ ty, (Builtin.copy_ #[60, 60] ty #[.slice (some ⟨g, 0, none⟩) dvs.length dvs.length, .slice A args.length c]).run Try.prog w = .ok (.int .i64 (args.length : Int)) w1) ∧ ValsAt w1 g (args ++ dvs.drop args.length) ∧ KO g w w1 := by
  obtain ⟨i0, hi, hz0, hz1, hz2⟩ := info_parts info_Val
  have hmin : Nat.min args.length dvs.length = args.length := Nat.min_eq_left hle
  cases args with
  | nil =>
    refine ⟨w, fun ty => ?_, hg, KO.refl _ _⟩
    have hl : ∀ (x : Addr), (loadCells x 0).run Try.prog w = .ok #[] w := fun x => by simpa using run_loadCells_list (P := Try.prog) w x [] (by simp)
    cases A <;> simp [Builtin.copy_, run_underlying Try.underlying60, Builtin.lenOf, Builtin.firstCells, sizeOf, typeInfo, hi, hz1, storeCells, hl, goInt]
  | cons a r =>
    obtain ⟨ad, rfl, _⟩ := hR.out.2.2 (by simp)
    have hl := run_loadCells_list (P := Try.prog) w ad (valCells (a :: r)) (vals_read hR.out)
    have hst := run_storeCells_at Try.prog g 0 89 (valCells (a :: r)) 0 _ w hg (by simp only [valCells_len, List.size_toArray]; omega) (valCells_one _)
    have e1 : ((valCells dvs).toArray.toList.take (0 + 0) ++ valCells (a :: r) ++ (valCells dvs).toArray.toList.drop (0 + 0 + (valCells (a :: r)).length)) = valCells ((a :: r) ++ dvs.drop (a :: r).length) := by
      simp only [List.take_zero, List.nil_append, valCells_len, Nat.zero_add, valCells_drop, valCells_app]
    rw [e1] at hst
    refine ⟨w.setRow g (valCells ((a :: r) ++ dvs.drop (a :: r).length)).toArray, fun ty => ?_, setRow_heap w g _ _ _ (0, 0) hg, KO.row g w _⟩
    rw [valCells_len] at hl
    rw [Nat.mul_comm] at hl
    generalize a :: r = l at *
    simp [Builtin.copy_, run_underlying Try.underlying60, Builtin.lenOf, Builtin.firstCells, sizeOf, typeInfo, hi, hz1, hmin, hl, hst, goInt]
end Go.Proofs.Ytodjpbidjldblaa.H

/- Layer 1, law10, run: a function that is entered. -/
namespace Go.Proofs.Ytodjpbidjldblaa.H
open Go.RowKit Go.Proofs.YtodjpbidjldblaaW.PrintWords Go.Proofs.YtodjpbidjldblaaW.PrintLast
set_option linter.unusedVariables false
set_option linter.unusedSimpArgs false
set_option maxRecDepth 100000
theorem ins_at {W : World} {A : Option Addr} {l : List SIns} (h : Rd kIns W A l) (k : Nat) (hk : k < l.length) : ∃ ad A6 c6, A = some ad ∧ W.cell? (ad.add (k * 7)) = some (.int .i64 (l[k]).f0) ∧ W.cell? ⟨(ad.add (k * 7)).block, (ad.add (k * 7)).off + 1, none⟩ = some (.int .i64 (l[k]).f1) ∧ W.cell? ⟨(ad.add (k * 7)).block, (ad.add (k * 7)).off + 2, none⟩ = some (.int .i64 (l[k]).f2) ∧ W.cell? ⟨(ad.add (k * 7)).block, (ad.add (k * 7)).off + 3, none⟩ = some (.int .i64 (l[k]).f3) ∧ W.cell? ⟨(ad.add (k * 7)).block, (ad.add (k * 7)).off + 4, none⟩ = some (.int .i64 (l[k]).f4) ∧ W.cell? ⟨(ad.add (k * 7)).block, (ad.add (k * 7)).off + 5, none⟩ = some (.int .i64 (l[k]).f5) ∧ W.cell? ⟨(ad.add (k * 7)).block, (ad.add (k * 7)).off + 6, none⟩ = some (.slice A6 (l[k]).f6.length c6) ∧ (l[k]).f6.length ≤ c6 ∧ RdI W A6 (l[k]).f6 := by
  obtain ⟨ad, A6, c6, e, h0, h1, h2, h3, h4, h5, h6, hl, hR⟩ := at_TIns h.out (k : Int) (by omega) (by omega)
  have e1 : rd_TIns l (k : Int) = l[k] := by simp [rd_TIns, List.getD_eq_getElem?_getD, List.getElem?_eq_getElem hk]
  rw [e1] at h0 h1 h2 h3 h4 h5 h6 hl hR
  simp only [Int.toNat_natCast] at h0 h1 h2 h3 h4 h5 h6
  exact ⟨ad, A6, c6, e, h0, h1, h2, h3, h4, h5, h6, hl, ⟨hR⟩⟩
theorem block_at {W : World} {A : Option Addr} {l : List SBlock} (h : Rd kBlock W A l) (k : Nat) (hk : k < l.length) : ∃ ad A0 c0, A = some ad ∧ W.cell? (ad.add k) = some (.slice A0 (l[k]).f0.length c0) ∧ (l[k]).f0.length ≤ c0 ∧ Rd kIns W A0 (l[k]).f0 := by
  obtain ⟨ad, A0, c0, e, h0, hl, hR⟩ := at_TBlock h.out (k : Int) (by omega) (by omega)
  have e1 : rd_TBlock l (k : Int) = l[k] := by simp [rd_TBlock, List.getD_eq_getElem?_getD, List.getElem?_eq_getElem hk]
  rw [e1] at h0 hl hR
  simp only [Int.toNat_natCast] at h0
  exact ⟨ad, A0, c0, e, h0, hl, ⟨hR⟩⟩
theorem func_at {W : World} {A : Option Addr} {l : List SFunc} (h : Rd kFunc W A l) (k : Nat) (hk : k < l.length) : ∃ ad A0 A1 A4 c0 c1 c4, A = some ad ∧ W.cell? (ad.add (k * 5)) = some (.slice A0 (l[k]).f0.length c0) ∧ W.cell? ⟨(ad.add (k * 5)).block, (ad.add (k * 5)).off + 1, none⟩ = some (.slice A1 (l[k]).f1.length c1) ∧ W.cell? ⟨(ad.add (k * 5)).block, (ad.add (k * 5)).off + 2, none⟩ = some (.int .i64 (l[k]).f2) ∧ W.cell? ⟨(ad.add (k * 5)).block, (ad.add (k * 5)).off + 3, none⟩ = some (.int .i64 (l[k]).f3) ∧ W.cell? ⟨(ad.add (k * 5)).block, (ad.add (k * 5)).off + 4, none⟩ = some (.slice A4 (l[k]).f4.length c4) ∧ RdI W A0 (l[k]).f0 ∧ RdI W A1 (l[k]).f1 ∧ Rd kBlock W A4 (l[k]).f4 ∧ (l[k]).f0.length ≤ c0 ∧ (l[k]).f1.length ≤ c1 ∧ (l[k]).f4.length ≤ c4 := by
  obtain ⟨ad, A0, c0, A1, c1, A4, c4, hh⟩ := at_TFunc h.out (k : Int) (by omega) (by omega)
  have e1 : rd_TFunc l (k : Int) = l[k] := by simp [rd_TFunc, List.getD_eq_getElem?_getD, List.getElem?_eq_getElem hk]
  rw [e1] at hh
  simp only [Int.toNat_natCast] at hh
  obtain ⟨e, h0, h1, h2, h3, h4, l0, g0, l1, g1, l4, g4⟩ := hh
  exact ⟨ad, A0, A1, A4, c0, c1, c4, e, h0, h1, h2, h3, h4, ⟨g0⟩, ⟨g1⟩, ⟨g4⟩, l0, l1, l4⟩
theorem info_ptr : (Try.prog.info? 120).map (fun i => (i.zero, i.size, i.bytes)) = some (some (.pointer none), 1, 8) := by kernel_rfl
section
variable {ops : Array Oper} {rest : List Oper} {o : Oper} {a : Act} {Q : Exit → Act → World → Prop}
/-- append(v, p), a frame's pointer -/
theorem app_ptr {base : Nat} {W : World} {v : Value} {xs : List Nat} (b : Nat) (HO : OwnAt kPtr 120 base W v xs) (hbase : base ≤ W.heap.size) (hgd : o.guard = none) (s x : Operand)
    (ho : o.op = .call { callee := .builtin .append, args := #[s, x], argTypes := #[65, 65] })
    (hl : xs.length ≤ 100000) (hs : a.eval s = v) (hx : a.eval x = .slice (some ⟨W.heap.size, 0, none⟩) 1 1)
    (h : ∀ v1 w1, OwnAt kPtr 120 base w1 v1 (xs ++ [b]) → W.grownBy w1 v.ownBlock → (v1.ownBlock = v.ownBlock ∨ ∃ b, v1.ownBlock = some b ∧ W.heap.size ≤ b) → wpList Try.prog ops Q rest (a.put o.dst v1) w1) :
    wpList Try.prog ops Q (o :: rest) a (W.alloc (.cells #[.pointer (some ⟨b, 0, none⟩)] 120)) := by
  refine Kd.R_append kPtr (w0 := W) base hgd s x 65 120 (.pointer none) 8 ho Try.underlying65 info_ptr rfl (by decide) (by omega) v xs b [.pointer (some ⟨b, 0, none⟩)] (fun _ => True) (fun _ => False) hs hx rfl (fun _ hk => hk.elim) (fun _ _ => trivial) HO.out (Below.refl _ _) hbase (by omega) ?_
  intro v1 w1 ho hb hg hat
  exact h v1 w1 ⟨ho⟩ hg hat
end
set_option maxHeartbeats 4000000 in
theorem enter_any (w0 : World) (p : SProg) (mb : Nat) (W : World) (s : VSt) (fs : List (Nat × Nat)) (sv ev hv : Value) (S : Nat → Prop) (h : CM w0 p mb W s fs sv ev hv S) (fn : Nat) (hfn : fn < p.f0.length) (hf8 : p.f0.length ≤ 100) (args : List SVal) (A : Option Addr) (c : Nat) (hR : Rd kVal W A args)
    (hl : args.length ≤ (fnAt p fn).f0.length) (h48 : (fnAt p fn).f0.length ≤ 48) (hn : s.stack.length ≤ 100) :
    Calls Try.prog 41 #[.pointer (some ⟨mb, 0, none⟩), .int .i64 fn, .slice A args.length c] W fun e W' => e = .returned (.tuple #[]) ∧ ∃ fs1 sv1 S1, CM w0 p mb W' { s with stack := beginL p fn args :: s.stack } fs1 sv1 ev hv S1 := by
  obtain ⟨PA, pc, hm, hP⟩ := h.blk
  obtain ⟨ad, A0, A1, A4, c0, c1, c4, rfl, y0, y1, y2, y3, y4, r0, r1, r4, l0, l1, l4⟩ := func_at hP fn hfn
  replace y0 := Bel.cell h.bel y0
  replace y1 := Bel.cell h.bel y1
  replace y2 := Bel.cell h.bel y2
  replace y3 := Bel.cell h.bel y3
  replace y4 := Bel.cell h.bel y4
  have hlen := h.len
  have ef : p.f0[fn] = fnAt p fn := by unfold fnAt; rw [List.getD_eq_getElem?_getD, List.getElem?_eq_getElem hfn]; rfl
  rw [ef] at y0 y1 y2 y3 y4 r0 r1 r4 l0 l1 l4
  have z0 : W.cell? ⟨mb, 0, none⟩ = some (.slice (some ad) p.f0.length pc) := blk_cell hm 0
  have hlt : (fn : Int) < (p.f0.length : Int) := by omega
  obtain ⟨nv, hnv⟩ : ∃ nv, (fnAt p fn).f0.length = nv := ⟨_, rfl⟩
  obtain ⟨b, hb⟩ : ∃ b, W.heap.size = b := ⟨_, rfl⟩
  have hB := (Bel.refl W).alloc (.cells #[.slice A0 nv c0, .slice A1 (fnAt p fn).f1.length c1, .int .i64 (fnAt p fn).f2, .int .i64 (fnAt p fn).f3, .slice A4 (fnAt p fn).f4.length c4] 52)
  have hb0 : (W.alloc (.cells #[.slice A0 nv c0, .slice A1 (fnAt p fn).f1.length c1, .int .i64 (fnAt p fn).f2, .int .i64 (fnAt p fn).f3, .slice A4 (fnAt p fn).f4.length c4] 52)).heap[b]? = some (.cells #[.slice A0 nv c0, .slice A1 (fnAt p fn).f1.length c1, .int .i64 (fnAt p fn).f2, .int .i64 (fnAt p fn).f3, .slice A4 (fnAt p fn).f4.length c4] 52 (0, 0)) := heap_new' hb.symm
  go_enter Try.func41, Try.ntmps41
  go_upto_region 1 with (fail)
  generalize W.alloc (.cells #[.slice A0 nv c0, .slice A1 (fnAt p fn).f1.length c1, .int .i64 (fnAt p fn).f2, .int .i64 (fnAt p fn).f3, .slice A4 (fnAt p fn).f4.length c4] 52) = wa at hB hb0 ⊢
  clear y0 y1 y2 y3 y4 z0
  have hmv := make_vals nv (by omega)
  have z0 : wa.cell? ⟨b, 0, none⟩ = some (.slice A0 nv c0) := blk_cell hb0 0
  have z1 : wa.cell? ⟨b, 1, none⟩ = some (.slice A1 (fnAt p fn).f1.length c1) := blk_cell hb0 1
  have z2 : wa.cell? ⟨b, 2, none⟩ = some (.int .i64 (fnAt p fn).f2) := blk_cell hb0 2
  have z3 : wa.cell? ⟨b, 3, none⟩ = some (.int .i64 (fnAt p fn).f3) := blk_cell hb0 3
  have z4 : wa.cell? ⟨b, 4, none⟩ = some (.slice A4 (fnAt p fn).f4.length c4) := blk_cell hb0 4
  obtain ⟨g, hg⟩ : ∃ g, wa.heap.size = g := ⟨_, rfl⟩
  have x0 : ∀ o, (wa.alloc o).cell? ⟨b, 0, none⟩ = some (.slice A0 nv c0) := fun o => Bel.cell ((Bel.refl wa).alloc o) z0
  have x1 : ∀ o, (wa.alloc o).cell? ⟨b, 1, none⟩ = some (.slice A1 (fnAt p fn).f1.length c1) := fun o => Bel.cell ((Bel.refl wa).alloc o) z1
  have x2 : ∀ o, (wa.alloc o).cell? ⟨b, 2, none⟩ = some (.int .i64 (fnAt p fn).f2) := fun o => Bel.cell ((Bel.refl wa).alloc o) z2
  have x3 : ∀ o, (wa.alloc o).cell? ⟨b, 3, none⟩ = some (.int .i64 (fnAt p fn).f3) := fun o => Bel.cell ((Bel.refl wa).alloc o) z3
  have x4 : ∀ o, (wa.alloc o).cell? ⟨b, 4, none⟩ = some (.slice A4 (fnAt p fn).f4.length c4) := fun o => Bel.cell ((Bel.refl wa).alloc o) z4
  go_cut [7, 16, 17, 18, 19, 20, 21, 22] (fun v7 _ _ _ _ _ _ _ W1 => v7 = .pointer (some ⟨g + 1, 0, none⟩) ∧ W1.heap[g + 1]? = some (.cells #[.slice A0 nv c0, .slice A1 (fnAt p fn).f1.length c1, .int .i64 (fnAt p fn).f2, .int .i64 (fnAt p fn).f3, .slice A4 (fnAt p fn).f4.length c4, .slice (some ⟨g, 0, none⟩) nv nv, .int .i64 0, .int .i64 0, .int .i64 0] 122 (0, 0)) ∧ ValsAt W1 g (List.replicate nv zVal) ∧ Bel wa W1)
  case first =>
    go_region_law (fail)
    all_goals
      go_wp2
      go_meet
    all_goals
      case rel =>
        have hBq := (((Bel.refl wa).alloc (.cells (valCells (List.replicate nv zVal)).toArray 89)).alloc (.cells #[.slice A0 nv c0, .slice A1 (fnAt p fn).f1.length c1, .int .i64 (fnAt p fn).f2, .int .i64 (fnAt p fn).f3, .slice A4 (fnAt p fn).f4.length c4, .slice (some ⟨g, 0, none⟩) nv nv, .int .i64 0, .int .i64 0, .int .i64 0] 122)).drewN 1
        exact ⟨rfl, heap_new' (by simp [hg]), heap_old (heap_new' hg.symm), hBq⟩
  case rest =>
    obtain ⟨rfl, hfr, hvs, hBc⟩ := hcut
    clear hmv x0 x1 x2 x3 x4 z0 z1 z2 z3 z4
    have hBW := hB.trans hBc
    obtain ⟨w1, hcp, hv1, hK1⟩ := copy_vals wc g (List.replicate nv zVal) args hvs A c (hR.step hBW) (by simp; omega)
    rw [List.length_replicate] at hcp
    have hgW : W.heap.size ≤ g := by have := hB.size; omega
    have hB1 : Bel W w1 := hK1.bel hBW hgW
    have hC1 := h.step hB1
    have hfr1 := hK1.blk hfr (by omega)
    obtain ⟨PA', pc', hm1, _⟩ := hC1.blk
    have z0 : wc.cell? ⟨g + 1, 5, none⟩ = some (.slice (some ⟨g, 0, none⟩) nv nv) := blk_cell hfr 5
    have z1 : w1.cell? ⟨mb, 1, none⟩ = some sv := blk_cell hm1 1
    have hst := hC1.stack
    have hbase := hC1.bel.size
    have hl1 : (fs.reverse.map fun b => b.1).length ≤ 100000 := by simp; omega
    have hnm := hst.ne hm1 (by decide)
    go_wp2_with (refine app_ptr (g + 1) hst hbase rfl _ _ rfl hl1 rfl rfl ?_; intro v1 w2 ho2 hg2 hat2; obtain ⟨A9, c9, rfl, _, _⟩ := ho2.reads; have hm2 := (hg2.block mb (blk_lt hm1) (fun e => hnm e.symm)).trans hm1; have q0 := blk_frozen hm2 1; have q1 : w2.cell? ⟨mb, 1, none⟩ = some sv := blk_cell hm2 1)
    go_end0
    have hvl : (beginL p fn args).vars = args ++ (List.replicate nv zVal).drop args.length := by
      show args ++ List.replicate ((fnAt p fn).f0.length - args.length) zVal = _
      rw [hnv, List.drop_replicate]
    have hvn : (beginL p fn args).vars.length = nv := by rw [hvl]; simp; omega
    have hFr : FrAt w0 p w1 (g + 1, g) (beginL p fn args) := ⟨⟨_, _, _, _, A4, c4, by rw [hvn]; exact hfr1, r4⟩, by rw [hvl]; exact hv1⟩
    obtain ⟨S1, hz⟩ := h.push (f := beginL p fn args) hB1 hFr (Nat.le_succ_of_le hgW) hgW ho2 hg2 hat2 (KO.set mb 1 w2 _) (fun PA2 pc2 hm0 => (blk_set hm0 1 _).trans rfl)
    have e9 : ((fs.reverse.map fun b => b.1) ++ [g + 1]).length = s.stack.length + 1 := by simp [hlen]
    rw [e9] at hz
    exact ⟨rfl, _, _, S1, hz⟩
end Go.Proofs.Ytodjpbidjldblaa.H

/- Layer 1, law10, the checker: behind a block; all edges. -/
namespace Go.Proofs.Ytodjpbidjldblaa.H
open Go.RowKit Go.Proofs.YtodjpbidjldblaaW.PrintWords Go.Proofs.YtodjpbidjldblaaW.PrintLast Go.Proofs.YtodjpbidjldblaaW.PrintMore
set_option linter.unusedVariables false
set_option linter.unusedSimpArgs false
set_option maxRecDepth 100000
/-- an instruction's variables are there -/
structure RefsP (f : SFunc) (x : SIns) : Prop where
  d : has x.f0 68 → 0 ≤ x.f1 ∧ x.f1 < f.f0.length
  a : has x.f0 65 → 0 ≤ x.f2 ∧ x.f2 < f.f0.length
theorem InsP.refs {p : SProg} {f : SFunc} {x : SIns} (h : InsP p f x) : RefsP f x := ⟨h.d, h.a⟩
/-- a set of one's own, made from base on -/
def SetO (base : Nat) (W : World) (v : Value) : Prop := ∃ l, OwnAt (Kd.int .u64) 115 base W v l ∧ l.length ≤ 64
theorem SetO.at_ {base : Nat} {W : World} {v : Value} (h : SetO base W v) : SetAt W v := by
  obtain ⟨l, h1, h2⟩ := h
  obtain ⟨A, c, rfl, hc, hR⟩ := h1.reads
  exact ⟨A, l, c, rfl, hR, h2, hc⟩
theorem SetO.step {base : Nat} {W W1 : World} {v : Value} (h : SetO base W v) (k : Bel W W1) : SetO base W1 v := by
  obtain ⟨l, h1, h2⟩ := h
  exact ⟨l, h1.step k, h2⟩
theorem SetO.nil (base : Nat) (W : World) : SetO base W (.slice none 0 0) := ⟨[], OwnAt.nil _ _ _ _, by simp⟩
theorem SetO.of {base : Nat} {w W : World} {v : Value} {l : List Int} (h : OwnU w W v l) (hl : l.length ≤ 64) (hb : base ≤ w.heap.size) : SetO base W v := ⟨l, OwnAt.of_own h hb, hl⟩
def TwoSets (base : Nat) (w : World) (e : Ending) (w' : World) : Prop := ∃ v1 v2, e = .returned (.tuple #[v1, v2]) ∧ SetO base w' v1 ∧ SetO base w' v2 ∧ Bel w w'
theorem getD_at {α : Type} {l : List α} {k : Nat} {d : α} (h : k < l.length) : l.getD k d = l[k] := by rw [List.getD_eq_getElem?_getD, List.getElem?_eq_getElem h, Option.getD_some]
set_option maxHeartbeats 4000000 in
theorem block_any (f : SFunc) (A0 : Option Addr) (c0 : Nat) (A1 : Option Addr) (c1 : Nat) (A4 : Option Addr) (c4 : Nat) (b : Nat) (v2 v3 : Value) (w : World) (hF : FuncAt w f A0 c0 A1 c1 A4 c4) (h48 : f.f0.length ≤ 48) (hbl : f.f1.length = f.f0.length)
    (hb : b < f.f4.length) (hcl : (f.f4.getD b zBlock).f0.length ≤ 40) (hx : Aside0 (∀ k < (f.f4.getD b zBlock).f0.length, RefsP f ((f.f4.getD b zBlock).f0.getD k zIns))) (base : Nat) (hbase : base ≤ w.heap.size) (hs2 : SetO base w v2) (hs3 : SetO base w v3) :
    Calls Try.prog 51 #[funcV f A0 c0 A1 c1 A4 c4, .int .i64 b, v2, v3] w (TwoSets base w) := by
  obtain ⟨g, hg⟩ : ∃ g, w.heap.size = g := ⟨_, rfl⟩
  have hB := (Bel.refl w).alloc (.cells #[.slice A0 f.f0.length c0, .slice A1 f.f1.length c1, .int .i64 f.f2, .int .i64 f.f3, .slice A4 f.f4.length c4] 52)
  have hbk := heap_new' (o := .cells #[.slice A0 f.f0.length c0, .slice A1 f.f1.length c1, .int .i64 f.f2, .int .i64 f.f3, .slice A4 f.f4.length c4] 52) hg.symm
  obtain ⟨ad4, B0, d0, rfl, y0, hd0, hri⟩ := block_at hF.r4 b hb
  rw [getD_at hb] at hcl hx
  obtain ⟨l, hl⟩ : ∃ l, (f.f4[b]).f0 = l := ⟨_, rfl⟩
  rw [hl] at hcl hx y0 hd0 hri
  have hblt : (b : Int) < (f.f4.length : Int) := by omega
  replace hbl := Aside0.mk hbl
  clear hl
  go_enter Try.func51, Try.ntmps51
  go_upto_region 1 with (fail)
  generalize w.alloc (.cells #[.slice A0 f.f0.length c0, .slice A1 f.f1.length c1, .int .i64 f.f2, .int .i64 f.f3, .slice (some ad4) f.f4.length c4] 52) = wa at hB hbk ⊢
  replace hg := Aside0.mk hg
  have z4 : wa.cell? ⟨g, 4, none⟩ = some (.slice (some ad4) f.f4.length c4) := blk_cell hbk 4
  have y0 := Bel.cell hB y0
  have hF := hF.step hB
  have hri := hri.step hB
  have hs2 := hs2.step hB
  have hs3 := hs3.step hB
  go_wp2
  clear z4 y0
  go_loopw [2, 3, 11] (fun v2 v3 i W => ∃ (k : Nat), k ≤ l.length ∧ i = .int .i64 k ∧ SetO base W v2 ∧ SetO base W v3 ∧ Bel wa W) (fun _ _ i _ => l.length - (intOf i).toNat)
  case atStart => exact ⟨0, by omega, rfl, hs2, hs3, Bel.refl _⟩
  case round =>
    obtain ⟨k, hk, rfl, hS2, hS3, hB1⟩ := hrel
    clear hs2 hs3
    by_cases hlt : k < l.length
    · have q1 : (k : Int) < (l.length : Int) := by omega
      have q0 : (0 : Int) ≤ (k : Int) := by omega
      obtain ⟨ad5, A6, c6, rfl, y0, y1, y2, y3, y4, y5, y6, hl6, hR6⟩ := ins_at (hri.step hB1) k hlt
      have hxk := hx.out k hlt
      rw [getD_at hlt] at hxk
      obtain ⟨x, hxe⟩ : ∃ x, l[k] = x := ⟨_, rfl⟩
      rw [hxe] at y0 y1 y2 y3 y4 y5 y6 hl6 hR6 hxk
      clear hxe
      have hbk1 := hB1.blk hbk
      have hS := Aside0.mk (fun (X : World) (q : Bel wr X) => And.intro (blk_cell (q.blk hbk1) 0) (And.intro (blk_cell (q.blk hbk1) 1) (And.intro (blk_cell (q.blk hbk1) 2) (And.intro (blk_cell (q.blk hbk1) 3) (And.intro (blk_cell (q.blk hbk1) 4) (And.intro (Bel.cell q y0) (And.intro (Bel.cell q y1) (And.intro (Bel.cell q y2) (And.intro (Bel.cell q y3) (And.intro (Bel.cell q y4) (And.intro (Bel.cell q y5) (Bel.cell q y6))))))))))))
      have hBd : Bel wr wr.drew := (Bel.refl wr).drewN 1
      have hst := Aside0.mk (Step_any f A0 c0 A1 c1 (some ad4) c4 x A6 c6 u2 u3 wr.drew (hF.step (hB1.trans hBd)) h48 hbl.out (hR6.step hBd) hl6 hxk.d (fun e => hxk.a (by rw [e]; decide)) (hS2.step hBd).at_ (hS3.step hBd).at_)
      clear y0 y1 y2 y3 y4 y5 y6 hxk
      go_upto_region 5 with (fail)
      refine wp_region_held_drew (S := fun w' => w'.cell? ⟨g, 0, none⟩ = some (.slice A0 f.f0.length c0) ∧ w'.cell? ⟨g, 1, none⟩ = some (.slice A1 f.f1.length c1) ∧ w'.cell? ⟨g, 2, none⟩ = some (.int .i64 f.f2) ∧ w'.cell? ⟨g, 3, none⟩ = some (.int .i64 f.f3) ∧ w'.cell? ⟨g, 4, none⟩ = some (.slice (some ad4) f.f4.length c4) ∧ w'.cell? (ad5.add (k * 7)) = some (.int .i64 x.f0) ∧ w'.cell? ⟨(ad5.add (k * 7)).block, (ad5.add (k * 7)).off + 1, none⟩ = some (.int .i64 x.f1) ∧ w'.cell? ⟨(ad5.add (k * 7)).block, (ad5.add (k * 7)).off + 2, none⟩ = some (.int .i64 x.f2) ∧ w'.cell? ⟨(ad5.add (k * 7)).block, (ad5.add (k * 7)).off + 3, none⟩ = some (.int .i64 x.f3) ∧ w'.cell? ⟨(ad5.add (k * 7)).block, (ad5.add (k * 7)).off + 4, none⟩ = some (.int .i64 x.f4) ∧ w'.cell? ⟨(ad5.add (k * 7)).block, (ad5.add (k * 7)).off + 5, none⟩ = some (.int .i64 x.f5) ∧ w'.cell? ⟨(ad5.add (k * 7)).block, (ad5.add (k * 7)).off + 6, none⟩ = some (.slice A6 x.f6.length c6)) (by kernel_rfl) (hS.out _ hBd) (fun hHeld => ?_)
      refine wpAnyH_take (i := 0) (v := ?_) rfl (by kernel_rfl) (by kernel_rfl) (by kernel_rfl) (fun _ _ _ h => h) (Or.inl ⟨by kernel_rfl, ?_⟩) hHeld ?_
      rotate_left 1
      focus (intro w hSw; (try dsimp only at hSw); go_simp; (try with_reducible rfl); done)
      try simp only [Act.put, List.getElem_toArray, List.getElem_cons_zero, List.getElem_cons_succ, List.setIfInBounds_toArray, List.set_cons_zero, List.set_cons_succ]
      refine wpAnyH_take (i := 1) (v := ?_) rfl (by kernel_rfl) (by kernel_rfl) (by kernel_rfl) (fun _ _ _ h => h) (Or.inl ⟨by kernel_rfl, ?_⟩) hHeld ?_
      rotate_left 1
      focus (intro w hSw; (try dsimp only at hSw); go_simp; (try with_reducible rfl); done)
      try simp only [Act.put, List.getElem_toArray, List.getElem_cons_zero, List.getElem_cons_succ, List.setIfInBounds_toArray, List.set_cons_zero, List.set_cons_succ]
      refine wpAnyH_take (i := 2) (v := ?_) rfl (by kernel_rfl) (by kernel_rfl) (by kernel_rfl) (fun _ _ _ h => h) (Or.inl ⟨by kernel_rfl, ?_⟩) hHeld ?_
      rotate_left 1
      focus (intro w hSw; (try dsimp only at hSw); go_simp; (try with_reducible rfl); done)
      try simp only [Act.put, List.getElem_toArray, List.getElem_cons_zero, List.getElem_cons_succ, List.setIfInBounds_toArray, List.set_cons_zero, List.set_cons_succ]
      refine wpAnyH_take (i := 3) (v := ?_) rfl (by kernel_rfl) (by kernel_rfl) (by kernel_rfl) (fun _ _ _ h => h) (Or.inl ⟨by kernel_rfl, ?_⟩) hHeld ?_
      rotate_left 1
      focus (intro w hSw; (try dsimp only at hSw); go_simp; (try with_reducible rfl); done)
      try simp only [Act.put, List.getElem_toArray, List.getElem_cons_zero, List.getElem_cons_succ, List.setIfInBounds_toArray, List.set_cons_zero, List.set_cons_succ]
      refine wpAnyH_take (i := 4) (v := ?_) rfl (by kernel_rfl) (by kernel_rfl) (by kernel_rfl) (fun _ _ _ h => h) (Or.inl ⟨by kernel_rfl, ?_⟩) hHeld ?_
      rotate_left 1
      focus (intro w hSw; (try dsimp only at hSw); go_simp; (try with_reducible rfl); done)
      try simp only [Act.put, List.getElem_toArray, List.getElem_cons_zero, List.getElem_cons_succ, List.setIfInBounds_toArray, List.set_cons_zero, List.set_cons_succ]
      refine wpAnyH_take (i := 5) (v := ?_) rfl (by kernel_rfl) (by kernel_rfl) (by kernel_rfl) (fun _ _ _ h => h) (Or.inl ⟨by kernel_rfl, ?_⟩) hHeld ?_
      rotate_left 1
      focus (intro w hSw; (try dsimp only at hSw); go_simp; (try with_reducible rfl); done)
      try simp only [Act.put, List.getElem_toArray, List.getElem_cons_zero, List.getElem_cons_succ, List.setIfInBounds_toArray, List.set_cons_zero, List.set_cons_succ]
      refine wpAnyH_take (i := 6) (v := ?_) rfl (by kernel_rfl) (by kernel_rfl) (by kernel_rfl) (fun _ _ _ h => h) (Or.inl ⟨by kernel_rfl, ?_⟩) hHeld ?_
      rotate_left 1
      focus (intro w hSw; (try dsimp only at hSw); go_simp; (try with_reducible rfl); done)
      try simp only [Act.put, List.getElem_toArray, List.getElem_cons_zero, List.getElem_cons_succ, List.setIfInBounds_toArray, List.set_cons_zero, List.set_cons_succ]
      refine wpAnyH_ready (rs := [7]) (by kernel_rfl) (by simp) ?_
      refine AllReadyH.cons rfl (fun K hK => ?_) AllReadyH.nil
      go_simp
      (go_at_call 35; refine hst.out.mono ?_; rintro ex w2 ⟨v5, l5, v6, l6, rfl, h1, h2, h3, h4, hB2⟩)
      refine hK.out _ _ ?_ (fun hHeld => ?_)
      rotate_left 1
      clear hK K
      try simp only [Act.put, List.getElem_toArray, List.getElem_cons_zero, List.getElem_cons_succ, List.setIfInBounds_toArray, List.set_cons_zero, List.set_cons_succ]
      rotate_left 1
      · exact hS.out _ (hBd.trans hB2)
      refine wpAnyH_take (i := 8) (v := ?_) rfl (by kernel_rfl) (by kernel_rfl) (by kernel_rfl) (fun _ _ _ h => h) (Or.inl ⟨by kernel_rfl, ?_⟩) hHeld ?_
      rotate_left 1
      focus (intro w hSw; (try dsimp only at hSw); go_simp; (try with_reducible rfl); done)
      try simp only [Act.put, List.getElem_toArray, List.getElem_cons_zero, List.getElem_cons_succ, List.setIfInBounds_toArray, List.set_cons_zero, List.set_cons_succ]
      refine wpAnyH_take (i := 9) (v := ?_) rfl (by kernel_rfl) (by kernel_rfl) (by kernel_rfl) (fun _ _ _ h => h) (Or.inl ⟨by kernel_rfl, ?_⟩) hHeld ?_
      rotate_left 1
      focus (intro w hSw; (try dsimp only at hSw); go_simp; (try with_reducible rfl); done)
      try simp only [Act.put, List.getElem_toArray, List.getElem_cons_zero, List.getElem_cons_succ, List.setIfInBounds_toArray, List.set_cons_zero, List.set_cons_succ]
      refine wpAnyH_take (i := 10) (v := ?_) rfl (by kernel_rfl) (by kernel_rfl) (by kernel_rfl) (fun _ _ _ h => h) (Or.inl ⟨by kernel_rfl, ?_⟩) hHeld ?_
      rotate_left 1
      focus (intro w hSw; (try dsimp only at hSw); go_simp; (try with_reducible rfl); done)
      try simp only [Act.put, List.getElem_toArray, List.getElem_cons_zero, List.getElem_cons_succ, List.setIfInBounds_toArray, List.set_cons_zero, List.set_cons_succ]
      refine wpAnyH_take (i := 11) (v := ?_) rfl (by kernel_rfl) (by kernel_rfl) (by kernel_rfl) (fun _ _ _ h => h) (Or.inl ⟨by kernel_rfl, ?_⟩) hHeld ?_
      rotate_left 1
      focus (intro w hSw; (try dsimp only at hSw); go_simp; (try with_reducible rfl); done)
      try simp only [Act.put, List.getElem_toArray, List.getElem_cons_zero, List.getElem_cons_succ, List.setIfInBounds_toArray, List.set_cons_zero, List.set_cons_succ]
      refine wpAnyH_take (i := 12) (v := ?_) rfl (by kernel_rfl) (by kernel_rfl) (by kernel_rfl) (fun _ _ _ h => h) (Or.inl ⟨by kernel_rfl, ?_⟩) hHeld ?_
      rotate_left 1
      focus (intro w hSw; (try dsimp only at hSw); go_simp; (try with_reducible rfl); done)
      try simp only [Act.put, List.getElem_toArray, List.getElem_cons_zero, List.getElem_cons_succ, List.setIfInBounds_toArray, List.set_cons_zero, List.set_cons_succ]
      refine wpAnyH_done (by kernel_rfl) ?_ _
      go_wp2
      go_roundw
      case rel =>
        have hbd : base ≤ wr.drew.heap.size := Nat.le_trans hbase (hB.trans (hB1.trans hBd)).size
        exact ⟨k + 1, by omega, by go_num, SetO.of h1 h2 hbd, SetO.of h3 h4 hbd, hB1.trans (hBd.trans hB2)⟩
      case measure => simp [intOf]; omega
    · have q1 : ¬ (k : Int) < (l.length : Int) := by omega
      go_wp2
      go_ret2
      exact ⟨_, _, rfl, hS2, hS3, hB.trans hB1⟩
end Go.Proofs.Ytodjpbidjldblaa.H

/- Layer 1, law10, the checker: all edges. -/
namespace Go.Proofs.Ytodjpbidjldblaa.H
open Go.RowKit Go.Proofs.YtodjpbidjldblaaW.PrintWords Go.Proofs.YtodjpbidjldblaaW.PrintLast Go.Proofs.YtodjpbidjldblaaW.PrintMore
set_option linter.unusedVariables false
set_option linter.unusedSimpArgs false
set_option maxRecDepth 100000
/-! #### struct type 108 -/
structure SEdge where
  f0 : Int
  f1 : Int
def zEdge : SEdge := ⟨(0 : Int), (0 : Int)⟩
def kEdge : Kd SEdge := Kd.iso (Kd.pair (Kd.int .i64) (Kd.int .i64)) (fun x : SEdge => (x.f0, x.f1))
theorem kEdge_open {w : World} {x : SEdge} {cs : List Value} (h : kEdge.K w x cs) : cs = [.int .i64 x.f0, .int .i64 x.f1] := by
  obtain ⟨_, _, rfl, rfl, rfl⟩ := h
  exact rfl
theorem kEdge_mkM (w : World) (base : Nat) (ok : Nat → Prop) (x : SEdge)  : kEdge.M w base ok x [.int .i64 x.f0, .int .i64 x.f1] := ⟨[.int .i64 x.f0], [.int .i64 x.f1], rfl, rfl, rfl⟩
def rd_TEdge (xs : List SEdge) (i : Int) : SEdge := xs.getD i.toNat zEdge
theorem at_TEdge {w : World} {A : Option Addr} {n : Nat} {xs : List SEdge} (h : Kd.C kEdge w A n xs) (i : Int) (h0 : 0 ≤ i) (h1 : i < n) : ∃ ad , A = some ad ∧ w.cell? (ad.add (i.toNat * 2)) = some (.int .i64 (rd_TEdge xs i).f0) ∧ w.cell? ⟨(ad.add (i.toNat * 2)).block, (ad.add (i.toNat * 2)).off + 1, none⟩ = some (.int .i64 (rd_TEdge xs i).f1) := by
  obtain ⟨ad, c, e, _, hK, hc0⟩ := Kd.C_get h zEdge i h0 h1
  have hc : ∀ j u, c[j]? = some u → w.cell? (ad.add (i.toNat * 2 + j)) = some u := hc0
  obtain rfl := kEdge_open hK
  exact ⟨ad, e, hc 0 _ rfl, by rw [← add_field _ _ 1 (by omega)]; exact hc 1 _ rfl⟩
theorem info_Edge : (Try.prog.info? 108).map (fun i => (i.zero, i.size, i.bytes)) = some (some (.agg #[.int .i64 0, .int .i64 0]), 2, 16) := by kernel_rfl
section
variable {ops : Array Oper} {rest : List Oper} {o : Oper} {a : Act} {Q : Exit → Act → World → Prop}
theorem app_edge {base : Nat} {W : World} {v : Value} {xs : List SEdge} (p : SEdge) (HO : OwnAt kEdge 108 base W v xs) (hbase : base ≤ W.heap.size) (hgd : o.guard = none) (s x : Operand)
    (ho : o.op = .call { callee := .builtin .append, args := #[s, x], argTypes := #[105, 105] })
    (hl : xs.length ≤ 1000000) (hs : a.eval s = v) (hx : a.eval x = .slice (some ⟨W.heap.size, 0, none⟩) 1 1)
    (h : ∀ v1 w1, OwnAt kEdge 108 base w1 v1 (xs ++ [p]) → KT [108] base W w1 → wpList Try.prog ops Q rest (a.put o.dst v1) w1) :
    wpList Try.prog ops Q (o :: rest) a (W.alloc (.cells #[.int .i64 p.f0, .int .i64 p.f1] 108)) := by
  refine Kd.R_append kEdge (w0 := W) base hgd s x 105 108 (.agg #[.int .i64 0, .int .i64 0]) 16 ho Try.underlying105 info_Edge rfl (by decide) (by omega) v xs p [.int .i64 p.f0, .int .i64 p.f1] (fun _ => True) (fun _ => False) hs hx (kEdge_mkM _ _ _ p) (fun _ hk => hk.elim) (fun _ _ => trivial) HO.out (Below.refl _ _) hbase (by omega) ?_
  intro v1 w1 ho hb hg hat
  obtain ⟨inner, hrow⟩ := Kd.R_own HO.out
  exact h v1 w1 ⟨ho⟩ (KT.grown hrow hg (by simp) (Nat.le_refl _) hbase)
end
def EdgeOk (n : Nat) (l : List SEdge) : Prop := ∀ e ∈ l, (0 ≤ e.f0 ∧ e.f0 < n) ∧ 0 ≤ e.f1 ∧ e.f1 < n
def EdgesIs (n : Nat) (w : World) (e : Ending) (w' : World) : Prop := ∃ v l, e = .returned v ∧ Own kEdge 108 w w' v l ∧ EdgeOk n l ∧ l.length ≤ 2 * n ∧ Bel w w'
set_option maxHeartbeats 4000000 in
theorem Edges_any (f : SFunc) (A0 : Option Addr) (c0 : Nat) (A1 : Option Addr) (c1 : Nat) (A4 : Option Addr) (c4 : Nat) (w : World) (hF : FuncAt w f A0 c0 A1 c1 A4 c4) (hn : f.f4.length ≤ 40) (hc : Aside0 (∀ b < f.f4.length, 1 ≤ (f.f4.getD b zBlock).f0.length ∧ (f.f4.getD b zBlock).f0.length ≤ 40))
    (hnx : Aside0 (∀ b < f.f4.length, ∀ v ∈ nextB f b, 1 ≤ v ∧ v < (f.f4.length : Int))) :
    Calls Try.prog 50 #[funcV f A0 c0 A1 c1 A4 c4] w (EdgesIs f.f4.length w) := by
  obtain ⟨g, hg⟩ : ∃ g, w.heap.size = g := ⟨_, rfl⟩
  have hB := (Bel.refl w).alloc (.cells #[.slice A0 f.f0.length c0, .slice A1 f.f1.length c1, .int .i64 f.f2, .int .i64 f.f3, .slice A4 f.f4.length c4] 52)
  have hbk := heap_new' (o := .cells #[.slice A0 f.f0.length c0, .slice A1 f.f1.length c1, .int .i64 f.f2, .int .i64 f.f3, .slice A4 f.f4.length c4] 52) hg.symm
  go_enter Try.func50, Try.ntmps50
  go_upto_region 1 with (fail)
  generalize w.alloc (.cells #[.slice A0 f.f0.length c0, .slice A1 f.f1.length c1, .int .i64 f.f2, .int .i64 f.f3, .slice A4 f.f4.length c4] 52) = wa at hB hbk ⊢
  replace hg := Aside0.mk hg
  have hgw : w.heap.size ≤ wa.heap.size := hB.size
  go_wp2
  go_loopw [3, 4] (fun v i W => ∃ (k : Nat) (l : List SEdge), k ≤ f.f4.length ∧ i = .int .i64 k ∧ OwnAt kEdge 108 w.heap.size W v l ∧ EdgeOk f.f4.length l ∧ l.length ≤ 2 * k ∧ KT [108] w.heap.size wa W) (fun _ i _ => f.f4.length - (intOf i).toNat)
  case atStart => exact ⟨0, [], by omega, rfl, OwnAt.nil _ _ _ _, (fun e he => by cases he), by simp, KT.refl _ _ _⟩
  case round =>
    obtain ⟨k, l, hk, rfl, hO, hE, hl, hK1⟩ := hrel
    have hb1 := hK1.blk hbk (by decide)
    have hB1 : Bel w wr := ⟨hB.out.trans hK1.below⟩
    have z0 : wr.cell? ⟨g, 0, none⟩ = some (.slice A0 f.f0.length c0) := blk_cell hb1 0
    have z1 : wr.cell? ⟨g, 1, none⟩ = some (.slice A1 f.f1.length c1) := blk_cell hb1 1
    have z2 : wr.cell? ⟨g, 2, none⟩ = some (.int .i64 f.f2) := blk_cell hb1 2
    have z3 : wr.cell? ⟨g, 3, none⟩ = some (.int .i64 f.f3) := blk_cell hb1 3
    have z4 : wr.cell? ⟨g, 4, none⟩ = some (.slice A4 f.f4.length c4) := blk_cell hb1 4
    have hwr := hB1.size
    by_cases hlt : k < f.f4.length
    · have q1 : (k : Int) < (f.f4.length : Int) := by omega
      have hnb := Aside0.mk (NextB_any k (hF.step hB1) hlt (hc.out k hlt))
      obtain ⟨nb, hnbe⟩ : ∃ nb, nextB f k = nb := ⟨_, rfl⟩
      have hok := Aside0.mk (hnx.out k hlt)
      have hn2 : (nextB f k).length ≤ 2 := nextL_len _
      rw [hnbe] at hnb hok hn2
      clear hnbe
      go_wp2_with (go_at_call 53; ((with_reducible refine hnb.out.mono ?_); rintro e w2 ⟨v2, rfl, hO2, hB2⟩; obtain ⟨N, cN, rfl, _, _⟩ := hO2.reads; have hN2 := OwnAt.of_own hO2 hwr))
      go_loopw [3, 6] (fun v i W => ∃ (j : Nat) (l1 : List SEdge), j ≤ nb.length ∧ i = .int .i64 j ∧ OwnAt kEdge 108 w.heap.size W v l1 ∧ EdgeOk f.f4.length l1 ∧ l1.length ≤ 2 * k + j ∧ KT [108] w.heap.size w2 W) (fun _ i _ => nb.length - (intOf i).toNat)
      case atStart => exact ⟨0, l, by omega, rfl, hO.step hB2, hE, by omega, KT.refl _ _ _⟩
      case round =>
        obtain ⟨j, l1, hj, rfl, hO1, hE1, hl1, hK3⟩ := hrel
        clear z0 z1 z2 z3 z4
        have hK4 := hK1.trans ((KT.of_bel hB2 hwr [108]).trans hK3)
        by_cases hjl : j < nb.length
        · have p1 : (j : Int) < (nb.length : Int) := by omega
          obtain ⟨ad, rfl, y0⟩ := rd_atN (hN2.keep hK3 (by intro q hq; rw [List.mem_singleton.1 hq]; decide)).rdOf j hjl
          have hm := hok.out nb[j] (List.getElem_mem hjl)
          have em : rd nb (j : Int) = nb[j] := by simp [rd, List.getD_eq_getElem?_getD, List.getElem?_eq_getElem hjl]
          rw [← em] at hm
          obtain ⟨t, ht⟩ : ∃ t, rd nb (j : Int) = t := ⟨_, rfl⟩
          rw [ht] at hm y0
          clear ht em
          obtain ⟨u, c, rfl, _, _⟩ := hO1.reads
          have hwr2 : w.heap.size ≤ wr.heap.size := Nat.le_trans hgw hK4.size
          go_wp2_with (refine app_edge ⟨k, t⟩ hO1 hwr2 rfl _ _ rfl (by omega) rfl rfl ?_; intro v7 w7 hO7 hK7; obtain ⟨A7, c7, rfl, _, _⟩ := hO7.reads)
          go_roundw
          case rel =>
            have e9 : (l1 ++ [(⟨k, t⟩ : SEdge)]).length = l1.length + 1 := by simp
            rw [e9] at hO7
            refine ⟨j + 1, _, by omega, by go_num, hO7, ?_, by rw [e9]; omega, hK3.trans hK7⟩
            intro e he
            rcases List.mem_append.1 he with he | he
            · exact hE1 e he
            · rw [List.mem_singleton.1 he]
              exact ⟨⟨by simp, q1⟩, by show 0 ≤ t; omega, hm.2⟩
          case measure => simp [intOf]; omega
        · have p1 : ¬ (j : Int) < (nb.length : Int) := by omega
          go_wp2
          go_roundw
          case rel => exact ⟨k + 1, l1, by omega, by go_num, hO1, hE1, by omega, hK4⟩
          case measure => simp [intOf]; omega
    · have q1 : ¬ (k : Int) < (f.f4.length : Int) := by omega
      go_wp2
      go_ret
      exact ⟨_, _, rfl, hO, hE, by omega, hB1⟩
end Go.Proofs.Ytodjpbidjldblaa.H

/- Layer 1, law10, the checker: may a function be? -/
namespace Go.Proofs.Ytodjpbidjldblaa.H
open Go.RowKit Go.Proofs.YtodjpbidjldblaaW.PrintWords Go.Proofs.YtodjpbidjldblaaW.PrintLast Go.Proofs.YtodjpbidjldblaaW.PrintMore
attribute [local go_sem] min2_int min_two
set_option linter.unusedVariables false
set_option linter.unusedSimpArgs false
set_option maxRecDepth 100000
def CodeP (f : SFunc) (b : Nat) : Prop := (1 ≤ (f.f4.getD b zBlock).f0.length ∧ (f.f4.getD b zBlock).f0.length ≤ 40) ∧ ∀ k < (f.f4.getD b zBlock).f0.length, lastL ((f.f4.getD b zBlock).f0.getD k zIns).f0 ↔ k + 1 = (f.f4.getD b zBlock).f0.length
def FuncIs (f : SFunc) (w : World) (e : Ending) (w' : World) : Prop := ∃ b, e = .returned (.bool b) ∧ (b = true → FuncP f) ∧ Bel w w'
theorem FuncIs.no {f : SFunc} {w w' : World} (h : Bel w w') : FuncIs f w (.returned (.bool false)) w' := ⟨false, rfl, (fun q => by cases q), h⟩
set_option maxHeartbeats 8000000 in
theorem Func_any (f : SFunc) (A0 : Option Addr) (c0 : Nat) (A1 : Option Addr) (c1 : Nat) (A4 : Option Addr) (c4 : Nat) (w : World) (hF : FuncAt w f A0 c0 A1 c1 A4 c4) :
    Calls Try.prog 46 #[funcV f A0 c0 A1 c1 A4 c4] w (FuncIs f w) := by
  obtain ⟨g, hg⟩ : ∃ g, w.heap.size = g := ⟨_, rfl⟩
  obtain ⟨n, hnn⟩ : ∃ n, f.f0.length = n := ⟨_, rfl⟩
  obtain ⟨nb, hnb⟩ : ∃ n, f.f1.length = n := ⟨_, rfl⟩
  obtain ⟨nc, hnc⟩ : ∃ n, f.f4.length = n := ⟨_, rfl⟩
  have hB := (Bel.refl w).alloc (.cells #[.slice A0 n c0, .slice A1 nb c1, .int .i64 f.f2, .int .i64 f.f3, .slice A4 nc c4] 52)
  have hbk := heap_new' (o := .cells #[.slice A0 n c0, .slice A1 nb c1, .int .i64 f.f2, .int .i64 f.f3, .slice A4 nc c4] 52) hg.symm
  simp only [funcV, hnn, hnb, hnc]
  replace hnn := Aside0.mk hnn
  replace hnb := Aside0.mk hnb
  replace hnc := Aside0.mk hnc
  have hwi := Aside0.mk (fun n a b W => within_any n a b W)
  go_enter Try.func46, Try.ntmps46
  go_upto_region 1 with (fail)
  generalize w.alloc (.cells #[.slice A0 n c0, .slice A1 nb c1, .int .i64 f.f2, .int .i64 f.f3, .slice A4 nc c4] 52) = wa at hB hbk ⊢
  replace hg := Aside0.mk hg
  have z0 : wa.cell? ⟨g, 0, none⟩ = some (.slice A0 n c0) := blk_cell hbk 0
  have z1 : wa.cell? ⟨g, 1, none⟩ = some (.slice A1 nb c1) := blk_cell hbk 1
  have z2 : wa.cell? ⟨g, 2, none⟩ = some (.int .i64 f.f2) := blk_cell hbk 2
  have z3 : wa.cell? ⟨g, 3, none⟩ = some (.int .i64 f.f3) := blk_cell hbk 3
  have z4 : wa.cell? ⟨g, 4, none⟩ = some (.slice A4 nc c4) := blk_cell hbk 4
  by_cases h1 : 48 < n
  · have d1 : (48 : Int) < (n : Int) := by omega
    go_wp2
    go_ret
    exact .no hB
  have d1 : ¬ (48 : Int) < (n : Int) := by omega
  by_cases h2 : nb = n
  case neg =>
    have d2 : ((nb : Int) != (n : Int)) = true := by simp; omega
    have d3 : (nb != n) = true := by simp; omega
    go_wp2
    go_ret
    exact .no hB
  subst h2
  obtain ⟨m, hm⟩ : ∃ m : Int, (if (nb : Int) < 4 then (nb : Int) else 4) = m := ⟨_, rfl⟩
  have hm4 : m ≤ 4 ∧ m ≤ nb := by rw [← hm]; split <;> omega
  have hw1 := Aside0.mk (fun W => hwi.out f.f2 0 m W)
  by_cases h3 : 0 ≤ f.f2 ∧ f.f2 ≤ m
  case neg =>
    rw [show decide (0 ≤ f.f2 ∧ f.f2 ≤ m) = false from decide_eq_false h3] at hw1
    clear h3
    go_wp2_with (go_at_call 45; ((with_reducible refine (hw1.out _).mono ?_); rintro e w2 ⟨rfl, rfl⟩))
    all_goals
      go_ret
      exact .no hB
  rw [show decide (0 ≤ f.f2 ∧ f.f2 ≤ m) = true from decide_eq_true h3] at hw1
  replace h3 := Aside0.mk h3
  have hw2 := Aside0.mk (fun W => hwi.out f.f3 0 1 W)
  by_cases h4 : 0 ≤ f.f3 ∧ f.f3 ≤ 1
  case neg =>
    rw [show decide (0 ≤ f.f3 ∧ f.f3 ≤ 1) = false from decide_eq_false h4] at hw2
    clear h4
    go_wp2_with (go_at_call 45; first | ((with_reducible refine (hw1.out _).mono ?_); rintro e w2 ⟨rfl, rfl⟩) | ((with_reducible refine (hw2.out _).mono ?_); rintro e w2 ⟨rfl, rfl⟩))
    all_goals
      go_ret
      exact .no hB
  rw [show decide (0 ≤ f.f3 ∧ f.f3 ≤ 1) = true from decide_eq_true h4] at hw2
  replace h4 := Aside0.mk h4
  have hw3 := Aside0.mk (fun W => hwi.out nc 1 40 W)
  by_cases h5 : (1 : Int) ≤ nc ∧ (nc : Int) ≤ 40
  case neg =>
    rw [show decide ((1 : Int) ≤ nc ∧ (nc : Int) ≤ 40) = false from decide_eq_false h5] at hw3
    clear h5
    go_wp2_with (go_at_call 45; first | ((with_reducible refine (hw1.out _).mono ?_); rintro e w2 ⟨rfl, rfl⟩) | ((with_reducible refine (hw2.out _).mono ?_); rintro e w2 ⟨rfl, rfl⟩) | ((with_reducible refine (hw3.out _).mono ?_); rintro e w2 ⟨rfl, rfl⟩))
    all_goals
      go_ret
      exact .no hB
  rw [show decide ((1 : Int) ≤ nc ∧ (nc : Int) ≤ 40) = true from decide_eq_true h5] at hw3
  have h5n : 1 ≤ nc ∧ nc ≤ 40 := by omega
  clear h5
  go_upto_region 4 with (go_at_call 45; first | ((with_reducible refine (hw1.out _).mono ?_); rintro e w2 ⟨rfl, rfl⟩) | ((with_reducible refine (hw2.out _).mono ?_); rintro e w2 ⟨rfl, rfl⟩) | ((with_reducible refine (hw3.out _).mono ?_); rintro e w2 ⟨rfl, rfl⟩))
  clear hm hw1 hw2 hw3 z0 z1 z2 z3 z4
  have h48 : nb ≤ 48 := by omega
  go_wp2
  go_loopw [4] (fun i W => ∃ k : Nat, k ≤ nb ∧ i = .int .i64 k ∧ Aside0 (∀ i : Nat, i < k → (i : Int) < f.f2 → f.f0.getD i 0 ≠ 2) ∧ Bel wa W) (fun i _ => nb - (intOf i).toNat)
  case atStart => exact ⟨0, by omega, rfl, ⟨fun i hi => by omega⟩, Bel.refl _⟩
  case round =>
    obtain ⟨k, hk, rfl, hd, hB1⟩ := hrel
    have hb1 := hB1.blk hbk
    have z0 : wr.cell? ⟨g, 0, none⟩ = some (.slice A0 nb c0) := blk_cell hb1 0
    have z1 : wr.cell? ⟨g, 1, none⟩ = some (.slice A1 nb c1) := blk_cell hb1 1
    have z2 : wr.cell? ⟨g, 2, none⟩ = some (.int .i64 f.f2) := blk_cell hb1 2
    have z4 : wr.cell? ⟨g, 4, none⟩ = some (.slice A4 nc c4) := blk_cell hb1 4
    have hF1 := hF.step (hB.trans hB1)
    by_cases hlt : k < nb
    · have q1 : (k : Int) < (nb : Int) := by omega
      have q0 : (0 : Int) ≤ (k : Int) := by omega
      obtain ⟨a0, e0, y0⟩ := rd_atN hF1.r0 k (by rw [hnn.out]; exact hlt)
      obtain ⟨a1, e1, y1⟩ := rd_atN hF1.r1 k (by rw [hnb.out]; exact hlt)
      subst e0 e1
      obtain ⟨kd, hkd⟩ : ∃ x, rd f.f0 (k : Int) = x := ⟨_, rfl⟩
      obtain ⟨bs, hbs⟩ : ∃ x, rd f.f1 (k : Int) = x := ⟨_, rfl⟩
      rw [hkd] at y0
      rw [hbs] at y1
      have hkd' : f.f0.getD k 0 = kd := by rw [← hkd]; rfl
      replace hkd' := Aside0.mk hkd'
      clear hbs hkd
      have hwk := Aside0.mk (fun W => hwi.out kd 0 2 W)
      by_cases h6 : 0 ≤ kd ∧ kd ≤ 2
      case neg =>
        rw [show decide (0 ≤ kd ∧ kd ≤ 2) = false from decide_eq_false h6] at hwk
        clear h6
        go_wp2_with (go_at_call 45; ((with_reducible refine (hwk.out _).mono ?_); rintro e w2 ⟨rfl, rfl⟩))
        go_ret
        exact .no (hB.trans hB1)
      rw [show decide (0 ≤ kd ∧ kd ≤ 2) = true from decide_eq_true h6] at hwk
      by_cases h7 : kd = 2
      · have b7 : (kd == 2) = true := by simp [h7]
        have b7' : (kd != 2) = false := by simp [h7]
        by_cases h8 : (k : Int) < f.f2
        · clear h7 h6
          go_wp2_with (go_at_call 45; ((with_reducible refine (hwk.out _).mono ?_); rintro e w2 ⟨rfl, rfl⟩))
          go_ret
          exact .no (hB.trans hB1)
        · clear h7 h6
          go_upto_region 12 with (go_at_call 45; ((with_reducible refine (hwk.out _).mono ?_); rintro e w2 ⟨rfl, rfl⟩))
          have hwb := Aside0.mk (fun W => hwi.out bs 0 ((nb : Int) - 1) W)
          clear hwk z2 y0
          by_cases h9 : 0 ≤ bs ∧ bs ≤ (nb : Int) - 1
          · rw [show decide (0 ≤ bs ∧ bs ≤ (nb : Int) - 1) = true from decide_eq_true h9] at hwb
            obtain ⟨bn, rfl⟩ : ∃ m : Nat, bs = (m : Int) := ⟨bs.toNat, by omega⟩
            obtain ⟨a2, e2, y2⟩ := rd_atN hF1.r0 bn (by have := hnn.out; omega)
            injection e2 with e2
            subst e2
            obtain ⟨kb, hkb⟩ : ∃ x, rd f.f0 (bn : Int) = x := ⟨_, rfl⟩
            rw [hkb] at y2
            have q3 : (0 : Int) ≤ (bn : Int) := by omega
            have q4 : (bn : Int) < (nb : Int) := by omega
            clear hkb h9 hF1
            by_cases h10 : kb = 1
            · have b10 : (kb != 1) = false := by simp [h10]
              clear h10
              have e85 : IntKind.i64.wrap ((nb : Int) - 1) = (nb : Int) - 1 := by rw [IntKind.wrap_i64]; omega
              go_quiet ((go_at_call 45; refine Calls.quiet_of_same ((hwb.out _).mono (fun e w' h => ⟨h.1, h.2.symm⟩))))
              clear e85
              go_wp2
              go_roundw
              case rel =>
                refine ⟨k + 1, by omega, by go_num, ⟨fun i hi hp => ?_⟩, hB1.drewN _⟩
                rcases Nat.lt_or_ge i k with h | h
                · exact hd.out i h hp
                · obtain rfl : i = k := by omega
                  omega
              case measure => simp [intOf]; omega
            · have b10 : (kb != 1) = true := by simp [h10]
              clear h10
              have e85 : IntKind.i64.wrap ((nb : Int) - 1) = (nb : Int) - 1 := by rw [IntKind.wrap_i64]; omega
              go_quiet ((go_at_call 45; refine Calls.quiet_of_same ((hwb.out _).mono (fun e w' h => ⟨h.1, h.2.symm⟩))))
              go_wp2
              go_ret
              exact .no ((hB.trans hB1).drewN _)
          · rw [show decide (0 ≤ bs ∧ bs ≤ (nb : Int) - 1) = false from decide_eq_false h9] at hwb
            clear h9
            have e85 : IntKind.i64.wrap ((nb : Int) - 1) = (nb : Int) - 1 := by rw [IntKind.wrap_i64]; omega
            go_quiet ((go_at_call 45; refine Calls.quiet_of_same ((hwb.out _).mono (fun e w' h => ⟨h.1, h.2.symm⟩))))
            go_wp2
            go_ret
            exact .no ((hB.trans hB1).drewN _)
      · have b7 : (kd == 2) = false := by simp [h7]
        have b7' : (kd != 2) = true := by simp [h7]
        go_upto_region 9 with (go_at_call 45; ((with_reducible refine (hwk.out _).mono ?_); rintro e w2 ⟨rfl, rfl⟩))
        all_goals
          by_cases h9 : bs = -1
          · have b9 : (bs != -1) = false := by simp [h9]
            clear h9
            go_wp2
            go_roundw
            case rel =>
              refine ⟨k + 1, by omega, by go_num, ⟨fun i hi hp => ?_⟩, hB1⟩
              rcases Nat.lt_or_ge i k with h | h
              · exact hd.out i h hp
              · rw [show i = k by omega, hkd'.out]; exact h7
            case measure => simp [intOf]; omega
          · have b9 : (bs != -1) = true := by simp [h9]
            clear h9
            go_wp2
            go_ret
            exact .no (hB.trans hB1)
    · have q1 : ¬ (k : Int) < (nb : Int) := by omega
      have hall : Aside0 (∀ i : Nat, (i : Int) < f.f2 → f.f0.getD i 0 ≠ 2) := ⟨fun i hi => by
        rcases Nat.lt_or_ge i k with h | h
        · exact hd.out i h hi
        · have := h3.out; omega⟩
      clear z0 z1 z2 z4 hF1 hd
      go_wp2
      go_loopw [5] (fun i W => ∃ b : Nat, b ≤ nc ∧ i = .int .i64 b ∧ Aside0 (∀ c < b, CodeP f c) ∧ Bel wa W) (fun i _ => nc - (intOf i).toNat)
      case atStart => exact ⟨0, by omega, rfl, ⟨fun i hi => by omega⟩, hB1⟩
      case round =>
        clear hB1
        obtain ⟨b, hb, rfl, hcd, hB1⟩ := hrel
        have hb1 := hB1.blk hbk
        have z4 : wr.cell? ⟨g, 4, none⟩ = some (.slice A4 nc c4) := blk_cell hb1 4
        have hF1 := hF.step (hB.trans hB1)
        by_cases hltb : b < nc
        · have p1 : (b : Int) < (nc : Int) := by omega
          have p0 : (0 : Int) ≤ (b : Int) := by omega
          obtain ⟨ad4, B0, d0, e4, y0, hd0, hri⟩ := block_at hF1.r4 b (by rw [hnc.out]; exact hltb)
          subst e4
          obtain ⟨l, hl⟩ : ∃ l, (f.f4[b]'(by rw [hnc.out]; exact hltb)).f0 = l := ⟨_, rfl⟩
          rw [hl] at y0 hd0 hri
          have hl' : (f.f4.getD b zBlock).f0 = l := by rw [getD_at (by rw [hnc.out]; exact hltb), hl]
          replace hl' := Aside0.mk hl'
          clear hl hF1
          obtain ⟨cl, hcl⟩ : ∃ cl, l.length = cl := ⟨_, rfl⟩
          rw [hcl] at y0 hd0
          replace hcl := Aside0.mk hcl
          have hwl := Aside0.mk (fun W => hwi.out cl 1 40 W)
          by_cases h11 : (1 : Int) ≤ (cl : Int) ∧ (cl : Int) ≤ 40
          case neg =>
            rw [show decide ((1 : Int) ≤ (cl : Int) ∧ (cl : Int) ≤ 40) = false from decide_eq_false h11] at hwl
            clear h11
            go_wp2_with (go_at_call 45; ((with_reducible refine (hwl.out _).mono ?_); rintro e w2 ⟨rfl, rfl⟩))
            go_ret
            exact .no (hB.trans hB1)
          rw [show decide ((1 : Int) ≤ (cl : Int) ∧ (cl : Int) ≤ 40) = true from decide_eq_true h11] at hwl
          have h11n : 1 ≤ cl ∧ cl ≤ 40 := by omega
          clear h11
          go_upto_region 20 with (go_at_call 45; ((with_reducible refine (hwl.out _).mono ?_); rintro e w2 ⟨rfl, hq2⟩; obtain rfl := hq2))
          clear y0 z4 hwl
          go_wp2
          go_loopw [7] (fun i W => ∃ j : Nat, j ≤ cl ∧ i = .int .i64 j ∧ Aside0 (∀ k < j, lastL (l.getD k zIns).f0 ↔ k + 1 = cl) ∧ Bel wr W) (fun i _ => cl - (intOf i).toNat)
          case atStart => exact ⟨0, by omega, rfl, ⟨fun i hi => by omega⟩, Bel.refl _⟩
          case round =>
            obtain ⟨j, hj, rfl, hlj, hB2⟩ := hrel
            have hB12 := hB1.trans hB2
            by_cases hltj : j < cl
            · have p2 : (j : Int) < (cl : Int) := by omega
              have p3 : (0 : Int) ≤ (j : Int) := by omega
              obtain ⟨ad5, A6, c6, e5, y1, _⟩ := ins_at (hri.step hB2) j (by rw [hcl.out]; exact hltj)
              subst e5
              obtain ⟨op, hop⟩ : ∃ op, (l[j]'(by rw [hcl.out]; exact hltj)).f0 = op := ⟨_, rfl⟩
              rw [hop] at y1
              have hop' : (l.getD j zIns).f0 = op := by rw [getD_at (by rw [hcl.out]; exact hltj), hop]
              replace hop' := Aside0.mk hop'
              clear hop
              have hla := Aside0.mk (fun W => Last_any op W)
              by_cases h12 : lastL op ↔ j + 1 = cl
              · by_cases h13 : j + 1 = cl
                · rw [show decide (lastL op) = true from decide_eq_true (h12.2 h13)] at hla
                  have b13 : ((j : Int) == ((cl : Int) - 1)) = true := by simp; omega
                  replace h12 := Aside0.mk h12
                  replace h13 := Aside0.mk h13
                  go_wp2_with (go_at_call 65; ((with_reducible refine (hla.out _).mono ?_); rintro e w3 ⟨rfl, hq3⟩; obtain rfl := hq3))
                  go_roundw
                  case rel =>
                    refine ⟨j + 1, by omega, by go_num, ⟨fun k hk => ?_⟩, hB2⟩
                    rcases Nat.lt_or_ge k j with h | h
                    · exact hlj.out k h
                    · rw [show k = j by omega, hop'.out]; exact h12.out
                  case measure => simp [intOf]; omega
                · rw [show decide (lastL op) = false from decide_eq_false (fun q => h13 (h12.1 q))] at hla
                  have b13 : ((j : Int) == ((cl : Int) - 1)) = false := by simp; omega
                  replace h12 := Aside0.mk h12
                  replace h13 := Aside0.mk h13
                  go_wp2_with (go_at_call 65; ((with_reducible refine (hla.out _).mono ?_); rintro e w3 ⟨rfl, hq3⟩; obtain rfl := hq3))
                  go_roundw
                  case rel =>
                    refine ⟨j + 1, by omega, by go_num, ⟨fun k hk => ?_⟩, hB2⟩
                    rcases Nat.lt_or_ge k j with h | h
                    · exact hlj.out k h
                    · rw [show k = j by omega, hop'.out]; exact h12.out
                  case measure => simp [intOf]; omega
              · by_cases h13 : j + 1 = cl
                · rw [show decide (lastL op) = false from decide_eq_false (fun q => h12 ⟨fun _ => h13, fun _ => q⟩)] at hla
                  have b13 : ((j : Int) == ((cl : Int) - 1)) = true := by simp; omega
                  clear h12 h13
                  go_wp2_with (go_at_call 65; ((with_reducible refine (hla.out _).mono ?_); rintro e w3 ⟨rfl, hq3⟩; obtain rfl := hq3))
                  go_ret
                  exact .no (hB.trans hB12)
                · rw [show decide (lastL op) = true from decide_eq_true (Classical.byContradiction fun q => h12 ⟨fun r => absurd r q, fun r => absurd r h13⟩)] at hla
                  have b13 : ((j : Int) == ((cl : Int) - 1)) = false := by simp; omega
                  clear h12 h13
                  go_wp2_with (go_at_call 65; ((with_reducible refine (hla.out _).mono ?_); rintro e w3 ⟨rfl, hq3⟩; obtain rfl := hq3))
                  go_ret
                  exact .no (hB.trans hB12)
            · have p2 : ¬ (j : Int) < (cl : Int) := by omega
              go_wp2
              go_roundw
              case rel =>
                refine ⟨b + 1, by omega, by go_num, ⟨fun c hc => ?_⟩, hB12⟩
                rcases Nat.lt_or_ge c b with h | h
                · exact hcd.out c h
                · obtain rfl : c = b := by omega
                  unfold CodeP
                  rw [hl'.out, hcl.out]
                  exact ⟨h11n, fun k hk => hlj.out k (by omega)⟩
              case measure => simp [intOf]; omega
        · have p1 : ¬ (b : Int) < (nc : Int) := by omega
          go_wp2
          go_ret
          refine ⟨true, rfl, fun _ => ?_, hB.trans hB1⟩
          have hcb : ∀ c < f.f4.length, CodeP f c := fun c hc => hcd.out c (by have := hnc.out; omega)
          have e0 := hnn.out
          have e1 := hnb.out
          have e2 := hnc.out
          have e3 := h3.out
          exact ⟨by omega, by omega, ⟨by omega, by omega, by omega⟩, h4.out, by omega, hall.out, fun c hc => (hcb c hc).1, fun c hc => (hcb c hc).2⟩
end Go.Proofs.Ytodjpbidjldblaa.H
