/- Texts joined. Conditions: each stands with its theorem. -/
import Derived.Test.YtodjpbidjldblaaX00
import Derived.Laws.EntriesVeiled
namespace Go.Proofs.Ytodjpbidjldblaa.H
open Go.RowKit Go.Proofs.YtodjpbidjldblaaW.PrintWords Go.Proofs.YtodjpbidjldblaaW.PrintLast
set_option linter.unusedVariables false
set_option linter.unusedSimpArgs false
set_option maxRecDepth 100000
theorem obj_at {W : World} {A : Option Addr} {l : List SObj} (h : Rd kObj W A l) (k : Nat) (hk : k < l.length) : ∃ ad A1 c1 A2 c2, A = some ad ∧ W.cell? (ad.add (k * 2)) = some (.slice A1 (l[k]).f0.length c1) ∧ W.cell? ⟨(ad.add (k * 2)).block, (ad.add (k * 2)).off + 1, none⟩ = some (.slice A2 (l[k]).f1.length c2) ∧ RdI W A1 (l[k]).f0 ∧ RdI W A2 (l[k]).f1 ∧ (l[k]).f0.length ≤ c1 ∧ (l[k]).f1.length ≤ c2 := by
 obtain ⟨ad, A1, c1, A2, c2, e, h1, h2, h3, h4, h5, h6⟩ := at_TObj h.out (k : Int) (by omega) (by omega)
 have e1 : rd_TObj l (k : Int) = l[k] := by simp [rd_TObj, List.getD_eq_getElem?_getD, List.getElem?_eq_getElem hk]
 rw [e1] at h1 h2 h3 h4 h5 h6
 simp only [Int.toNat_natCast] at h1 h2
 exact ⟨ad, A1, c1, A2, c2, e, h1, h2, ⟨h4⟩, ⟨h6⟩, h3, h5⟩
set_option maxHeartbeats 2000000 in
theorem bad_any (x : Int) (j : Nat) (HP : Option Addr) (hc n : Nat) (w : World) (hj : w.cell? ⟨j, 0, none⟩ = some (.slice HP n hc)) (hn : n ≤ 1000000000) (hx : 0 ≤ x ∧ x ≤ n) :
  Calls Try.prog 25 #[.int .i64 x, .pointer (some ⟨j, 0, none⟩)] w fun e w' => e = .returned (.bool false) ∧ Bel w w' := by
 have h1 : decide (x < 0) = false := by simp; omega
 have h2 : decide ((n : Int) < x) = false := by simp; omega
 go_enter Try.func25, Try.ntmps25
 go_wp2
 go_ret
 exact ⟨rfl, Bel.refl _⟩
set_option maxHeartbeats 2000000 in
theorem noRefs (A : Option Addr) (c : Nat) (l : List Int) (w : World) (j : Nat) (HP : Option Addr) (hc : Nat) (n : Nat) (hj : w.cell? ⟨j, 0, none⟩ = some (.slice HP n hc)) (hn : n ≤ 1000000000) (hok : ∀ x ∈ l, 0 ≤ x ∧ x ≤ n) (HA : Rd (Kd.int .i64) w A l) (hl : l.length ≤ 1000000000) :
  Calls Try.prog 44 #[.slice A l.length c, .func (.func 25) #[] #[.pointer (some ⟨j, 0, none⟩)]] w fun e w' => e = .returned (.int .i64 (-1)) ∧ Bel w w' := by
 go_enter Try.func44, Try.ntmps44
 go_wp2
 go_loopw [8] (fun i W => ∃ k : Nat, k ≤ l.length ∧ i = .int .i64 k ∧ Bel w W) (fun i _ => l.length - (intOf i).toNat)
 case atStart => exact ⟨0, by omega, rfl, Bel.refl _⟩
 case round =>
  obtain ⟨k, hk, rfl, hBr⟩ := hrel
  by_cases hlt : k < l.length
  ·obtain ⟨ad, rfl, c0⟩ := rd_atN (HA.step hBr) k hlt
   have hcall := Aside0.mk (fun (W : World) (q : Bel wr W) => bad_any l[k] j HP hc n W (Bel.cell (hBr.trans q) hj) hn (hok _ (List.getElem_mem hlt)))
   have hxe : rd l (k : Int) = l[k] := (by simp [rd, List.getD_eq_getElem?_getD, List.getElem?_eq_getElem hlt])
   rw [hxe] at c0
   clear hxe
   obtain ⟨x, hx⟩ : ∃ x, l[k]'hlt = x := ⟨_, rfl⟩
   rw [hx] at c0 hcall
   clear hx
   go_wp2_with (go_at_call 25; ((with_reducible refine (hcall.out _ (Bel.refl _)).mono ?_); rintro e w1 ⟨rfl, hB1⟩))
   go_roundw
   case rel => exact ⟨k + 1, by omega, by go_num, hBr.trans hB1⟩
   case measure => simp [intOf]; omega
  ·go_wp2
   go_ret
   exact ⟨rfl, hBr⟩
set_option maxHeartbeats 1000000 in
theorem noRefsC (A : Option Addr) (c : Nat) (l : List Int) (w : World) (j : Nat) (HP : Option Addr) (hc : Nat) (n : Nat) (hj : w.cell? ⟨j, 0, none⟩ = some (.slice HP n hc)) (hn : n ≤ 1000000000) (hok : ∀ x ∈ l, 0 ≤ x ∧ x ≤ n) (HA : Rd (Kd.int .i64) w A l) (hl : l.length ≤ 1000000000) :
  Calls Try.prog 28 #[.slice A l.length c, .func (.func 25) #[] #[.pointer (some ⟨j, 0, none⟩)]] w fun e w' => e = .returned (.bool false) ∧ Bel w w' := by
 have hcall := Aside0.mk (fun (W : World) (q : Bel w W) => noRefs A c l W j HP hc n (Bel.cell q hj) hn hok (HA.step q) hl)
 go_enter Try.func28, Try.ntmps28
 go_wp2_with (go_at_call 44; ((with_reducible refine (hcall.out _ (Bel.refl _)).mono ?_); rintro e w1 ⟨rfl, hB1⟩))
 go_ret
 exact ⟨rfl, hB1⟩
set_option maxHeartbeats 2000000 in
theorem objBad_any (A1 A2 : Option Addr) (c1 c2 : Nat) (o : SObj) (pf j : Nat) (HP : Option Addr) (hc n : Nat) (w : World) (hpf : w.cell? ⟨pf, 0, none⟩ = some (.func (.func 25) #[] #[.pointer (some ⟨j, 0, none⟩)])) (hj : w.cell? ⟨j, 0, none⟩ = some (.slice HP n hc)) (hn : n ≤ 1000000000)
  (H1 : RdI w A1 o.f0) (ho : o.f0.length ≤ 8 ∧ o.f1.length ≤ 8 ∧ ∀ r ∈ o.f0, 0 ≤ r ∧ r ≤ n) :
  Calls Try.prog 27 #[.agg #[.slice A1 o.f0.length c1, .slice A2 o.f1.length c2], .pointer (some ⟨pf, 0, none⟩)] w fun e w' => e = .returned (.bool false) ∧ Bel w w' := by
 have hB0 := (Bel.refl w).alloc (.cells #[.slice A1 o.f0.length c1, .slice A2 o.f1.length c2] 71)
 have hb0 := heap_alloc_new w (.cells #[.slice A1 o.f0.length c1, .slice A2 o.f1.length c2] 71)
 obtain ⟨h1, h2, h3⟩ := ho
 go_enter Try.func27, Try.ntmps27
 go_upto_region 1 with (fail)
 generalize w.alloc (.cells #[.slice A1 o.f0.length c1, .slice A2 o.f1.length c2] 71) = wa at hB0 hb0 ⊢
 obtain ⟨b, hb⟩ : ∃ b, w.heap.size = b := ⟨_, rfl⟩
 rw [hb] at hb0 ⊢
 have hcall := Aside0.mk (noRefsC A1 c1 o.f0 wa j HP hc n (Bel.cell hB0 hj) hn h3 (H1.step hB0) (by omega))
 have z0 : wa.cell? ⟨b, 0, none⟩ = some (.slice A1 o.f0.length c1) := blk_cell hb0 0
 have z1 : wa.cell? ⟨b, 1, none⟩ = some (.slice A2 o.f1.length c2) := blk_cell hb0 1
 have z2 := Bel.cell hB0 hpf
 have b1 : decide ((8 : Int) < (o.f0.length : Int)) = false := by simp; omega
 have b2 : decide ((8 : Int) < (o.f1.length : Int)) = false := by simp; omega
 have b3 : decide (8 < o.f0.length) = false := by simp; omega
 have b4 : decide (8 < o.f1.length) = false := by simp; omega
 replace hb := Aside0.mk hb
 replace hb0 := Aside0.mk hb0
 clear hpf hj
 go_wp2_with (go_at_call 28; ((with_reducible refine hcall.out.mono ?_); rintro e w1 ⟨rfl, hB1⟩))
 go_ret
 exact ⟨rfl, hB0.trans hB1⟩
set_option maxHeartbeats 2000000 in
theorem noObjs (A : Option Addr) (c : Nat) (l : List SObj) (w : World) (pf j : Nat) (HP : Option Addr) (hc n : Nat) (hpf : w.cell? ⟨pf, 0, none⟩ = some (.func (.func 25) #[] #[.pointer (some ⟨j, 0, none⟩)])) (hj : w.cell? ⟨j, 0, none⟩ = some (.slice HP n hc)) (hn : n ≤ 1000000000)
  (hok : Aside0 (∀ o ∈ l, o.f0.length ≤ 8 ∧ o.f1.length ≤ 8 ∧ ∀ r ∈ o.f0, 0 ≤ r ∧ r ≤ (n : Int))) (HA : Rd kObj w A l) (hl : l.length ≤ 1000000000) :
  Calls Try.prog 43 #[.slice A l.length c, .func (.func 27) #[] #[.pointer (some ⟨pf, 0, none⟩)]] w fun e w' => e = .returned (.int .i64 (-1)) ∧ Bel w w' := by
 have hz := Aside0.mk (fun (W : World) (q : Bel w W) => And.intro (Bel.cell q hpf) (Bel.cell q hj))
 clear hpf hj
 go_enter Try.func43, Try.ntmps43
 go_wp2
 go_loopw [8] (fun i W => ∃ k : Nat, k ≤ l.length ∧ i = .int .i64 k ∧ Bel w W) (fun i _ => l.length - (intOf i).toNat)
 case atStart => exact ⟨0, by omega, rfl, Bel.refl _⟩
 case round =>
  obtain ⟨k, hk, rfl, hBr⟩ := hrel
  by_cases hlt : k < l.length
  ·obtain ⟨ad, A1, c1, A2, c2, rfl, y0, y1, r0, r1, _, _⟩ := obj_at (HA.step hBr) k hlt
   have hcall := Aside0.mk (objBad_any A1 A2 c1 c2 l[k] pf j HP hc n wr (hz.out _ hBr).1 (hz.out _ hBr).2 hn r0 (hok.out _ (List.getElem_mem hlt)))
   obtain ⟨x, hx⟩ : ∃ x, l[k]'hlt = x := ⟨_, rfl⟩
   rw [hx] at y0 y1 hcall
   clear hx r0 r1
   go_wp2_with (go_at_call 27; ((with_reducible refine hcall.out.mono ?_); rintro e w1 ⟨rfl, hB1⟩))
   go_roundw
   case rel => exact ⟨k + 1, by omega, by go_num, hBr.trans hB1⟩
   case measure => simp [intOf]; omega
  ·go_wp2
   go_ret
   exact ⟨rfl, hBr⟩
set_option maxHeartbeats 2000000 in
theorem Right_true (A : Option Addr) (c : Nat) (l : List SObj) (w : World) (hok : Aside0 (HeapP l)) (HA : Rd kObj w A l) (hl : l.length ≤ 1000000000) :
  Calls Try.prog 17 #[.agg #[.slice A l.length c]] w fun e w' => e = .returned (.bool true) ∧ Bel w w' := by
 have hcc := Aside0.mk (fun (W : World) (pf j : Nat) (q : Bel w W) hpf hj => noObjs A c l W pf j A c l.length hpf hj hl ⟨hok.out⟩ (HA.step q) hl)
 have hct : Aside0 (∀ (W : World) (pf j : Nat) (q : Bel w W) (hpf : W.cell? ⟨pf, 0, none⟩ = some (.func (.func 25) #[] #[.pointer (some ⟨j, 0, none⟩)])) (hj : W.cell? ⟨j, 0, none⟩ = some (.slice A l.length c)), Calls Try.prog 26 #[.slice A l.length c, .func (.func 27) #[] #[.pointer (some ⟨pf, 0, none⟩)]] W fun e w' => e = .returned (.bool false) ∧ Bel W w') := ⟨by
  intro W pf j q hpf hj
  have h1 := Aside0.mk (hcc.out W pf j q hpf hj)
  clear hpf hj
  go_enter Try.func26, Try.ntmps26
  go_wp2_with (go_at_call 43; ((with_reducible refine h1.out.mono ?_); rintro e w1 ⟨rfl, hB1⟩))
  go_ret
  exact ⟨rfl, hB1⟩⟩
 clear hcc
 have hB0 := (Bel.refl w).alloc (.cells #[.slice A l.length c] 30)
 have hb0 := heap_alloc_new w (.cells #[.slice A l.length c] 30)
 go_enter Try.func17, Try.ntmps17
 go_upto_region 1 with (fail)
 generalize w.alloc (.cells #[.slice A l.length c] 30) = wa at hB0 hb0 ⊢
 obtain ⟨b, hb⟩ : ∃ b, w.heap.size = b := ⟨_, rfl⟩
 rw [hb] at hb0 ⊢
 have z0 : wa.cell? ⟨b, 0, none⟩ = some (.slice A l.length c) := blk_cell hb0 0
 replace hb := Aside0.mk hb
 go_upto_region 2 with (fail)
 have hB1 := (Bel.refl wa).alloc (.cells #[.func (.func 25) #[] #[.pointer (some ⟨b, 0, none⟩)]] 72)
 have hb1 := heap_alloc_new wa (.cells #[.func (.func 25) #[] #[.pointer (some ⟨b, 0, none⟩)]] 72)
 generalize wa.alloc (.cells #[.func (.func 25) #[] #[.pointer (some ⟨b, 0, none⟩)]] 72) = wb at hB1 hb1 ⊢
 obtain ⟨b2, hb2⟩ : ∃ b, wa.heap.size = b := ⟨_, rfl⟩
 rw [hb2] at hb1 ⊢
 have z1 := Bel.cell hB1 z0
 have hcall := Aside0.mk (hct.out wb b2 b (hB0.trans hB1) (blk_cell hb1 0) z1)
 replace hb1 := Aside0.mk hb1
 replace hb2 := Aside0.mk hb2
 clear hct z0
 go_wp2_with (go_at_call 26; ((with_reducible refine hcall.out.mono ?_); rintro e w1 ⟨rfl, hB2⟩))
 go_ret
 exact ⟨rfl, hB0.trans (hB1.trans hB2)⟩
theorem put2 {W : World} {b t : Nat} {c0 c1 : Value} (hb : W.heap[b]? = some (.cells #[c0, c1] t (0, 0))) (u0 u1 : Value) :
  ((W.setCell ⟨b, 0, none⟩ u0).setCell ⟨b, 1, none⟩ u1).heap[b]? = some (.cells #[u0, u1] t (0, 0)) ∧ ∀ w : World, Bel w W → w.heap.size ≤ b → Bel w ((W.setCell ⟨b, 0, none⟩ u0).setCell ⟨b, 1, none⟩ u1) :=
 ⟨(blk_set ((blk_set hb 0 u0).trans rfl) 1 u1).trans rfl, fun w h hw => ⟨(h.out.setCell (p := ⟨b, 0, none⟩) hw u0).setCell (p := ⟨b, 1, none⟩) hw u1⟩⟩
theorem N_of_reps {α : Type} {d : Kd α} {e base : Nat} {ok : Nat → Prop} {W : World} {v : Value} {xs : List α} {inner : List Value} (h0 : ∀ k, v.ownBlock = some k → ok k) (ho : W.ownsRow base e d.sz v xs.length inner)
  (hr : Reps (fun x c => Kd.FK d W (fun k => ok k ∧ some k ≠ v.ownBlock) x c) d.sz xs inner) : Kd.N d e W base ok v xs :=
 ⟨h0, Kd.chunks d.sz xs.length inner, Kd.chunks_length _ _ _, ⟨fun k hk => hk.symm, inner, by rw [Kd.chunks_length]; exact ho, Kd.reps_raw hr (fun x c hp => ⟨d.K_len (Kd.FK_now hp), d.K_one (Kd.FK_now hp)⟩)⟩, fun j x c hx hc => by
  rw [Kd.chunks_get hc]
  exact hr.2 j x hx⟩
theorem results_cell_row2 {P : Program} {fn : Func} {p u : Tmp} {ty : TypeId} (h : fn.results = #[.cell p ty, .tmp u]) (tmps : Array Value) (w : World) (g : Nat) (t : TypeId) (cs : Array Value) (fr : Nat × Nat) (d : TypeDesc)
  (hp : tmps.getD p undef = .pointer (some ⟨g, 0, none⟩)) (hg : w.heap[g]? = some (.cells cs t fr))
  (hu : P.underlying ty = some d) (hd : (match d with | .struct _ | .array _ _ => true | _ => false) = true) (hi : (P.info? ty).map (·.size) = some cs.size) :
  (results fn tmps).run P w = .ok (.tuple #[.agg cs, tmps.getD u undef]) w := by
 have hp' : tmps[p]?.getD undef = .pointer (some ⟨g, 0, none⟩) := by simpa using hp
 simp [results, h, hp', asAddr, run_loadVar_row w g t ty cs fr d hg hu hd hi, Sem.run_bind, Result.andThen]
theorem results_cell_row3 {P : Program} {fn : Func} {p u v : Tmp} {ty : TypeId} (h : fn.results = #[.cell p ty, .tmp u, .tmp v]) (tmps : Array Value) (w : World) (g : Nat) (t : TypeId) (cs : Array Value) (fr : Nat × Nat) (d : TypeDesc)
  (hp : tmps.getD p undef = .pointer (some ⟨g, 0, none⟩)) (hg : w.heap[g]? = some (.cells cs t fr))
  (hu : P.underlying ty = some d) (hd : (match d with | .struct _ | .array _ _ => true | _ => false) = true) (hi : (P.info? ty).map (·.size) = some cs.size) :
  (results fn tmps).run P w = .ok (.tuple #[.agg cs, tmps.getD u undef, tmps.getD v undef]) w := by
 have hp' : tmps[p]?.getD undef = .pointer (some ⟨g, 0, none⟩) := by simpa using hp
 simp [results, h, hp', asAddr, run_loadVar_row w g t ty cs fr d hg hu hd hi, Sem.run_bind, Result.andThen]
section
variable {ops : Array Oper} {rest : List Oper} {o : Oper} {a : Act} {Q : Exit → Act → World → Prop}
theorem grow_step {α : Type} (d : Kd α) {Kc : Act → World → Prop} {S : Nat → Prop} {W W1 : World} (t e : TypeId) (z : Value) (bytes : Nat) (ht : Try.prog.underlying t = some (.slice e)) (hinfo : (Try.prog.info? e).map (fun i => (i.zero, i.size, i.bytes)) = some (some z, d.sz, bytes)) (hz : z.cells.size = d.sz) (hs0 : 0 < d.sz) (hb0 : 0 < bytes)
  {A : Option Addr} {xs : List α} {p : α} {cs : List Value} (hS : ∀ k, S k → k < W.heap.size) (HF : Kd.F d W (fun k => ¬ S k) A xs.length xs) (hA : A = none → xs = []) (hp : Kd.FK d W (fun k => ¬ S k) p cs) (HB : Below W.heap.size W W1) (hn : ∃ g, g = W.heap.size ∧ W1.heap[g]? = some (.cells cs.toArray e (0, 0))) (hgd : o.guard = none) (s x : Operand)
  (ho : o.op = .call { callee := .builtin .append, args := #[s, x], argTypes := #[t, t] }) (hm : xs.length + 1 ≤ maxLen) (hl : (xs.length + 1) * bytes ≤ 140737488355328) (hs : a.eval s = .slice A xs.length xs.length) (g : Nat) (hx : a.eval x = .slice (some ⟨g, 0, none⟩) 1 1) (hg : g = W.heap.size)
  (h : ∀ v1 w1, Kd.V d e w1 0 (fun k => ¬ S k) v1 (xs ++ [p]) → Bel W w1 → Kc (a.put o.dst v1) w1) :
  if Region.wanted o (yielded ops a.tmps) = true then Oper.wp Try.prog o a W1 Kc Q else Kc (a.put o.dst undef) W1 := by
 obtain ⟨g1, rfl, hn⟩ := hn
 subst hg
 have hfresh : ∀ k, W.heap.size ≤ k → ¬ S k := fun k hk q => by have := hS k q; omega
 have hsz : cs.length = d.sz := d.K_len (Kd.FK_now hp)
 have h1c := d.K_one (Kd.FK_now hp)
 obtain ⟨i0, hi, hz0, hz1, hz2⟩ := info_parts hinfo
 have HF1 := Kd.F_bound HF
 have hp1 := Kd.FK_bound hp
 have key : ∃ (inner : List Value) (v1 : Value) (w1 : World), Reps (fun x c => Kd.FK d W (fun k => ¬ S k ∧ k < W.heap.size) x c) d.sz xs inner ∧ (Builtin.append_ #[t, t] o.type #[.slice A xs.length xs.length, .slice (some ⟨W.heap.size, 0, none⟩) 1 1]).run Try.prog W1 = .ok v1 w1 ∧ w1.ownsRow W1.heap.size e d.sz v1 (xs.length + 1) (inner ++ cs) ∧ W1.grownBy w1 none := by
  cases A with
  | none =>
   obtain rfl := hA rfl
   obtain ⟨v1, w1, hrun, r1, r2, _⟩ := run_append_own (P := Try.prog) W1 W1.heap.size t o.type e i0 z d.sz bytes ht hi hz0 hz1 hz2 hz hs0 (.slice none 0 0) 0 [] (World.ownsRow_nil W1 _ e d.sz) ⟨W.heap.size, 0, none⟩ 1 1 cs (by rw [hsz, Nat.one_mul]) (World.news_of_block hn) h1c hm hl (Nat.le_refl _)
   exact ⟨[], v1, w1, Reps.none _ _, hrun, r1, r2⟩
  | some b =>
   obtain ⟨inner, hr, hcell⟩ := ReadsRow.inner_ (Kd.F_rows HF1)
   obtain ⟨v1, w1, hrun, r1, r2⟩ := run_append_arg_grows (P := Try.prog) (w := W1) t o.type e i0 z d.sz bytes ht hi hz0 hz1 hz2 hz hs0 b xs.length xs.length inner hr.1 (fun j u hu => pw_cell_below HB (hcell j u hu)) ⟨W.heap.size, 0, none⟩ 1 1 cs (by rw [hsz, Nat.one_mul]) (World.news_of_block hn) (by omega) hm hl
   exact ⟨inner, v1, w1, hr, hrun, r1, r2⟩
 obtain ⟨inner, v1, w1, hr, hrun, r1, r2⟩ := key
 have hB1 : Below W.heap.size W w1 := pw_below_grown HB none HB.size r2 (by simp)
 have hbk : ∀ k, v1.ownBlock = some k → W.heap.size ≤ k := fun k hk => by
  have := own_base r1 k hk
  have := HB.size
  omega
 have hfk : ∀ {q : α} {c : List Value}, Kd.FK d W (fun k => ¬ S k ∧ k < W.heap.size) q c → Kd.FK d w1 (fun k => ¬ S k ∧ some k ≠ v1.ownBlock) q c := fun hq => Kd.FK_mono (Kd.FK_below hq hB1) (fun k hk => ⟨hk.1, fun he => by have := hbk k he.symm; have := hk.2; omega⟩)
 have hN : Kd.N d e w1 W.heap.size (fun k => ¬ S k) v1 (xs ++ [p]) := N_of_reps (inner := inner ++ cs) (fun k hk => hfresh k (hbk k hk)) (by rw [List.length_append, List.length_singleton]; exact own_weaken r1 HB.size) ((hr.imp_ (fun _ _ hq => hfk hq)).snoc (hfk hp1) hsz)
 rw [if_pos (by simp [Region.wanted, hgd])]
 unfold Oper.wp
 simp [execOp, ho, resolve, invoke, builtin, hs, hx, hrun, Result.andThen]
 exact h v1 w1 (Kd.N_V hN) ⟨hB1⟩
end
theorem info_Obj : (Try.prog.info? 71).map (fun i => (i.zero, i.size, i.bytes)) = some (some (.agg #[.slice none 0 0, .slice none 0 0]), 2, 48) := by kernel_rfl
abbrev RdF (S : Nat → Prop) (W : World) (A : Option Addr) (l : List SObj) : Prop := Aside0 (Kd.F kObj W (fun k => ¬ S k) A l.length l)
abbrev HV (S : Nat → Prop) (W : World) (v : Value) (l : List SObj) : Prop := Aside0 (Kd.V kObj 71 W 0 (fun k => ¬ S k) v l)
theorem RdF.rd {S : Nat → Prop} {W : World} {A : Option Addr} {l : List SObj} (h : RdF S W A l) : Rd kObj W A l := ⟨Kd.F_now h.out⟩
theorem RdF.step {S : Nat → Prop} {W W1 : World} {A : Option Addr} {l : List SObj} (h : RdF S W A l) (k : Bel W W1) : RdF S W1 A l := ⟨Kd.F_below h.out k.out⟩
theorem HV.step {S : Nat → Prop} {W W1 : World} {v : Value} {l : List SObj} (h : HV S W v l) (k : Bel W W1) : HV S W1 v l := ⟨Kd.V_below h.out k.out⟩
theorem HV.reads {S : Nat → Prop} {W : World} {v : Value} {l : List SObj} (h : HV S W v l) : ∃ A c, v = .slice A l.length c ∧ l.length ≤ c ∧ RdF S W A l := by
 obtain ⟨A, c, h1, h2, h3⟩ := h.out
 exact ⟨A, c, h1, h2, ⟨h3⟩⟩
theorem HV.mk {S : Nat → Prop} {W : World} {A : Option Addr} {c : Nat} {l : List SObj} (h : RdF S W A l) (hc : l.length ≤ c) : HV S W (.slice A l.length c) l := ⟨A, c, rfl, hc, h.out⟩
theorem make_ints (n : Nat) (hn : n ≤ 1000000) (W : World) : (Instr.makeSlice 31 (.int .i64 (n : Int)) (.int .i64 (n : Int))).run Try.prog W = .ok (.slice (some ⟨W.heap.size, 0, none⟩) n n) (W.alloc (.cells (nums .i64 (List.replicate n 0)).toArray 3)) := by
 obtain ⟨i0, hi, hz0, hz1, hz2⟩ := info_parts info_int
 have h := run_make (P := Try.prog) W 31 3 i0 (.int .i64 0) Try.underlying31 hi hz0 .i64 .i64 (n : Int) (n : Int) (by omega) (by omega) (by rw [hz2]; omega) (by omega)
 rw [h, hz1]
 have e : madeCells (Value.int .i64 0).cells ((n : Int).toNat * 1) = (nums .i64 (List.replicate n 0)).toArray := by
  refine Array.ext (by simp [madeCells, nums]) fun j h1 h2 => ?_
  simp [madeCells, nums, Value.cells, Nat.mod_one]
 rw [e]
 rfl
theorem zerosF {S : Nat → Prop} (W : World) (hS : ∀ k, S k → k < W.heap.size) (n : Nat) (hn : n ≤ 1000000) : Kd.F (Kd.int .i64) (W.alloc (.cells (nums .i64 (List.replicate n 0)).toArray 3)) (fun k => ¬ S k) (some ⟨W.heap.size, 0, none⟩) (List.replicate n (0 : Int)).length (List.replicate n 0) :=
 Kd.F_mono (Kd.R_F (Kd.R_bound (Own.lit .i64 3 (Bel.refl W) (List.replicate n 0) (by simp; omega)).out)) (fun k hk q => by have := hS k q; have := hk.2.1; omega)
theorem two_zeros {S : Nat → Prop} (W : World) (hS : ∀ k, S k → k < W.heap.size) (n m : Nat) (hn : n ≤ 8) (hm : m ≤ 8) :
  Kd.FK kObj ((W.alloc (.cells (nums .i64 (List.replicate n 0)).toArray 3)).alloc (.cells (nums .i64 (List.replicate m 0)).toArray 3)) (fun k => ¬ S k) ⟨List.replicate n 0, List.replicate m 0⟩ [.slice (some ⟨W.heap.size, 0, none⟩) n n, .slice (some ⟨W.heap.size + 1, 0, none⟩) m m] ∧
  Kd.FK kObj ((W.alloc (.cells (nums .i64 (List.replicate m 0)).toArray 3)).alloc (.cells (nums .i64 (List.replicate n 0)).toArray 3)) (fun k => ¬ S k) ⟨List.replicate n 0, List.replicate m 0⟩ [.slice (some ⟨W.heap.size + 1, 0, none⟩) n n, .slice (some ⟨W.heap.size, 0, none⟩) m m] := by
 have hs : ∀ j : Nat, ∀ k, S k → k < (W.alloc (.cells (nums .i64 (List.replicate j 0)).toArray 3)).heap.size := fun j k hk => by
  have := hS k hk
  simp
  omega
 constructor
 ·have h0 := Kd.F_alloc (zerosF W hS n (by omega)) (.cells (nums .i64 (List.replicate m 0)).toArray 3)
  have h1 := zerosF _ (hs n) m (by omega)
  have e : (W.alloc (.cells (nums .i64 (List.replicate n 0)).toArray 3)).heap.size = W.heap.size + 1 := by simp
  rw [e] at h1
  have := kObj_mkF _ _ (⟨List.replicate n 0, List.replicate m 0⟩ : SObj) (c0 := n) (by simp) h0 (c1 := m) (by simp) h1
  simpa only [List.length_replicate] using this
 ·have h0 := Kd.F_alloc (zerosF W hS m (by omega)) (.cells (nums .i64 (List.replicate n 0)).toArray 3)
  have h1 := zerosF _ (hs m) n (by omega)
  have e : (W.alloc (.cells (nums .i64 (List.replicate m 0)).toArray 3)).heap.size = W.heap.size + 1 := by simp
  rw [e] at h1
  have := kObj_mkF _ _ (⟨List.replicate n 0, List.replicate m 0⟩ : SObj) (c0 := n) (by simp) h1 (c1 := m) (by simp) h0
  simpa only [List.length_replicate] using this
theorem counted_any (n : Int) (w : World) : Calls Try.prog 81 #[.int .i64 n] w fun e w' => e = .returned (.bool (decide (0 ≤ n) && decide (n ≤ 8))) ∧ w = w' := by
 by_cases h : 0 ≤ n
 ·go_enter Try.func81, Try.ntmps81
  go_wp2
  go_ret
  exact ⟨by simp [h], rfl⟩
 ·have h1 : decide (0 ≤ n) = false := decide_eq_false h
  go_enter Try.func81, Try.ntmps81
  go_wp2
  go_ret
  exact ⟨by simp [h1], rfl⟩
theorem clipObj_any (A : Option Addr) (n c : Nat) (w : World) (h : n ≤ c) (hm : n ≤ 9223372036854775807) :
  Calls Try.prog 82 #[.slice A n c] w fun e w' => e = .returned (.slice A n n) ∧ w = w' := by
 go_enter Try.func82, Try.ntmps82
 go_wp2
 go_ret
 exact ⟨rfl, rfl⟩
set_option maxHeartbeats 4000000 in
theorem Alloc_ok (S : Nat → Prop) (A : Option Addr) (c : Nat) (l : List SObj) (n m : Nat) (w : World) (hS : Aside0 (∀ k, S k → k < w.heap.size)) (H : RdF S w A l) (hc : l.length ≤ c) (hp : Aside0 (HeapP l)) (hl : l.length ≤ 1000000) (hn : n ≤ 8) (hm : m ≤ 8) :
  Calls Try.prog 74 #[.agg #[.slice A l.length c], .int .i64 n, .int .i64 m] w fun e w' => ∃ v, e = .returned (.tuple #[.agg #[v], .int .i64 ((l.length + 1 : Nat) : Int), .int .i64 0]) ∧ HV S w' v (l ++ [⟨List.replicate n 0, List.replicate m 0⟩]) ∧ Bel w w' := by
 have hB0 := (Bel.refl w).alloc (.cells #[.slice A l.length c] 30)
 have hb0 := heap_alloc_new w (.cells #[.slice A l.length c] 30)
 have e1 : decide ((0 : Int) ≤ (n : Int)) = true := by simp
 have e2 : decide ((n : Int) ≤ 8) = true := by simp; omega
 have e3 : decide ((0 : Int) ≤ (m : Int)) = true := by simp
 have e4 : decide ((m : Int) ≤ 8) = true := by simp; omega
 have hcn := Aside0.mk (fun W => counted_any n W)
 have hcm := Aside0.mk (fun W => counted_any m W)
 rw [e1, e2] at hcn
 rw [e3, e4] at hcm
 simp only [Bool.and_self] at hcn hcm
 have hB1 := hB0.alloc (.cells #[.slice none 0 0] 30)
 have hb1 := heap_alloc_new (w.alloc (.cells #[.slice A l.length c] 30)) (.cells #[.slice none 0 0] 30)
 have hb01 : ((w.alloc (.cells #[.slice A l.length c] 30)).alloc (.cells #[.slice none 0 0] 30)).heap[w.heap.size]? = _ := heap_old hb0
 go_enter Try.func74, Try.ntmps74
 go_upto_region 1 with (fail)
 clear hb0 hB0
 generalize (w.alloc (.cells #[.slice A l.length c] 30)).alloc (.cells #[.slice none 0 0] 30) = wa at hB1 hb1 hb01 ⊢
 obtain ⟨b, hb⟩ : ∃ b, w.heap.size = b := ⟨_, rfl⟩
 rw [show (w.alloc (.cells #[.slice A l.length c] 30)).heap.size = b + 1 by simp [hb]] at hb1
 rw [hb] at hb01 ⊢
 have z0 : wa.cell? ⟨b, 0, none⟩ = some (.slice A l.length c) := blk_cell hb01 0
 have hri := Aside0.mk (Right_true A c l wa hp (H.rd.step hB1) (by omega))
 replace hb := Aside0.mk hb
 go_upto_region 3 with (first | (go_at_call 81; first | ((with_reducible refine (hcn.out _).mono ?_); rintro e w' ⟨rfl, rfl⟩) | ((with_reducible refine (hcm.out _).mono ?_); rintro e w' ⟨rfl, rfl⟩)) | (go_at_call 17; ((with_reducible refine hri.out.mono ?_); rintro e w2 ⟨rfl, hB2⟩)))
 have hb2 := hB2.blk hb01
 have hb3 := hB2.blk hb1
 have hB3 := hB1.trans hB2
 have hbs : w.heap.size = b := hb.out
 obtain ⟨S1, hS1⟩ : ∃ S1 : Nat → Prop, ∀ k, S1 k ↔ S k ∨ k = b ∨ k = b + 1 := ⟨fun k => S k ∨ k = b ∨ k = b + 1, fun k => Iff.rfl⟩
 have HA : RdF S1 w2 A l := ⟨Kd.F_below (Kd.F_mono (Kd.F_bound H.out) (fun k hk q => by rcases (hS1 k).1 q with q | q | q; exact hk.1 q; all_goals (have := hk.2; omega))) hB3.out⟩
 have hS2 : Aside0 (∀ k, S1 k → k < w2.heap.size) := ⟨fun k hk => by
  have h3 := blk_lt hb3
  rcases (hS1 k).1 hk with q | q | q
  ·have := hS.out k q
   have := hB3.size
   omega
  ·omega
  ·omega⟩
 replace hS1 := Aside0.mk hS1
 clear hbs
 have z1 : w2.cell? ⟨b, 0, none⟩ = some (.slice A l.length c) := blk_cell hb2 0
 clear hcn hcm hri z0 hb01 hb1 H e1 e2 e3 e4
 have hcl := Aside0.mk (fun W => clipObj_any A l.length c W hc (by omega))
 have z2 : ∀ o, (w2.alloc o).cell? ⟨b, 0, none⟩ = some (.slice A l.length c) := fun o => Bel.cell ((Bel.refl w2).alloc o) z1
 have z3 : ∀ o o', ((w2.alloc o).alloc o').cell? ⟨b, 0, none⟩ = some (.slice A l.length c) := fun o o' => Bel.cell (((Bel.refl w2).alloc o).alloc o') z1
 have hmn := make_ints n (by omega)
 have hmm := make_ints m (by omega)
 have z4 : ∀ o o' o2, (((w2.alloc o).alloc o').alloc o2).cell? ⟨b, 0, none⟩ = some (.slice A l.length c) := fun o o' o2 => Bel.cell ((((Bel.refl w2).alloc o).alloc o').alloc o2) z1
 have hnil := HA.rd.nil_of
 have htz := Aside0.mk (two_zeros w2 hS2.out n m hn hm)
 have hB4 := Aside0.mk (fun i j => ((Bel.refl w2).alloc (.cells (nums .i64 (List.replicate i 0)).toArray 3)).alloc (.cells (nums .i64 (List.replicate j 0)).toArray 3))
 go_cut [23, 24, 25, 26, 27, 28, 29, 30, 31, 32, 33] (fun _ _ _ _ _ _ _ _ _ _ _ W => ∃ A1 c1, l.length + 1 ≤ c1 ∧ W.heap[b]? = some (.cells #[.slice A1 (l.length + 1) c1] 30 (0, 0)) ∧ W.heap[b + 1]? = some (.cells #[.slice none 0 0] 30 (0, 0)) ∧ Aside0 (Kd.F kObj W (fun k => ¬ S1 k) A1 (l ++ [⟨List.replicate n 0, List.replicate m 0⟩] : List SObj).length (l ++ [⟨List.replicate n 0, List.replicate m 0⟩])) ∧ Bel w W)
 case first =>
  go_region_law (first | (refine goes_ (f := 82) Try.func82 (by kernel_rfl) rfl #[.slice A l.length c] rfl rfl rfl (by simp only [List.map_toArray, List.map_cons, List.map_nil]; rfl) ?_; refine (hcl.out _).mono ?_; rintro e w' ⟨rfl, rfl⟩; refine ⟨_, rfl, ?_⟩) | (refine grow_step kObj (S := S1) (W := (w2.alloc (.cells (nums .i64 (List.replicate n 0)).toArray 3)).alloc (.cells (nums .i64 (List.replicate m 0)).toArray 3)) 28 71 (.agg #[.slice none 0 0, .slice none 0 0]) 48 Try.underlying28 info_Obj rfl (by decide) (by decide) (A := A) (xs := l) (p := ⟨List.replicate n 0, List.replicate m 0⟩) ?hS (HA.step (hB4.out n m)).out hnil htz.out.1 (((Bel.refl _).alloc _).drewN 1).out ⟨_, rfl, heap_alloc_new _ _⟩ rfl _ _ rfl ?hm ?hl rfl _ rfl ?hx ?_; (case hS => intro k hk; have := hS2.out k hk; simp; omega); (case hm => simp only [maxLen]; omega); (case hl => omega); (case hx => simp); intro v1 w1 hV hBv; obtain ⟨A1, c1, rfl, hc1, hF1⟩ := hV; have hB5 := (hB4.out n m).trans hBv; clear hBv; have hb5 := hB5.blk hb2; have hb6 := hB5.blk hb3; have q0 : w1.cell? ⟨b, 0, none⟩ = some (.slice A l.length c) := blk_cell hb5 0; have q1 := blk_frozen hb5 0) | (refine grow_step kObj (S := S1) (W := (w2.alloc (.cells (nums .i64 (List.replicate m 0)).toArray 3)).alloc (.cells (nums .i64 (List.replicate n 0)).toArray 3)) 28 71 (.agg #[.slice none 0 0, .slice none 0 0]) 48 Try.underlying28 info_Obj rfl (by decide) (by decide) (A := A) (xs := l) (p := ⟨List.replicate n 0, List.replicate m 0⟩) ?hS (HA.step (hB4.out m n)).out hnil htz.out.2 (((Bel.refl _).alloc _).drewN 1).out ⟨_, rfl, heap_alloc_new _ _⟩ rfl _ _ rfl ?hm ?hl rfl _ rfl ?hx ?_; (case hS => intro k hk; have := hS2.out k hk; simp; omega); (case hm => simp only [maxLen]; omega); (case hl => omega); (case hx => simp); intro v1 w1 hV hBv; obtain ⟨A1, c1, rfl, hc1, hF1⟩ := hV; have hB5 := (hB4.out m n).trans hBv; clear hBv; have hb5 := hB5.blk hb2; have hb6 := hB5.blk hb3; have q0 : w1.cell? ⟨b, 0, none⟩ = some (.slice A l.length c) := blk_cell hb5 0; have q1 := blk_frozen hb5 0))
  all_goals
   have hll : (l ++ [⟨List.replicate n 0, List.replicate m 0⟩] : List SObj).length = l.length + 1 := by simp
   have hb7 := blk_set hb5 0 (.slice A1 (l.length + 1) c1)
   have hb8 := blk_far hb6 (p := ⟨b, 0, none⟩) (by simp) (.slice A1 (l.length + 1) c1)
   have hF2 := Kd.F_far hF1 (p := ⟨b, 0, none⟩) (fun k hk q => hk ((hS1.out k).2 (.inr (.inl q)))) (.slice A1 (l.length + 1) c1)
   have hB9 : Bel w (w1.setCell ⟨b, 0, none⟩ (.slice A1 (l.length + 1) c1)) := ⟨(hB3.trans hB5).out.setCell (p := ⟨b, 0, none⟩) (Nat.le_of_eq hb.out) _⟩
   go_wp2
   go_meet
   case rel => exact ⟨A1, c1, by rw [hll] at hc1; exact hc1, hb7, hb8, ⟨hF2⟩, hB9⟩
 case rest =>
  obtain ⟨A1, c1, hc1, hb7, hb8, hF2, hB9⟩ := hcut
  clear hmn hmm z2 z3 z4 hcl htz hB4 hb2 hb3 hS2 HA
  have y0 : wc.cell? ⟨b, 0, none⟩ = some (.slice A1 (l.length + 1) c1) := blk_cell hb7 0
  have y1 : wc.cell? ⟨b + 1, 0, none⟩ = some (.slice none 0 0) := blk_cell hb8 0
  have y2 := blk_frozen hb8 0
  have hb9 := blk_set hb8 0 (.slice A1 (l.length + 1) c1)
  have hBz : Bel w (wc.setCell ⟨b + 1, 0, none⟩ (.slice A1 (l.length + 1) c1)) := ⟨hB9.out.setCell (p := ⟨b + 1, 0, none⟩) (by have := hb.out; show w.heap.size ≤ b + 1; omega) _⟩
  have hF3 := Kd.F_far hF2.out (p := ⟨b + 1, 0, none⟩) (fun k hk q => hk ((hS1.out k).2 (.inr (.inr q)))) (.slice A1 (l.length + 1) c1)
  have hF4 : RdF S (wc.setCell ⟨b + 1, 0, none⟩ (.slice A1 (l.length + 1) c1)) A1 (l ++ [⟨List.replicate n 0, List.replicate m 0⟩]) := ⟨Kd.F_mono hF3 (fun k hk (q : S k) => hk ((hS1.out k).2 (.inl q)))⟩
  replace hb9 := Aside0.mk hb9
  replace hBz := Aside0.mk hBz
  have hll : (l ++ [⟨List.replicate n 0, List.replicate m 0⟩] : List SObj).length = l.length + 1 := by simp
  have hV := HV.mk hF4 (by rw [hll]; exact hc1)
  rw [hll] at hV
  replace hV := Aside0.mk hV
  clear hF2 hF3 hF4 hb7 hb8 hB9 hS1 hll
  go_upto_region 4 with (fail)
  go_region_law (fail)
  all_goals
   go_wp2
   refine bodyPost_ret (results_cell_row3 rfl _ _ (b + 1) 30 #[.slice A1 (l.length + 1) c1] (0, 0) _ rfl (by first | exact hb9.out | (show (wc.setCell ⟨b + 1, 0, none⟩ (.slice A1 (l.length + 1) c1)).heap[b + 1]? = _; exact hb9.out)) Try.underlying30 rfl (by kernel_rfl)) rfl ?_
   exact ⟨_, rfl, hV.out.step (Bel.drewN (Bel.refl _) 1), hBz.out.drewN 1⟩
abbrev RdIF (S : Nat → Prop) (W : World) (A : Option Addr) (l : List Int) : Prop := Aside0 (Kd.F (Kd.int .i64) W (fun k => ¬ S k) A l.length l)
theorem RdIF.rd {S : Nat → Prop} {W : World} {A : Option Addr} {l : List Int} (h : RdIF S W A l) : RdI W A l := ⟨Kd.F_now h.out⟩
theorem RdIF.step {S : Nat → Prop} {W W1 : World} {A : Option Addr} {l : List Int} (h : RdIF S W A l) (k : Bel W W1) : RdIF S W1 A l := ⟨Kd.F_below h.out k.out⟩
theorem objF_at {S : Nat → Prop} {W : World} {A : Option Addr} {l : List SObj} (h : RdF S W A l) (k : Nat) (hk : k < l.length) : ∃ ad A1 c1 A2 c2, A = some ad ∧ W.cell? (ad.add (k * 2)) = some (.slice A1 (l[k]).f0.length c1) ∧ W.cell? ⟨(ad.add (k * 2)).block, (ad.add (k * 2)).off + 1, none⟩ = some (.slice A2 (l[k]).f1.length c2) ∧ RdIF S W A1 (l[k]).f0 ∧ RdIF S W A2 (l[k]).f1 ∧ (l[k]).f0.length ≤ c1 ∧ (l[k]).f1.length ≤ c2 := by
 obtain ⟨ad, c, e, hcl, hFK, hcc, _⟩ := Kd.F_get h.out zObj (k : Int) (by omega) (by omega)
 have e1 : l.getD (k : Int).toNat zObj = l[k] := by simp [List.getD_eq_getElem?_getD, List.getElem?_eq_getElem hk]
 rw [e1] at hFK
 simp only [Int.toNat_natCast] at hcc
 obtain ⟨A1, c1, A2, c2, rfl, h1, h2, h3, h4⟩ := kObj_openF hFK
 have q0 := hcc 0 _ rfl
 have q1 := hcc 1 _ rfl
 rw [show kObj.sz = 2 from rfl] at q0 q1
 refine ⟨ad, A1, c1, A2, c2, e, q0, ?_, ⟨h2⟩, ⟨h4⟩, h1, h3⟩
 rw [← add_field _ _ 1 (by omega)]
 exact q1
theorem fld_at (l : List Int) (n : Int) (h0 : 0 ≤ n) (h1 : n < l.length) : rd l n = l.getD n.toNat 0 := rfl
set_option maxHeartbeats 1000000 in
theorem field_any (A : Option Addr) (c : Nat) (l : List Int) (n : Int) (w : World) (HA : RdI w A l) :
  Calls Try.prog 84 #[.slice A l.length c, .int .i64 n] w fun e w' => e = .returned (.tuple #[.int .i64 (if fldE l n ≠ 0 then 0 else l.getD n.toNat 0), .int .i64 (fldE l n)]) ∧ w' = w := by
 by_cases h0 : 0 ≤ n
 ·have b0 : decide (n < 0) = false := by simp; omega
  by_cases h1 : n < l.length
  ·obtain ⟨ad, rfl, hc⟩ := rd_at HA n h0 h1
   have b1 : decide ((l.length : Int) ≤ n) = false := by simp; omega
   have e : fldE l n = 0 := by unfold fldE; rw [if_pos ⟨h0, h1⟩]
   rw [e, if_neg (by simp)]
   rw [fld_at l n h0 h1] at hc
   obtain ⟨x, hx⟩ : ∃ x, l.getD n.toNat 0 = x := ⟨_, rfl⟩
   rw [hx] at hc ⊢
   clear hx
   go_enter Try.func84, Try.ntmps84
   go_wp2
   go_ret2
   exact ⟨rfl, rfl⟩
  ·have b1 : decide ((l.length : Int) ≤ n) = true := by simp; omega
   have e : fldE l n = 15 := by unfold fldE; rw [if_neg (fun q => h1 q.2)]
   rw [e, if_pos (by decide)]
   go_enter Try.func84, Try.ntmps84
   go_wp2
   go_ret2
   exact ⟨rfl, rfl⟩
 ·have b0 : decide (n < 0) = true := by simp; omega
  have e : fldE l n = 15 := by unfold fldE; rw [if_neg (fun q => h0 q.1)]
  rw [e, if_pos (by decide)]
  go_enter Try.func84, Try.ntmps84
  go_wp2
  go_ret2
  exact ⟨rfl, rfl⟩
set_option maxHeartbeats 2000000 in
theorem object_nil (A : Option Addr) (c : Nat) (l : List SObj) (w : World) (HA : Rd kObj w A l) (hp : Aside0 (HeapP l)) (hl : l.length ≤ 1000000) :
  Calls Try.prog 83 #[.agg #[.slice A l.length c], .int .i64 0] w fun e w' => e = .returned (.tuple #[.agg #[.slice none 0 0, .slice none 0 0], .int .i64 14]) ∧ Bel w w' := by
 have hB1 := ((Bel.refl w).alloc (.cells #[.slice A l.length c] 30)).alloc (.cells #[.slice none 0 0, .slice none 0 0] 71)
 have hb0 := heap_alloc_new w (.cells #[.slice A l.length c] 30)
 have hb1 := heap_alloc_new (w.alloc (.cells #[.slice A l.length c] 30)) (.cells #[.slice none 0 0, .slice none 0 0] 71)
 have hb01 : ((w.alloc (.cells #[.slice A l.length c] 30)).alloc (.cells #[.slice none 0 0, .slice none 0 0] 71)).heap[w.heap.size]? = _ := heap_old hb0
 go_enter Try.func83, Try.ntmps83
 go_upto_region 1 with (fail)
 clear hb0
 generalize (w.alloc (.cells #[.slice A l.length c] 30)).alloc (.cells #[.slice none 0 0, .slice none 0 0] 71) = wa at hB1 hb1 hb01 ⊢
 obtain ⟨b, hb⟩ : ∃ b, w.heap.size = b := ⟨_, rfl⟩
 rw [show (w.alloc (.cells #[.slice A l.length c] 30)).heap.size = b + 1 by simp [hb]] at hb1
 rw [hb] at hb01 ⊢
 have z0 : wa.cell? ⟨b, 0, none⟩ = some (.slice A l.length c) := blk_cell hb01 0
 have hri := Aside0.mk (Right_true A c l wa hp (HA.step hB1) (by omega))
 go_wp2_with (go_at_call 17; ((with_reducible refine hri.out.mono ?_); rintro e w2 ⟨rfl, hB2⟩; have hb2 := hB2.blk hb1; have q0 := blk_frozen hb2 0; have q1 := blk_frozen hb2 1; have q2 : w2.cell? ⟨b + 1, 0, none⟩ = some (.slice none 0 0) := blk_cell hb2 0; have q3 : w2.cell? ⟨b + 1, 1, none⟩ = some (.slice none 0 0) := blk_cell hb2 1))
 have hp := put2 hb2 (.slice none 0 0) (.slice none 0 0)
 refine bodyPost_ret (results_cell_row2 rfl _ _ (b + 1) 71 #[.slice none 0 0, .slice none 0 0] (0, 0) _ rfl hp.1 Try.underlying71 rfl (by kernel_rfl)) rfl ?_
 exact ⟨rfl, hp.2 _ (hB1.trans hB2) (by omega)⟩
set_option maxHeartbeats 2000000 in
theorem object_at (S : Nat → Prop) (A : Option Addr) (c : Nat) (l : List SObj) (k : Nat) (o : Int) (w : World) (H : RdF S w A l) (hp : Aside0 (HeapP l)) (hl : l.length ≤ 1000000) (hk : k < l.length) (ho : o = (k : Int) + 1) :
  Calls Try.prog 83 #[.agg #[.slice A l.length c], .int .i64 o] w fun e w' => ∃ A1 c1 A2 c2, e = .returned (.tuple #[.agg #[.slice A1 (l[k]).f0.length c1, .slice A2 (l[k]).f1.length c2], .int .i64 0]) ∧ (RdIF S w' A1 (l[k]).f0 ∧ (l[k]).f0.length ≤ c1) ∧ (RdIF S w' A2 (l[k]).f1 ∧ (l[k]).f1.length ≤ c2) ∧ Bel w w' := by
 have HA := H.rd
 have hob := Aside0.mk (fun W (q : Bel w W) => objF_at (H.step q) k hk)
 obtain ⟨x, hx⟩ : ∃ x, l[k] = x := ⟨_, rfl⟩
 rw [hx] at hob ⊢
 clear hx H
 have e0 : (o == 0) = false := by simp; omega
 have e1 : decide (o < 0) = false := by simp; omega
 have e2 : decide ((l.length : Int) < o) = false := by simp; omega
 have e3 : IntKind.i64.wrap (o - 1) = (k : Int) := by rw [IntKind.wrap_i64]; omega
 have e4 : (k : Int) < (l.length : Int) := by omega
 replace ho := Aside0.mk ho
 have hB1 := ((Bel.refl w).alloc (.cells #[.slice A l.length c] 30)).alloc (.cells #[.slice none 0 0, .slice none 0 0] 71)
 have hb0 := heap_alloc_new w (.cells #[.slice A l.length c] 30)
 have hb1 := heap_alloc_new (w.alloc (.cells #[.slice A l.length c] 30)) (.cells #[.slice none 0 0, .slice none 0 0] 71)
 have hb01 : ((w.alloc (.cells #[.slice A l.length c] 30)).alloc (.cells #[.slice none 0 0, .slice none 0 0] 71)).heap[w.heap.size]? = _ := heap_old hb0
 go_enter Try.func83, Try.ntmps83
 go_upto_region 1 with (fail)
 clear hb0
 generalize (w.alloc (.cells #[.slice A l.length c] 30)).alloc (.cells #[.slice none 0 0, .slice none 0 0] 71) = wa at hB1 hb1 hb01 ⊢
 obtain ⟨b, hb⟩ : ∃ b, w.heap.size = b := ⟨_, rfl⟩
 rw [show (w.alloc (.cells #[.slice A l.length c] 30)).heap.size = b + 1 by simp [hb]] at hb1
 rw [hb] at hb01 ⊢
 have z0 : wa.cell? ⟨b, 0, none⟩ = some (.slice A l.length c) := blk_cell hb01 0
 have hri := Aside0.mk (Right_true A c l wa hp (HA.step hB1) (by omega))
 replace hb := Aside0.mk hb
 go_upto_region 3 with (go_at_call 17; ((with_reducible refine hri.out.mono ?_); rintro e w2 ⟨rfl, hB2⟩))
 have hBw2 := hB1.trans hB2
 have hb2 := hB2.blk hb1
 have z1 : w2.cell? ⟨b, 0, none⟩ = some (.slice A l.length c) := Bel.cell hB2 z0
 have q0 := blk_frozen hb2 0
 have q1 := blk_frozen hb2 1
 have q2 : w2.cell? ⟨b + 1, 0, none⟩ = some (.slice none 0 0) := blk_cell hb2 0
 have q3 : w2.cell? ⟨b + 1, 1, none⟩ = some (.slice none 0 0) := blk_cell hb2 1
 obtain ⟨ad, A1, c1, A2, c2, rfl, y0', y1', r0, r1, k0, k1⟩ := hob.out w (Bel.refl _)
 have y0 := Bel.cell hBw2 y0'
 have y1 := Bel.cell hBw2 y1'
 have hp2 := put2 hb2 (.slice A1 x.f0.length c1) (.slice A2 x.f1.length c2)
 have hBz := hp2.2 _ hBw2 (by have := hb.out; omega)
 replace hp2 := Aside0.mk hp2.1
 clear hri z0 hb01 hb1 y0' y1'
 go_wp2
 refine bodyPost_ret (results_cell_row2 rfl _ _ (b + 1) 71 #[.slice A1 x.f0.length c1, .slice A2 x.f1.length c2] (0, 0) _ rfl hp2.out Try.underlying71 rfl (by kernel_rfl)) rfl ?_
 exact ⟨A1, c1, A2, c2, rfl, ⟨r0.step hBz, k0⟩, ⟨r1.step hBz, k1⟩, hBz⟩
theorem getF_nil (h : List SObj) (l : List Int) (n : Int) : getF h 0 l n = (0, 14) := by
 have e : objE h 0 = 14 := by unfold objE; rw [if_neg (by omega)]
 unfold getF
 rw [e, if_pos (by decide)]
theorem objE_in {h : List SObj} {o : Int} (h1 : 1 ≤ o ∧ o ≤ h.length) : objE h o = 0 := by unfold objE; rw [if_pos h1]
theorem getF_in {h : List SObj} {o : Int} (h1 : 1 ≤ o ∧ o ≤ h.length) (l : List Int) (n : Int) : getF h o l n = (if fldE l n ≠ 0 then 0 else l.getD n.toNat 0, fldE l n) := by
 unfold getF
 rw [objE_in h1, if_neg (by simp)]
 by_cases e : fldE l n = 0
 ·rw [if_neg (by simp [e]), if_neg (by simp [e]), e]
 ·rw [if_pos e, if_pos e]
  have : fldE l n = 15 := by
   unfold fldE at e ⊢
   split at e
   ·exact absurd rfl e
   ·rename_i q; rw [if_neg q]
  rw [this]
theorem objAt_in {h : List SObj} {k : Nat} {o : Int} (hk : k < h.length) (ho : o = (k : Int) + 1) : objAt h o = h[k] := by
 unfold objAt
 rw [show (o - 1).toNat = k by omega, List.getD_eq_getElem?_getD, List.getElem?_eq_getElem hk]
 rfl
set_option maxHeartbeats 2000000 in
theorem Load_any (S : Nat → Prop) (A : Option Addr) (c : Nat) (l : List SObj) (o n : Int) (w : World) (H : RdF S w A l) (hp : Aside0 (HeapP l)) (hl : l.length ≤ 1000000) (h0 : 0 ≤ o) (h1 : o ≤ l.length) :
  Calls Try.prog 75 #[.agg #[.slice A l.length c], .int .i64 o, .int .i64 n] w fun e w' => e = .returned (.tuple #[.int .i64 (getI l o n).1, .int .i64 (getI l o n).2]) ∧ Bel w w' := by
 have hB0 := (Bel.refl w).alloc (.cells #[.slice A l.length c] 30)
 have hb0 := heap_alloc_new w (.cells #[.slice A l.length c] 30)
 by_cases hz : o = 0
 ·subst hz
  have hob := Aside0.mk (object_nil A c l _ (H.rd.step hB0) hp hl)
  have e1 : getI l 0 n = (0, 14) := getF_nil _ _ _
  rw [e1]
  go_enter Try.func75, Try.ntmps75
  go_upto_region 1 with (fail)
  generalize w.alloc (.cells #[.slice A l.length c] 30) = wa at hB0 hb0 hob ⊢
  have z0 : wa.cell? ⟨w.heap.size, 0, none⟩ = some (.slice A l.length c) := blk_cell hb0 0
  go_wp2_with (go_at_call 83; ((with_reducible refine hob.out.mono ?_); rintro e w2 ⟨rfl, hB2⟩))
  go_ret2
  exact ⟨rfl, hB0.trans (hB2.alloc _)⟩
 ·obtain ⟨k, hk⟩ : ∃ k : Nat, o = (k : Int) + 1 := ⟨(o - 1).toNat, by omega⟩
  have hkl : k < l.length := by omega
  have hob := Aside0.mk (object_at S A c l k o _ (H.step hB0) hp hl hkl hk)
  have e1 : getI l o n = _ := getF_in (h := l) (o := o) (by omega) (objAt l o).f1 n
  rw [objAt_in hkl hk] at e1
  rw [e1]
  obtain ⟨x, hx⟩ : ∃ x, l[k] = x := ⟨_, rfl⟩
  rw [hx] at hob ⊢
  have hfd := Aside0.mk (fun (A1 : Option Addr) (c1 : Nat) (W : World) (h : RdI W A1 x.f1) => field_any A1 c1 x.f1 n W h)
  obtain ⟨g, hg⟩ : ∃ g, fldE x.f1 n = g := ⟨_, rfl⟩
  obtain ⟨y, hy⟩ : ∃ y, (if fldE x.f1 n ≠ 0 then 0 else x.f1.getD n.toNat 0) = y := ⟨_, rfl⟩
  simp only [hy] at hfd ⊢
  simp only [hg] at hfd ⊢
  clear e1 hx hg hy
  replace hk := Aside0.mk hk
  clear hz
  go_enter Try.func75, Try.ntmps75
  go_upto_region 1 with (fail)
  generalize w.alloc (.cells #[.slice A l.length c] 30) = wa at hB0 hb0 hob ⊢
  have z0 : wa.cell? ⟨w.heap.size, 0, none⟩ = some (.slice A l.length c) := blk_cell hb0 0
  go_upto_region 2 with (go_at_call 83; ((with_reducible refine hob.out.mono ?_); rintro e w2 ⟨A1, c1, A2, c2, rfl, ⟨r0, k0⟩, ⟨r1, k1⟩, hB2⟩))
  have hB3 := (Bel.refl w2).alloc (.cells #[.slice A1 x.f0.length c1, .slice A2 x.f1.length c2] 71)
  have hb3 := heap_alloc_new w2 (.cells #[.slice A1 x.f0.length c1, .slice A2 x.f1.length c2] 71)
  generalize w2.alloc (.cells #[.slice A1 x.f0.length c1, .slice A2 x.f1.length c2] 71) = wb at hB3 hb3 ⊢
  have z3 : wb.cell? ⟨w2.heap.size, 1, none⟩ = some (.slice A2 x.f1.length c2) := blk_cell hb3 1
  have hfc := Aside0.mk (hfd.out A2 c2 wb (r1.rd.step hB3))
  clear hfd hob z0
  go_wp2_with (go_at_call 84; ((with_reducible refine hfc.out.mono ?_); rintro e w3 ⟨rfl, rfl⟩))
  go_ret2
  exact ⟨rfl, hB0.trans (hB2.trans hB3)⟩
set_option maxHeartbeats 2000000 in
theorem Ref_any (S : Nat → Prop) (A : Option Addr) (c : Nat) (l : List SObj) (o n : Int) (w : World) (H : RdF S w A l) (hp : Aside0 (HeapP l)) (hl : l.length ≤ 1000000) (h0 : 0 ≤ o) (h1 : o ≤ l.length) :
  Calls Try.prog 77 #[.agg #[.slice A l.length c], .int .i64 o, .int .i64 n] w fun e w' => e = .returned (.tuple #[.int .i64 (getR l o n).1, .int .i64 (getR l o n).2]) ∧ Bel w w' := by
 have hB0 := (Bel.refl w).alloc (.cells #[.slice A l.length c] 30)
 have hb0 := heap_alloc_new w (.cells #[.slice A l.length c] 30)
 by_cases hz : o = 0
 ·subst hz
  have hob := Aside0.mk (object_nil A c l _ (H.rd.step hB0) hp hl)
  have e1 : getR l 0 n = (0, 14) := getF_nil _ _ _
  rw [e1]
  go_enter Try.func77, Try.ntmps77
  go_upto_region 1 with (fail)
  generalize w.alloc (.cells #[.slice A l.length c] 30) = wa at hB0 hb0 hob ⊢
  have z0 : wa.cell? ⟨w.heap.size, 0, none⟩ = some (.slice A l.length c) := blk_cell hb0 0
  go_wp2_with (go_at_call 83; ((with_reducible refine hob.out.mono ?_); rintro e w2 ⟨rfl, hB2⟩))
  go_ret2
  exact ⟨rfl, hB0.trans (hB2.alloc _)⟩
 ·obtain ⟨k, hk⟩ : ∃ k : Nat, o = (k : Int) + 1 := ⟨(o - 1).toNat, by omega⟩
  have hkl : k < l.length := by omega
  have hob := Aside0.mk (object_at S A c l k o _ (H.step hB0) hp hl hkl hk)
  have e1 : getR l o n = _ := getF_in (h := l) (o := o) (by omega) (objAt l o).f0 n
  rw [objAt_in hkl hk] at e1
  rw [e1]
  obtain ⟨x, hx⟩ : ∃ x, l[k] = x := ⟨_, rfl⟩
  rw [hx] at hob ⊢
  have hfd := Aside0.mk (fun (A1 : Option Addr) (c1 : Nat) (W : World) (h : RdI W A1 x.f0) => field_any A1 c1 x.f0 n W h)
  obtain ⟨g, hg⟩ : ∃ g, fldE x.f0 n = g := ⟨_, rfl⟩
  obtain ⟨y, hy⟩ : ∃ y, (if fldE x.f0 n ≠ 0 then 0 else x.f0.getD n.toNat 0) = y := ⟨_, rfl⟩
  simp only [hy] at hfd ⊢
  simp only [hg] at hfd ⊢
  clear e1 hx hg hy
  replace hk := Aside0.mk hk
  clear hz
  go_enter Try.func77, Try.ntmps77
  go_upto_region 1 with (fail)
  generalize w.alloc (.cells #[.slice A l.length c] 30) = wa at hB0 hb0 hob ⊢
  have z0 : wa.cell? ⟨w.heap.size, 0, none⟩ = some (.slice A l.length c) := blk_cell hb0 0
  go_upto_region 2 with (go_at_call 83; ((with_reducible refine hob.out.mono ?_); rintro e w2 ⟨A1, c1, A2, c2, rfl, ⟨r0, k0⟩, ⟨r1, k1⟩, hB2⟩))
  have hB3 := (Bel.refl w2).alloc (.cells #[.slice A1 x.f0.length c1, .slice A2 x.f1.length c2] 71)
  have hb3 := heap_alloc_new w2 (.cells #[.slice A1 x.f0.length c1, .slice A2 x.f1.length c2] 71)
  generalize w2.alloc (.cells #[.slice A1 x.f0.length c1, .slice A2 x.f1.length c2] 71) = wb at hB3 hb3 ⊢
  have z3 : wb.cell? ⟨w2.heap.size, 0, none⟩ = some (.slice A1 x.f0.length c1) := blk_cell hb3 0
  have hfc := Aside0.mk (hfd.out A1 c1 wb (r0.rd.step hB3))
  clear hfd hob z0
  go_wp2_with (go_at_call 84; ((with_reducible refine hfc.out.mono ?_); rintro e w3 ⟨rfl, rfl⟩))
  go_ret2
  exact ⟨rfl, hB0.trans (hB2.trans hB3)⟩
theorem Own.lit0 {α : Type} (d : Kd α) (e : Nat) (W : World) : Own d e W (W.alloc (.cells #[] e)) (.slice (some ⟨W.heap.size, 0, none⟩) 0 0) [] :=
 ⟨fun _ _ => trivial, [], by
  have h2 := World.ownsRow_lit (base := W.heap.size) (e := e) (size := d.sz) W #[] 0 (Nat.le_refl _) (by decide) (by simp)
  simpa using h2, Reps.none _ _⟩
set_option maxHeartbeats 1000000 in
theorem cloneInts_any (A : Option Addr) (c : Nat) (l : List Int) (w : World) (HR : RdI w A l) (hl : l.length ≤ 1000000) :
  Calls Try.prog 85 #[.slice A l.length c] w fun e w' => ∃ v : Value, e = .returned v ∧ OwnI w w' v l ∧ Bel w w' := by
 have hA := HR.nil_of
 cases A with
 | none =>
  obtain rfl := hA rfl
  clear hA HR
  have hq := fun w => Lib.run_eql_slice_nil (P := Try.prog) w 31 3 none 0 c 0 0 Try.underlying31
  go_enter Try.func85, Try.ntmps85
  go_wp2
  go_ret
  exact ⟨_, rfl, Own.nil _ _ _ _, Bel.refl _⟩
 | some ad =>
  clear hA
  have hq := fun w => Lib.run_eql_slice_nil (P := Try.prog) w 31 3 (some ad) l.length c 0 0 Try.underlying31
  have HR1 : RdI (w.alloc (.cells #[] 3)) (some ad) l := HR.step ((Bel.refl w).alloc _)
  have HO := Own.lit0 (Kd.int .i64) 3 w
  have HB1 : Below w.heap.size w (w.alloc (.cells #[] 3)) := ((Bel.refl w).alloc _).out
  have hs1 : w.heap.size ≤ (w.alloc (.cells #[] 3)).heap.size := HB1.size
  go_enter Try.func85, Try.ntmps85
  go_wp2_with ((with_reducible refine gate_b (b := .append) rfl ?_); refine Kd.R_append_rows (Kd.int .i64) (Rr := (Kd.int .i64).K (w.alloc (.cells #[] 3))) (w0 := w) w.heap.size rfl _ _ 31 3 (.int .i64 0) 8 rfl Try.underlying31 info_int rfl (by decide) (by decide) _ [] l (some ad) l.length c (fun _ => True) (fun _ => False) rfl rfl HO.out HR1.out (fun _ _ h => h) (fun _ h => h.elim) (fun _ _ => trivial) HB1 hs1 (by simp; omega) ?_; intro v1 w1 hR hB hG hX)
  go_ret
  exact ⟨_, rfl, ⟨hR⟩, ⟨hB⟩⟩
set_option maxHeartbeats 1000000 in
theorem cloneObjs_any (S : Nat → Prop) (A : Option Addr) (c : Nat) (l : List SObj) (w : World) (hS : Aside0 (∀ k, S k → k < w.heap.size)) (H : RdF S w A l) (hl : l.length ≤ 1000000) (hpos : 0 < l.length) :
  Calls Try.prog 87 #[.slice A l.length c] w fun e w' => ∃ v : Value, e = .returned v ∧ Aside0 (Kd.N kObj 71 w' w.heap.size (fun k => ¬ S k) v l) ∧ Bel w w' := by
 have hA := H.rd.nil_of
 cases A with
 | none => rw [hA rfl] at hpos; exact absurd hpos (by decide)
 | some ad =>
  clear hA
  have hq := fun w => Lib.run_eql_slice_nil (P := Try.prog) w 28 71 (some ad) l.length c 0 0 Try.underlying28
  have HF : Kd.F kObj (w.alloc (.cells #[] 71)) (fun k => ¬ S k ∧ k < w.heap.size) (some ad) l.length l := Kd.F_alloc (Kd.F_bound H.out) _
  have hfr : ∀ k, w.heap.size ≤ k → ¬ S k := fun k hk q => by have := hS.out k q; omega
  have HO : Kd.N kObj 71 (w.alloc (.cells #[] 71)) w.heap.size (fun k => ¬ S k) (.slice (some ⟨w.heap.size, 0, none⟩) 0 0) [] := by
   obtain ⟨_, inner, ho, hr⟩ := (Own.lit0 kObj 71 w).out
   have hi : inner = [] := List.eq_nil_of_length_eq_zero (by simpa using hr.1)
   subst hi
   exact N_of_reps (fun k hk => hfr k (by simp [Value.ownBlock] at hk; omega)) ho (Reps.none _ _)
  have HB1 : Below w.heap.size w (w.alloc (.cells #[] 71)) := ((Bel.refl w).alloc _).out
  have hs1 : w.heap.size ≤ (w.alloc (.cells #[] 71)).heap.size := HB1.size
  have hok : ∀ k, (¬ S k ∧ k < w.heap.size) → ¬ S k ∧ some k ≠ (Value.slice (some ⟨w.heap.size, 0, none⟩) 0 0).ownBlock := fun k hk => ⟨hk.1, fun he => by simp [Value.ownBlock] at he; omega⟩
  have hfr1 : ∀ k, (w.alloc (.cells #[] 71)).heap.size ≤ k → ¬ S k := fun k hk => hfr k (by omega)
  have hlb : (([] : List SObj).length + l.length) * 48 ≤ 140737488355328 := by simp; omega
  go_enter Try.func87, Try.ntmps87
  go_wp2_with ((with_reducible refine gate_b (b := .append) rfl ?_); refine Kd.N_append_rows kObj (w0 := w) w.heap.size rfl _ _ 28 71 (.agg #[.slice none 0 0, .slice none 0 0]) 48 rfl Try.underlying28 info_Obj rfl (by decide) (by decide) _ [] l (some ad) l.length c (fun k => ¬ S k) (fun k => ¬ S k ∧ k < w.heap.size) rfl rfl HO HF hok hfr1 HB1 hs1 hlb ?_; intro v1 w1 hR hB hG hX)
  go_ret
  exact ⟨_, rfl, ⟨hR⟩, ⟨hB⟩⟩
end Go.Proofs.Ytodjpbidjldblaa.H
