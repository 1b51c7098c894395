/- Layer 3, walks: the reader's function. -/
import Derived.Test.YtijdmnjkiiemlaaDoorCr3
namespace Go.Proofs.YtijdmnjkiiemlaaDoor.H
open Go.RowKit Go.Proofs.YtijdmnjkiiemlaaDoorW.PrintWords Go.Proofs.YtijdmnjkiiemlaaDoorW.PrintLast
set_option linter.unusedVariables false
set_option linter.unusedSimpArgs false

/-- a variable's kind and base are read -/
def pKind : List Int → PR (Int × Int) := pBind (pUp 2 5) fun k => if k = 2 then pBind pNum fun b => pRet (k, b) else pRet (k, -1)
def pBlock : List Int → PR SBlock := pBind (pUp 40 9) fun n => pBind (pRep pIns n.toNat) fun l => pRet ⟨l⟩
def pFn : List Int → PR SFunc :=
  pBind (pUp 48 9) fun n => pBind (pRep pKind n.toNat) fun ks => pBind pNum fun p => pBind pNum fun q => pBind (pUp 40 9) fun m => pBind (pRep pBlock m.toNat) fun bl => pRet ⟨ks.map Prod.fst, ks.map Prod.snd, p, q, bl⟩

/-- two rows of one's own, apart from one another -/
structure Two (b0 : Nat) (W : World) (v u : Value) (xs ys : List Int) : Prop where
  rv : OwnAt (Kd.int .i64) 3 b0 W v xs
  ru : OwnAt (Kd.int .i64) 3 b0 W u ys
  ap : ∀ k, v.ownBlock = some k → u.ownBlock ≠ some k
theorem own_lt {b0 : Nat} {W : World} {v : Value} {xs : List Int} (h : OwnAt (Kd.int .i64) 3 b0 W v xs) {k : Nat} (hk : v.ownBlock = some k) : k < W.heap.size := Kd.R_lt h.out k hk
theorem Two.step {b0 : Nat} {W W1 : World} {v u : Value} {xs ys : List Int} (h : Two b0 W v u xs ys) (k : Bel W W1) : Two b0 W1 v u xs ys := ⟨h.rv.step k, h.ru.step k, h.ap⟩
theorem Two.keep {b0 b : Nat} {W W1 : World} {v u : Value} {xs ys : List Int} {ts : List Nat} (h : Two b0 W v u xs ys) (k : KT ts b W W1) (ht : ∀ q, q ∈ 3 :: (Kd.int .i64).E → q ∉ ts) : Two b0 W1 v u xs ys := ⟨h.rv.keep k ht, h.ru.keep k ht, h.ap⟩
theorem Two.swap {b0 : Nat} {W : World} {v u : Value} {xs ys : List Int} (h : Two b0 W v u xs ys) : Two b0 W u v ys xs := ⟨h.ru, h.rv, fun k h1 h2 => h.ap k h2 h1⟩
/-- a number that was laid down is read -/
theorem lit_at {W : World} {j : Nat} {p : Int} (h : W.heap[j]? = some (.cells #[.int .i64 p] 3 (0, 0))) : RdI W (some ⟨j, 0, none⟩) [p] := by
  refine ⟨rfl, by simp, fun _ => ⟨⟨j, 0, none⟩, rfl, fun i q hq => ?_⟩⟩
  cases i with
  | succ i => simp at hq
  | zero =>
    simp only [List.getElem?_cons_zero, Option.some.injEq] at hq
    subst hq
    refine ⟨[.int .i64 p], rfl, rfl, fun i u hu => ?_⟩
    cases i with
    | succ i => simp at hu
    | zero =>
      simp only [List.getElem?_cons_zero, Option.some.injEq] at hu
      subst hu
      simpa [Addr.add] using blk_cell h 0
section
variable {ops : Array Oper} {rest : List Oper} {o : Oper} {a : Act} {Q : Exit → Act → World → Prop}
/-- append(v, p) beside another row -/
theorem app_two_step {Kc : Act → World → Prop} {base : Nat} {W : World} {v u : Value} {xs ys : List Int} {j : Nat} (p : Int) (H : Two base W v u xs ys) (hbase : base ≤ W.heap.size) (HR : W.heap[j]? = some (.cells #[.int .i64 p] 3 (0, 0))) (hgd : o.guard = none) (s x : Operand)
    (ho : o.op = .call { callee := .builtin .append, args := #[s, x], argTypes := #[40, 40] })
    (hl : xs.length ≤ 1000000) (hs : a.eval s = v) (hx : a.eval x = .slice (some ⟨j, 0, none⟩) 1 1)
    (h : ∀ v1 w1, Two base w1 v1 u (xs ++ [p]) ys → KT [3] base W w1 → (∀ i o, W.heap[i]? = some o → v.ownBlock ≠ some i → w1.heap[i]? = some o) → Kc (a.put o.dst v1) w1) :
    if Region.wanted o (yielded ops a.tmps) = true then Oper.wp Tryd.prog o a W Kc Q else Kc (a.put o.dst undef) W := by
  refine Kd.R_append_rows_step (Kd.int .i64) (Rr := (Kd.int .i64).K W) (w0 := W) base (by simp [Region.wanted, hgd]) s x 40 3 (.int .i64 0) 8 ho Tryd.underlying40 info_int rfl (by decide) (by omega) v xs [p] (some ⟨j, 0, none⟩) 1 1 (fun _ => True) (fun _ => False) hs hx H.rv.out (lit_at HR).out (fun _ _ hk => hk) (fun _ hk => hk.elim) (fun _ _ => trivial) (Below.refl _ _) hbase (by omega) ?_
  intro v1 w1 ho hb hg hat
  obtain ⟨inner, hrow⟩ := Kd.R_own H.rv.out
  have hu : (Kd.int .i64).R 3 W base (fun k => u.ownBlock = some k) u ys := Kd.R_of_own (Kd.own_of_R H.ru.out) (fun _ hk => hk)
  refine h v1 w1 ⟨⟨ho⟩, ⟨Kd.R_mono (Kd.R_grown hu hg (fun k hk e => H.ap k e.symm hk)) (fun _ _ => trivial)⟩, fun k hk hk2 => ?_⟩ (KT.grown hrow hg (by simp) (Nat.le_refl _) hbase) (fun i o hi hne => (hg.block i (blk_lt hi) (fun e => hne e.symm)).trans hi)
  rcases hat with hat | ⟨b, hat, hb⟩
  · exact H.ap k (hat ▸ hk) hk2
  · rw [hat] at hk
    injection hk with hk
    have := own_lt H.ru hk2
    omega
end
/-- a function in a block of its own -/
structure IsF (b0 : Nat) (W : World) (r : Nat) (f : SFunc) (v0 v1 v4 : Value) : Prop where
  blk : W.heap[r]? = some (.cells #[v0, v1, .int .i64 f.f2, .int .i64 f.f3, v4] 43 (0, 0))
  two : Two b0 W v0 v1 f.f0 f.f1
  bl : OwnAt kBlock 48 b0 W v4 f.f4

theorem heap_new' {W : World} {o : Obj} {j : Nat} (h : j = W.heap.size) : (W.alloc o).heap[j]? = some o := by subst h; exact heap_alloc_new W o
theorem heap_old {W : World} {o o' : Obj} {j : Nat} (h : W.heap[j]? = some o) : (W.alloc o').heap[j]? = some o := (((Bel.refl W).alloc o').out.block j (blk_lt h)).trans h
theorem le_bel {r : Nat} {w W : World} (h : r ≤ w.heap.size) (k : Bel w W) : r ≤ W.heap.size := Nat.le_trans h k.size
theorem bel_blk {w W : World} {g : Nat} {o : Obj} (h : w.heap[g]? = some o) (k : Bel w W) : W.heap[g]? = some o := (k.out.block g (blk_lt h)).trans h

theorem isF_put {b r : Nat} {W : World} {a0 a1 v0 v1 : Value} {p q : Int} {xs ys : List Int} (h : W.heap[r]? = some (.cells #[a0, a1, .int .i64 p, .int .i64 q, .slice none 0 0] 43 (0, 0))) (t : Two r W v0 v1 xs ys) (hb : b ≤ r) :
    IsF r ((W.setCell ⟨r, 0, none⟩ v0).setCell ⟨r, 1, none⟩ v1) r ⟨xs, ys, p, q, []⟩ v0 v1 (.slice none 0 0) ∧ KT [43] b W ((W.setCell ⟨r, 0, none⟩ v0).setCell ⟨r, 1, none⟩ v1) := by
  have h0 := blk_put (cs' := #[v0, a1, .int .i64 p, .int .i64 q, .slice none 0 0]) h 0 v0 rfl
  have h1 := blk_put (cs' := #[v0, v1, .int .i64 p, .int .i64 q, .slice none 0 0]) h0 1 v1 rfl
  have k : KT [43] b W ((W.setCell ⟨r, 0, none⟩ v0).setCell ⟨r, 1, none⟩ v1) := (KT.set h (by decide) hb 0 _).trans (KT.set h0 (by decide) hb 1 _)
  exact ⟨⟨h1, t.keep k (by decide), OwnAt.nil _ _ _ _⟩, k⟩
theorem ins_agg (base g : Nat) (l : List Int) (e : Int) (w : World) (hG : GlobA base w) (hR : IsRA 69 base w g l e) :
    Calls Tryd.prog 52 #[.pointer (some ⟨g, 0, none⟩)] w fun ex w' => ∃ x v, ex = .returned (.agg #[.int .i64 x.f0, .int .i64 x.f1, .int .i64 x.f2, .int .i64 x.f3, .int .i64 x.f4, .int .i64 x.f5, v]) ∧ GotI 69 base w g l e x v w' := ins_any base g l e w hG hR
/-- the two numbers are put -/
theorem isF_nums {b r : Nat} {W : World} {v0 v1 : Value} {p q p' q' : Int} {xs ys : List Int} (h : W.heap[r]? = some (.cells #[v0, v1, .int .i64 p', .int .i64 q', .slice none 0 0] 43 (0, 0))) (t : Two r W v0 v1 xs ys) (hb : b ≤ r) :
    IsF r ((W.setCell ⟨r, 2, none⟩ (.int .i64 p)).setCell ⟨r, 3, none⟩ (.int .i64 q)) r ⟨xs, ys, p, q, []⟩ v0 v1 (.slice none 0 0) ∧ KT [43] b W ((W.setCell ⟨r, 2, none⟩ (.int .i64 p)).setCell ⟨r, 3, none⟩ (.int .i64 q)) := by
  have h0 := blk_put (cs' := #[v0, v1, .int .i64 p, .int .i64 q', .slice none 0 0]) h 2 (.int .i64 p) rfl
  have h1 := blk_put (cs' := #[v0, v1, .int .i64 p, .int .i64 q, .slice none 0 0]) h0 3 (.int .i64 q) rfl
  have k : KT [43] b W ((W.setCell ⟨r, 2, none⟩ (.int .i64 p)).setCell ⟨r, 3, none⟩ (.int .i64 q)) := (KT.set h (by decide) hb 2 _).trans (KT.set h0 (by decide) hb 3 _)
  exact ⟨⟨h1, t.keep k (by decide), OwnAt.nil _ _ _ _⟩, k⟩
theorem IsF.keep {b0 b r : Nat} {W W1 : World} {f : SFunc} {v0 v1 v4 : Value} (h : IsF b0 W r f v0 v1 v4) (k : KT ST b W W1) : IsF b0 W1 r f v0 v1 v4 := ⟨k.blk h.blk (by decide), h.two.keep k (by decide), h.bl.keep k (by decide)⟩
/-- what reading a function leaves -/
structure GotF (T : Nat) (base : Nat) (w : World) (g : Nat) (l : List Int) (e : Int) (f : SFunc) (v0 v1 v4 : Value) (w' : World) : Prop where
  ran : ∃ l' e', Aside0 (Ran pFn l e f l' e') ∧ IsRA T base w' g l' e'
  kt : Aside0 (KT ST base w w')
  two : Aside0 (Two w.heap.size w' v0 v1 f.f0 f.f1)
  bl : OwnAt kBlock 48 w.heap.size w' v4 f.f4
  ok : Aside0 (FuncOk f)
theorem XOk.ins {x : SIns} {n : Nat} (h : XOk x n) (hn : n ≤ 3000) : InsOk x := ⟨h.f0, h.f1, h.f2, h.f3, h.f4, h.f5, h.f6, Nat.le_trans h.len hn⟩
/-- a function is put into its cells -/
theorem put5 {W : World} {r : Nat} {v0 v1 v2 v3 v4 a0 a1 a2 a3 a4 : Value} (h : W.heap[r]? = some (.cells #[a0, a1, a2, a3, a4] 43 (0, 0))) :
    (((((W.setCell ⟨r, 0, none⟩ v0).setCell ⟨r, 1, none⟩ v1).setCell ⟨r, 2, none⟩ v2).setCell ⟨r, 3, none⟩ v3).setCell ⟨r, 4, none⟩ v4).heap[r]? = some (.cells #[v0, v1, v2, v3, v4] 43 (0, 0)) ∧
    ∀ b, b ≤ r → KT [43] b W (((((W.setCell ⟨r, 0, none⟩ v0).setCell ⟨r, 1, none⟩ v1).setCell ⟨r, 2, none⟩ v2).setCell ⟨r, 3, none⟩ v3).setCell ⟨r, 4, none⟩ v4) := by
  have h0 := blk_put (cs' := #[v0, a1, a2, a3, a4]) h 0 v0 rfl
  have h1 := blk_put (cs' := #[v0, v1, a2, a3, a4]) h0 1 v1 rfl
  have h2 := blk_put (cs' := #[v0, v1, v2, a3, a4]) h1 2 v2 rfl
  have h3 := blk_put (cs' := #[v0, v1, v2, v3, a4]) h2 3 v3 rfl
  have h4 := blk_put (cs' := #[v0, v1, v2, v3, v4]) h3 4 v4 rfl
  exact ⟨h4, fun b hb => ((((KT.set h (by decide) hb 0 _).trans (KT.set h0 (by decide) hb 1 _)).trans (KT.set h1 (by decide) hb 2 _)).trans (KT.set h2 (by decide) hb 3 _)).trans (KT.set h3 (by decide) hb 4 _)⟩

set_option maxHeartbeats 4000000 in
theorem fn_any (base g : Nat) (l : List Int) (e : Int) (w : World) (hG : GlobA base w) (hR : IsRA 69 base w g l e) :
    Calls Tryd.prog 36 #[.pointer (some ⟨g, 0, none⟩)] w fun ex w' => ∃ f v0 v1 v4, ex = .returned (.agg #[v0, v1, .int .i64 f.f2, .int .i64 f.f3, v4]) ∧ GotF 69 base w g l e f v0 v1 v4 w' := by
  obtain ⟨A, c, hr⟩ := hR.out
  have hbw := hr.lt
  have hB0 : Bel w (w.alloc (.cells #[.slice none 0 0, .slice none 0 0, .int .i64 0, .int .i64 0, .slice none 0 0] 43)) := (Bel.refl w).alloc _
  have hcall := Aside0.mk (within_any 48 9 (by decide) (by decide) (by decide) (by decide) (by decide) base g l e _ ⟨⟨A, c, hr.step hB0⟩⟩)
  have box := Aside0.mk (heap_alloc_new w (.cells #[.slice none 0 0, .slice none 0 0, .int .i64 0, .int .i64 0, .slice none 0 0] 43))
  replace hr := Aside0.mk hr
  go_enter Tryd.func36, Tryd.ntmps36
  go_wp2_with (go_at_call 35; ((with_reducible refine hcall.out.mono ?_); rintro ex w' ⟨n, rfl, hT, hn48⟩))
  obtain ⟨l1, e1, hran1, hR1, hz1⟩ := hT.ran
  have hK1 := Aside0.mk ((KT.of_bel hB0 hbw ST).trans hT.kt.out)
  have hbk := Aside0.mk (hT.kt.out.blk box.out (by decide))
  obtain ⟨r, hr0⟩ : ∃ r, w.heap.size = r := ⟨_, rfl⟩
  rw [hr0] at hbk ⊢
  have hbr : base ≤ r := by rw [← hr0]; exact hbw
  replace hr0 := Aside0.mk hr0
  clear hT hcall box hB0
  go_loopw [8] (fun i W => ∃ (k : Nat) (ks : List (Int × Int)) (v0 v1 : Value) (lk : List Int) (ek : Int), k ≤ n.toNat ∧ i = .int .i64 k ∧ Aside0 (Ran (pRep pKind k) l1 e1 ks lk ek) ∧ IsRA 69 base W g lk ek ∧ Aside0 (IsF r W r ⟨ks.map Prod.fst, ks.map Prod.snd, 0, 0, []⟩ v0 v1 (.slice none 0 0) ∧ KT ST base w W) ∧ Aside0 (∀ a ∈ ks, (-9223372036854775808 ≤ a.1 ∧ a.1 ≤ 9223372036854775807) ∧ -9223372036854775808 ≤ a.2 ∧ a.2 ≤ 9223372036854775807) ∧ Aside0 (ks.length = k)) (fun i _ => n.toNat - (intOf i).toNat)
  case atStart => exact ⟨0, [], .slice none 0 0, .slice none 0 0, l1, e1, by omega, rfl, ⟨Ran.rep0 _ _ _⟩, hR1, ⟨⟨hbk.out, ⟨OwnAt.nil _ _ _ _, OwnAt.nil _ _ _ _, by simp [Value.ownBlock]⟩, OwnAt.nil _ _ _ _⟩, hK1.out⟩, ⟨by simp⟩, ⟨rfl⟩⟩
  case round =>
    clear hR1 hK1 hbk
    obtain ⟨k, ks, v0, v1, lk, ek, hk, rfl, hran, hRk, hF, hks, hkl⟩ := hrel
    by_cases hlt : (k : Int) < n
    · have hcall := Aside0.mk (within_any 2 5 (by decide) (by decide) (by decide) (by decide) (by decide) base g lk ek wr hRk)
      go_upto_if 13 with (go_at_call 35; ((with_reducible refine hcall.out.mono ?_); rintro ex w' ⟨kd, rfl, hT, hk2⟩))
      obtain ⟨l2, e2, hran2, hR2, hz2⟩ := hT.ran
      have hkd0 := hT.ge
      have hkd1 := hT.le
      have hkt2 := hT.kt
      clear hT hcall
      go_cut [4] (fun b W => ∃ (bd : Int) (l3 : List Int) (e3 : Int), b = .int .i64 bd ∧ Aside0 (Ran pKind lk ek (kd, bd) l3 e3) ∧ IsRA 69 base W g l3 e3 ∧ Aside0 (KT ST base wr W) ∧ -9223372036854775808 ≤ bd ∧ bd ≤ 9223372036854775807)
      case first =>
        by_cases hk22 : kd = 2
        · have b1 : (kd == 2) = true := by simpa using hk22
          replace hk22 := Aside0.mk hk22
          have hcall := Aside0.mk (number_any base g l2 e2 w' hR2)
          go_wp2_with (go_at_call 51; ((with_reducible refine hcall.out.mono ?_); rintro ex w'' ⟨bd, rfl, hT⟩))
          go_meet
          case rel =>
            obtain ⟨l3, e3, hran3, hR3, _⟩ := hT.ran
            refine ⟨bd, l3, e3, rfl, ⟨hran2.out.bind ?_⟩, hR3, ⟨hkt2.out.trans hT.kt.out⟩, hT.ge, hT.le⟩
            rw [if_pos hk22.out]
            exact hran3.out.bind (Ran.ret _ _ _)
        · have b1 : (kd == 2) = false := by simpa using hk22
          replace hk22 := Aside0.mk hk22
          go_wp2
          go_meet
          case rel =>
            refine ⟨-1, l2, e2, rfl, ⟨hran2.out.bind ?_⟩, hR2, hkt2, by decide, by decide⟩
            rw [if_neg hk22.out]
            exact Ran.ret _ _ _
      case rest =>
        obtain ⟨bd, l3, e3, rfl, hran3, hR3, hkt3, hbd0, hbd1⟩ := hcut
        clear hR2 hran2 hz2 hkt2
        have hblk := hkt3.out.blk hF.out.1.blk (by decide)
        have hTw := Aside0.mk (hF.out.1.two.keep hkt3.out (by decide))
        obtain ⟨y0, hy0⟩ : ∃ y, ks.map Prod.fst = y := ⟨_, rfl⟩
        obtain ⟨y1, hy1⟩ : ∃ y, ks.map Prod.snd = y := ⟨_, rfl⟩
        have hy0l : y0.length ≤ 48 := by rw [← hy0, List.length_map, hkl.out]; omega
        have hy1l : y1.length ≤ 48 := by rw [← hy1, List.length_map, hkl.out]; omega
        rw [hy0, hy1] at hTw hblk
        replace hTw : Aside0 (Two r wc v0 v1 y0 y1) := hTw
        replace hy0 := Aside0.mk hy0
        replace hy1 := Aside0.mk hy1
        obtain ⟨A0, c0, rfl, _, _⟩ := hTw.out.rv.reads
        obtain ⟨A1, c1, rfl, _, _⟩ := hTw.out.ru.reads
        have x0 : wc.cell? ⟨r, 0, none⟩ = some (.slice A0 y0.length c0) := blk_cell hblk 0
        have x1 : wc.cell? ⟨r, 1, none⟩ = some (.slice A1 y1.length c1) := blk_cell hblk 1
        have xl : r < wc.heap.size := blk_lt hblk
        go_upto_region 6 with (fail)
        have hbc : base ≤ wc.heap.size := by have := hkt3.out.size; have := hF.out.2.size; rw [hr0.out] at this; omega
        have hrc : r ≤ wc.heap.size := Nat.le_of_lt xl
        replace hblk := Aside0.mk hblk
        go_region_law (first | (refine app_two_step kd (hTw.out.step ?_) (le_bel hrc ?_) ?_ rfl _ _ rfl ?_ rfl rfl ?_; (repeat (first | exact Bel.refl _ | refine Bel.alloc ?_ _ | refine Bel.drewN ?_ 1)); (repeat (first | exact Bel.refl _ | refine Bel.alloc ?_ _ | refine Bel.drewN ?_ 1)); (first | exact heap_new' (by first | rfl | (simp; done)) | exact heap_old (heap_new' (by first | rfl | (simp; done)))); (omega); intro v1 w1 hT1 hK1 hk1; obtain ⟨A2, c2, rfl, _, _⟩ := hT1.rv.reads; have hb1 := hK1.blk (bel_blk hblk.out (by (repeat (first | exact Bel.refl _ | refine Bel.alloc ?_ _ | refine Bel.drewN ?_ 1)))) (by decide); have x0' := blk_cell hb1 0; have x1' := blk_cell hb1 1; have xl' := blk_lt hb1; have hl2 := fun j q h (hj : wc.heap.size ≤ j) => hk1 j q h (fun e => absurd (own_lt hTw.out.rv e) (by omega)); have hKw := (KT.of_bel (show Bel wc _ by (repeat (first | exact Bel.refl _ | refine Bel.alloc ?_ _ | refine Bel.drewN ?_ 1))) hrc [3]).trans hK1) | (refine app_two_step bd (hTw.out.swap.step ?_) (le_bel hrc ?_) ?_ rfl _ _ rfl ?_ rfl rfl ?_; (repeat (first | exact Bel.refl _ | refine Bel.alloc ?_ _ | refine Bel.drewN ?_ 1)); (repeat (first | exact Bel.refl _ | refine Bel.alloc ?_ _ | refine Bel.drewN ?_ 1)); (first | exact heap_new' (by first | rfl | (simp; done)) | exact heap_old (heap_new' (by first | rfl | (simp; done)))); (omega); intro v1 w1 hS1 hK1 hk1; obtain ⟨A3, c3, rfl, _, _⟩ := hS1.rv.reads; have hb1 := hK1.blk (bel_blk hblk.out (by (repeat (first | exact Bel.refl _ | refine Bel.alloc ?_ _ | refine Bel.drewN ?_ 1)))) (by decide); have x0' := blk_cell hb1 0; have x1' := blk_cell hb1 1; have xl' := blk_lt hb1; have hl2 := fun j q h (hj : wc.heap.size ≤ j) => hk1 j q h (fun e => absurd (own_lt hTw.out.swap.rv e) (by omega)); have hKw := (KT.of_bel (show Bel wc _ by (repeat (first | exact Bel.refl _ | refine Bel.alloc ?_ _ | refine Bel.drewN ?_ 1))) hrc [3]).trans hK1) | (refine app_two_step bd (hT1.swap.step ?_) (le_bel (Nat.le_of_lt xl') ?_) ?_ rfl _ _ rfl ?_ rfl rfl ?_; (repeat (first | exact Bel.refl _ | refine Bel.alloc ?_ _ | refine Bel.drewN ?_ 1)); (repeat (first | exact Bel.refl _ | refine Bel.alloc ?_ _ | refine Bel.drewN ?_ 1)); (first | (first | exact heap_new' (by first | rfl | (simp; done)) | exact heap_old (heap_new' (by first | rfl | (simp; done)))) | (refine hl2 _ _ ?_ ?_; (first | exact heap_new' (by first | rfl | (simp; done)) | exact heap_old (heap_new' (by first | rfl | (simp; done)))); (omega))); (omega); intro v2 w2 hS2 hK2 hk2; obtain ⟨A3, c3, rfl, _, _⟩ := hS2.rv.reads; have hb2 := hK2.blk (bel_blk hb1 (by (repeat (first | exact Bel.refl _ | refine Bel.alloc ?_ _ | refine Bel.drewN ?_ 1)))) (by decide); have x0'' := blk_cell hb2 0; have x1'' := blk_cell hb2 1; have f0'' := blk_frozen hb2 0; have f1'' := blk_frozen hb2 1; have hEnd := hS2.swap; have hKe := hKw.trans ((KT.of_bel (show Bel w1 _ by (repeat (first | exact Bel.refl _ | refine Bel.alloc ?_ _ | refine Bel.drewN ?_ 1))) (Nat.le_of_lt xl') [3]).trans hK2)) | (refine app_two_step kd (hS1.swap.step ?_) (le_bel (Nat.le_of_lt xl') ?_) ?_ rfl _ _ rfl ?_ rfl rfl ?_; (repeat (first | exact Bel.refl _ | refine Bel.alloc ?_ _ | refine Bel.drewN ?_ 1)); (repeat (first | exact Bel.refl _ | refine Bel.alloc ?_ _ | refine Bel.drewN ?_ 1)); (first | (first | exact heap_new' (by first | rfl | (simp; done)) | exact heap_old (heap_new' (by first | rfl | (simp; done)))) | (refine hl2 _ _ ?_ ?_; (first | exact heap_new' (by first | rfl | (simp; done)) | exact heap_old (heap_new' (by first | rfl | (simp; done)))); (omega))); (omega); intro v2 w2 hT2 hK2 hk2; obtain ⟨A2, c2, rfl, _, _⟩ := hT2.rv.reads; have hb2 := hK2.blk (bel_blk hb1 (by (repeat (first | exact Bel.refl _ | refine Bel.alloc ?_ _ | refine Bel.drewN ?_ 1)))) (by decide); have x0'' := blk_cell hb2 0; have x1'' := blk_cell hb2 1; have f0'' := blk_frozen hb2 0; have f1'' := blk_frozen hb2 1; have hEnd := hT2; have hKe := hKw.trans ((KT.of_bel (show Bel w1 _ by (repeat (first | exact Bel.refl _ | refine Bel.alloc ?_ _ | refine Bel.drewN ?_ 1))) (Nat.le_of_lt xl') [3]).trans hK2)) )
        all_goals
          have hs := isF_put hb2 hEnd (Nat.le_refl r)
          simp only [List.length_append, List.length_cons, List.length_nil, Nat.zero_add] at hs
          have hKT : KT [3, 43] r wc _ := (hKe.mono (Nat.le_refl r) (by decide)).trans (hs.2.mono (Nat.le_refl r) (by decide))
          replace hs := Aside0.mk hs
          replace hKT := Aside0.mk hKT
          go_wp2
          go_roundw
          case rel =>
            obtain ⟨A4, c4, hr4⟩ := hR3.out
            refine ⟨k + 1, ks ++ [(kd, bd)], .slice A2 (y0.length + 1) c2, .slice A3 (y1.length + 1) c3, l3, e3, by omega, by go_num, ⟨hran.out.rep1 hran3.out⟩, ⟨_, _, hr4.keep (hKT.out.mono hbr (fun _ q => q)) (by decide) (by decide)⟩, ⟨?_, (hF.out.2.trans hkt3.out).after (by rw [hr0.out]; exact hKT.out.below) hbw⟩, ⟨fun a ha => ?_⟩, ⟨by rw [List.length_append, hkl.out]; rfl⟩⟩
            · rw [List.map_append, List.map_append, hy0.out, hy1.out]
              exact hs.out.1
            · rcases List.mem_append.1 ha with ha | ha
              · exact hks.out a ha
              · rw [List.mem_singleton.1 ha]
                exact ⟨⟨hkd0, hkd1⟩, hbd0, hbd1⟩
          case measure => simp [intOf]; omega
    · have hkn : Aside0 (k = n.toNat) := ⟨by omega⟩
      have hnum := Aside0.mk (number_any base g lk ek wr hRk)
      have hbF := Aside0.mk hF.out.1.blk
      go_upto_region 9 with (first | (go_at_call 51; ((with_reducible refine hnum.out.mono ?_); rintro ex w' ⟨p, rfl, hTp⟩; obtain ⟨l3, e3, hran3, hR3, _⟩ := hTp.ran)) | (go_at_call 51; ((with_reducible refine (number_any base g l3 e3 _ hR3).mono ?_); rintro ex w'' ⟨q, rfl, hTq⟩; have hb2 := hTq.kt.out.blk (hTp.kt.out.blk hbF.out (by decide)) (by decide); have x2 := blk_cell hb2 2; have x3 := blk_cell hb2 3; have f2 := blk_frozen hb2 2; have f3 := blk_frozen hb2 3)))
      obtain ⟨l4, e4, hran4, hR4, _⟩ := hTq.ran
      have hs := isF_nums (p := p) (q := q) hb2 ((hF.out.1.two.keep hTp.kt.out (by decide)).keep hTq.kt.out (by decide)) (Nat.le_refl r)
      have hKf := Aside0.mk (((hF.out.2.trans hTp.kt.out).trans hTq.kt.out).after (by rw [hr0.out]; exact hs.2.below) hbw)
      have hRf : IsRA 69 base ((w''.setCell ⟨r, 2, none⟩ (.int .i64 p)).setCell ⟨r, 3, none⟩ (.int .i64 q)) g l4 e4 := by
        obtain ⟨A4, c4, hr4⟩ := hR4.out
        exact ⟨⟨_, _, hr4.keep (hs.2.mono hbr (fun _ z => z)) (by decide) (by decide)⟩⟩
      have hFf := Aside0.mk hs.1
      have hpq := Aside0.mk (And.intro (And.intro hTp.ge hTp.le) (And.intro hTq.ge hTq.le))
      clear hs hTp hTq hb2 x2 x3 f2 f3 hR3 hR4 hF hnum hbF
      generalize (w''.setCell ⟨r, 2, none⟩ (.int .i64 p)).setCell ⟨r, 3, none⟩ (.int .i64 q) = wf at hKf hRf hFf ⊢
      have hcall := Aside0.mk (within_any 40 9 (by decide) (by decide) (by decide) (by decide) (by decide) base g l4 e4 wf hRf)
      go_wp2_with (go_at_call 35; ((with_reducible refine hcall.out.mono ?_); rintro ex w3 ⟨m, rfl, hT, hm40⟩))
      obtain ⟨l5, e5, hran5, hR5, _⟩ := hT.ran
      have hK5 := Aside0.mk (hKf.out.trans hT.kt.out)
      have hF5 := Aside0.mk (hFf.out.keep hT.kt.out)
      clear hT hcall hKf hRf hFf
      go_loopw [37] (fun i W => ∃ (j : Nat) (bl : List SBlock) (v4 : Value) (lj : List Int) (ej : Int), j ≤ m.toNat ∧ i = .int .i64 j ∧ Aside0 (Ran (pRep pBlock j) l5 e5 bl lj ej) ∧ IsRA 69 base W g lj ej ∧ Aside0 (IsF r W r ⟨ks.map Prod.fst, ks.map Prod.snd, p, q, bl⟩ v0 v1 v4 ∧ KT ST base w W) ∧ Aside0 (∀ b ∈ bl, b.f0.length ≤ 40 ∧ ∀ x ∈ b.f0, XOk x 12) ∧ Aside0 (bl.length = j)) (fun i _ => m.toNat - (intOf i).toNat)
      case atStart => exact ⟨0, [], .slice none 0 0, l5, e5, by omega, rfl, ⟨Ran.rep0 _ _ _⟩, hR5, ⟨hF5.out, hK5.out⟩, ⟨by simp⟩, ⟨rfl⟩⟩
      case round =>
        clear hR5 hK5 hF5
        obtain ⟨j, bl, v4, lj, ej, hj, rfl, hranj, hRj, hFj, hbl, hbll⟩ := hrel
        by_cases hlj : (j : Int) < m
        · have hbr2 : base ≤ wr.heap.size := by have := hFj.out.2.size; omega
          have hrr2 : r ≤ wr.heap.size := by have := hFj.out.2.size; have := hr0.out; omega
          have hB3 : Bel wr (wr.alloc (.cells #[.slice none 0 0] 48)) := (Bel.refl wr).alloc _
          have box3 := Aside0.mk (heap_alloc_new wr (.cells #[.slice none 0 0] 48))
          have hcall := Aside0.mk (within_any 40 9 (by decide) (by decide) (by decide) (by decide) (by decide) base g lj ej (wr.alloc (.cells #[.slice none 0 0] 48)) (by obtain ⟨A4, c4, hr4⟩ := hRj.out; exact ⟨⟨A4, c4, hr4.step hB3⟩⟩))
          go_wp2_with (go_at_call 35; ((with_reducible refine hcall.out.mono ?_); rintro ex w' ⟨mc, rfl, hT, hmc40⟩))
          obtain ⟨l6, e6, hran6, hR6, _⟩ := hT.ran
          have hK6 := Aside0.mk ((KT.of_bel hB3 hbr2 ST).trans hT.kt.out)
          have hb6 := Aside0.mk (hT.kt.out.blk box3.out (by decide))
          obtain ⟨b2, hb2e⟩ : ∃ b, wr.heap.size = b := ⟨_, rfl⟩
          rw [hb2e] at hb6 hbr2 hrr2 ⊢
          replace hb2e := Aside0.mk hb2e
          clear hT hcall box3 hB3 hRj
          go_loopw [41] (fun i W => ∃ (i2 : Nat) (cd : List SIns) (vc : Value) (lc : List Int) (ec : Int), i2 ≤ mc.toNat ∧ i = .int .i64 i2 ∧ Aside0 (Ran (pRep pIns i2) l6 e6 cd lc ec) ∧ IsRA 69 base W g lc ec ∧ Aside0 (W.heap[b2]? = some (.cells #[vc] 48 (0, 0)) ∧ OwnAt kIns 45 b2 W vc cd ∧ KT ST base wr W) ∧ Aside0 ((∀ x ∈ cd, XOk x 12) ∧ cd.length = i2)) (fun i _ => mc.toNat - (intOf i).toNat)
          case atStart => exact ⟨0, [], .slice none 0 0, l6, e6, by omega, rfl, ⟨Ran.rep0 _ _ _⟩, hR6, ⟨hb6.out, OwnAt.nil _ _ _ _, hK6.out⟩, ⟨by simp, rfl⟩⟩
          case round =>
            clear hR6 hK6 hb6
            obtain ⟨i2, cd, vc, lc, ec, hi2, rfl, hranc, hRc, hC, hcd⟩ := hrel
            by_cases hli : (i2 : Int) < mc
            · have hbr3 : b2 ≤ wr.heap.size := by have := hC.out.2.2.size; have := hb2e.out; omega
              have hcl : cd.length ≤ 1000 := by rw [hcd.out.2]; omega
              obtain ⟨A5, c5, rfl, _, _⟩ := hC.out.2.1.reads
              have cz : wr.cell? ⟨b2, 0, none⟩ = some (.slice A5 cd.length c5) := blk_cell hC.out.1 0
              have hins := Aside0.mk (fun (W : World) (z : Bel wr W) => ins_agg base g lc ec W ⟨hG.out.below ((hFj.out.2.trans hC.out.2.2).trans (KT.of_bel z (Nat.le_trans hbr2 hbr3) ST)).below⟩ (by obtain ⟨A4, c4, hr4⟩ := hRc.out; exact ⟨⟨A4, c4, hr4.step z⟩⟩))
              go_upto_region 14 with (fail)
              go_region_law (first | (refine goes_ (f := 52) Tryd.func52 (by kernel_rfl) rfl #[.pointer (some ⟨g, 0, none⟩)] rfl rfl rfl (by simp only [List.map_toArray, List.map_cons, List.map_nil]; rfl) ?_; refine (hins.out _ ((Bel.refl wr).drewN 1)).mono ?_; rintro ex w' ⟨x, v, rfl, hGI⟩; obtain ⟨A6, c6, rfl, _, _⟩ := hGI.own.reads; refine ⟨_, rfl, ?_⟩; have hbk := hGI.kt.out.blk (bel_blk hC.out.1 ((Bel.refl wr).drewN 1)) (by decide); have cz' : w'.cell? ⟨b2, 0, none⟩ = some (.slice A5 cd.length c5) := blk_cell hbk 0; have cl' : b2 < w'.heap.size := blk_lt hbk; have cz3 := blk_cell (bel_blk hbk ((Bel.refl w').alloc (.cells #[.int .i64 x.f0, .int .i64 x.f1, .int .i64 x.f2, .int .i64 x.f3, .int .i64 x.f4, .int .i64 x.f5, .slice A6 x.f6.length c6] 45))) 0) | (refine app_ins_at (xs := cd) x [.int .i64 x.f0, .int .i64 x.f1, .int .i64 x.f2, .int .i64 x.f3, .int .i64 x.f4, .int .i64 x.f5, .slice A6 x.f6.length c6] ((hC.out.2.1.step ((Bel.refl wr).drewN 1)).keep hGI.kt.out (by decide)) ⟨kIns_mkM _ _ _ x (Kd.R_lower hGI.own.out hbr3)⟩ (Nat.le_trans hbr3 hGI.kt.out.size) rfl _ _ rfl ?_ rfl rfl ?_; (omega); intro v1 w1 hO hK1; obtain ⟨A7, c7, rfl, _, _⟩ := hO.reads; have hbk1 := hK1.blk hbk (by decide); have fz' : w1.frozen? ⟨b2, 0, none⟩ = false := blk_frozen hbk1 0; have cz'' : w1.cell? ⟨b2, 0, none⟩ = some (.slice A5 cd.length c5) := blk_cell hbk1 0))
              all_goals
                have hs1 := blk_put (cs' := #[.slice A7 (cd ++ [x]).length c7]) hbk1 0 (.slice A7 (cd ++ [x]).length c7) rfl
                have ks1 : KT [48] b2 w1 (w1.setCell ⟨b2, 0, none⟩ (.slice A7 (cd ++ [x]).length c7)) := KT.set hbk1 (by decide) (Nat.le_refl _) 0 _
                have hKT : KT [45, 48] b2 w' (w1.setCell ⟨b2, 0, none⟩ (.slice A7 (cd ++ [x]).length c7)) := (hK1.mono (Nat.le_refl _) (by decide)).trans (ks1.mono (Nat.le_refl _) (by decide))
                have hs := And.intro hs1 (And.intro (hO.keep ks1 (by decide)) hKT)
                clear hs1 ks1 hKT
                simp only [List.length_append, List.length_cons, List.length_nil, Nat.zero_add] at hs
                replace hs := Aside0.mk hs
                go_wp2
                go_roundw
                case rel =>
                  obtain ⟨l7, e7, hran7, hR7⟩ := hGI.ran
                  obtain ⟨A8, c8, hr8⟩ := hR7.out
                  refine ⟨i2 + 1, cd ++ [x], .slice A7 (cd.length + 1) c7, l7, e7, by omega, by go_num, ⟨hranc.out.rep1 hran7.out⟩, ⟨_, _, hr8.keep (hs.out.2.2.mono hbr2 (fun _ z => z)) (by decide) (by decide)⟩, ⟨hs.out.1, hs.out.2.1, ((hC.out.2.2.trans (KT.of_bel ((Bel.refl wr).drewN 1) (Nat.le_trans hbr2 hbr3) ST)).trans hGI.kt.out).after (by rw [hb2e.out]; exact hs.out.2.2.below) (by rw [hb2e.out]; exact hbr2)⟩, ⟨fun z hz => ?_, by rw [List.length_append, hcd.out.2]; rfl⟩⟩
                  rcases List.mem_append.1 hz with hz | hz
                  · exact hcd.out.1 z hz
                  · rw [List.mem_singleton.1 hz]
                    exact hGI.ok.out
                case measure => simp [intOf]; omega
            · have hmi : Aside0 (i2 = mc.toNat) := ⟨by omega⟩
              have hFw := hFj.out.1.keep hC.out.2.2
              obtain ⟨A5, c5, rfl, _, _⟩ := hC.out.2.1.reads
              obtain ⟨A6, c6, rfl, _, _⟩ := hFw.bl.reads
              have hbl3 : bl.length ≤ 1000 := by rw [hbll.out]; omega
              have cz : wr.cell? ⟨b2, 0, none⟩ = some (.slice A5 cd.length c5) := blk_cell hC.out.1 0
              have cr : wr.cell? ⟨r, 4, none⟩ = some (.slice A6 bl.length c6) := blk_cell hFw.blk 4
              have hrr3 : r ≤ wr.heap.size := Nat.le_of_lt (blk_lt hFw.blk)
              replace hFw := Aside0.mk hFw
              go_wp2_with ((with_reducible refine gate_b (b := .append) rfl ?_); (refine app_block_at_ (xs := bl) (⟨cd⟩ : SBlock) [.slice A5 cd.length c5] hFw.out.bl ⟨kBlock_mkM _ _ _ (⟨cd⟩ : SBlock) (Kd.R_lower hC.out.2.1.out hrr2)⟩ hrr3 rfl _ _ rfl ?hl1 rfl rfl ?_); (case hl1 => omega); intro v1 w1 hO hK1; obtain ⟨A7, c7, rfl, _, _⟩ := hO.reads; have hbk1 := hK1.blk hFw.out.blk (by decide); have fz' : w1.frozen? ⟨r, 4, none⟩ = false := blk_frozen hbk1 4; have cz'' : w1.cell? ⟨r, 4, none⟩ = some (.slice A6 bl.length c6) := blk_cell hbk1 4)
              have hs1 := blk_put (cs' := #[v0, v1, .int .i64 p, .int .i64 q, .slice A7 (bl ++ [(⟨cd⟩ : SBlock)]).length c7]) hbk1 4 (.slice A7 (bl ++ [(⟨cd⟩ : SBlock)]).length c7) rfl
              have ks1 : KT [43] r w1 (w1.setCell ⟨r, 4, none⟩ (.slice A7 (bl ++ [(⟨cd⟩ : SBlock)]).length c7)) := KT.set hbk1 (by decide) (Nat.le_refl _) 4 _
              have hKT : KT [48, 43] r wr (w1.setCell ⟨r, 4, none⟩ (.slice A7 (bl ++ [(⟨cd⟩ : SBlock)]).length c7)) := (hK1.mono (Nat.le_refl _) (by decide)).trans (ks1.mono (Nat.le_refl _) (by decide))
              have hIF : IsF r (w1.setCell ⟨r, 4, none⟩ (.slice A7 (bl ++ [(⟨cd⟩ : SBlock)]).length c7)) r ⟨ks.map Prod.fst, ks.map Prod.snd, p, q, bl ++ [⟨cd⟩]⟩ v0 v1 (.slice A7 (bl ++ [(⟨cd⟩ : SBlock)]).length c7) := ⟨hs1, hFw.out.two.keep hKT (by decide), hO.keep ks1 (by decide)⟩
              have hs := And.intro hIF hKT
              clear hs1 ks1 hKT hIF
              simp only [List.length_append, List.length_cons, List.length_nil, Nat.zero_add] at hs
              replace hs := Aside0.mk hs
              go_roundw
              case rel =>
                obtain ⟨A8, c8, hr8⟩ := hRc.out
                refine ⟨j + 1, bl ++ [⟨cd⟩], .slice A7 (bl.length + 1) c7, lc, ec, by omega, by go_num, ⟨hranj.out.rep1 (hran6.out.bind ((hmi.out ▸ hranc.out).bind (Ran.ret _ _ _)))⟩, ⟨_, _, hr8.keep (hs.out.2.mono hbr (fun _ z => z)) (by decide) (by decide)⟩, ⟨hs.out.1, (hFj.out.2.trans hC.out.2.2).after (by rw [hr0.out]; exact hs.out.2.below) hbw⟩, ⟨fun z hz => ?_⟩, ⟨by rw [List.length_append, hbll.out]; rfl⟩⟩
                rcases List.mem_append.1 hz with hz | hz
                · exact hbl.out z hz
                · rw [List.mem_singleton.1 hz]
                  exact ⟨by show cd.length ≤ 40; rw [hcd.out.2]; omega, hcd.out.1⟩
              case measure => simp [intOf]; omega
        · have hjm : Aside0 (j = m.toNat) := ⟨by omega⟩
          obtain ⟨A0, c0, rfl, _, _⟩ := hFj.out.1.two.rv.reads
          obtain ⟨A1, c1, rfl, _, _⟩ := hFj.out.1.two.ru.reads
          obtain ⟨A6, c6, rfl, _, _⟩ := hFj.out.1.bl.reads
          obtain ⟨y0, hy0⟩ : ∃ y, ks.map Prod.fst = y := ⟨_, rfl⟩
          obtain ⟨y1, hy1⟩ : ∃ y, ks.map Prod.snd = y := ⟨_, rfl⟩
          rw [hy0, hy1] at hFj
          replace hFj : Aside0 (IsF r wr r ⟨y0, y1, p, q, bl⟩ (.slice A0 y0.length c0) (.slice A1 y1.length c1) (.slice A6 bl.length c6) ∧ KT ST base w wr) := hFj
          have hbk : wr.heap[r]? = some (.cells #[.slice A0 y0.length c0, .slice A1 y1.length c1, .int .i64 p, .int .i64 q, .slice A6 bl.length c6] 43 (0, 0)) := hFj.out.1.blk
          have z0 : wr.cell? ⟨r, 0, none⟩ = some (.slice A0 y0.length c0) := blk_cell hbk 0
          have z1 : wr.cell? ⟨r, 1, none⟩ = some (.slice A1 y1.length c1) := blk_cell hbk 1
          have z2 : wr.cell? ⟨r, 2, none⟩ = some (.int .i64 p) := blk_cell hbk 2
          have z3 : wr.cell? ⟨r, 3, none⟩ = some (.int .i64 q) := blk_cell hbk 3
          have z4 : wr.cell? ⟨r, 4, none⟩ = some (.slice A6 bl.length c6) := blk_cell hbk 4
          have q0 := blk_frozen hbk 0
          have q1 := blk_frozen hbk 1
          have q2 := blk_frozen hbk 2
          have q3 := blk_frozen hbk 3
          have q4 := blk_frozen hbk 4
          replace hbk := Aside0.mk hbk
          replace hy0 := Aside0.mk hy0
          replace hy1 := Aside0.mk hy1
          go_wp2
          have hp := put5 (v0 := .slice A0 y0.length c0) (v1 := .slice A1 y1.length c1) (v2 := .int .i64 p) (v3 := .int .i64 q) (v4 := .slice A6 bl.length c6) hbk.out
          refine bodyPost_ret (results_cell_row rfl _ _ r 43 #[.slice A0 y0.length c0, .slice A1 y1.length c1, .int .i64 p, .int .i64 q, .slice A6 bl.length c6] (0, 0) _ rfl hp.1 Tryd.underlying43 rfl (by kernel_rfl)) rfl ?_
          obtain ⟨A8, c8, hr8⟩ := hRj.out
          have hkt := hp.2 r (Nat.le_refl _)
          refine ⟨⟨y0, y1, p, q, bl⟩, _, _, _, rfl, ⟨⟨lj, ej, ⟨?_⟩, ⟨_, _, hr8.keep (hkt.mono hbr (fun _ z => z)) (by decide) (by decide)⟩⟩, ⟨hFj.out.2.after (by rw [hr0.out]; exact hkt.below) hbw⟩, ⟨by rw [hr0.out]; exact hFj.out.1.two.keep hkt (by decide)⟩, by rw [hr0.out]; exact hFj.out.1.bl.keep hkt (by decide), ⟨?_⟩⟩⟩
          · rw [← hy0.out, ← hy1.out]
            exact hran1.out.bind ((hkn.out ▸ hran.out).bind (hran3.out.bind (hran4.out.bind (hran5.out.bind ((hjm.out ▸ hranj.out).bind (Ran.ret _ _ _))))))
          · refine ⟨fun a ha => ?_, fun a ha => ?_, hpq.out.1, hpq.out.2, fun b hb x hx => ((hbl.out b hb).2 x hx).ins (by decide), ?_, ?_, fun b hb => (hbl.out b hb).1⟩
            · replace ha : a ∈ y0 := ha
              rw [← hy0.out] at ha
              obtain ⟨z, hz, rfl⟩ := List.mem_map.1 ha
              exact (hks.out z hz).1
            · replace ha : a ∈ y1 := ha
              rw [← hy1.out] at ha
              obtain ⟨z, hz, rfl⟩ := List.mem_map.1 ha
              exact (hks.out z hz).2
            · show y0.length ≤ 48
              rw [← hy0.out, List.length_map, hkl.out, hkn.out]
              omega
            · show bl.length ≤ 40
              rw [hbll.out]
              omega
end Go.Proofs.YtijdmnjkiiemlaaDoor.H
