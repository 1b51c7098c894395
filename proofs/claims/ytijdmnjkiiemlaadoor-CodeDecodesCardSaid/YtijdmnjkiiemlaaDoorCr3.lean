/- Layer 3, walks: the reader's instruction. -/
import Derived.Test.YtijdmnjkiiemlaaDoorCr2
import Derived.Test.YtijdmnjkiiemlaaDoorBl
import Derived.Test.YtijdmnjkiiemlaaDoorCw6
namespace Go.Proofs.YtijdmnjkiiemlaaDoor.H
open Go.RowKit Go.Proofs.YtijdmnjkiiemlaaDoorW.PrintWords Go.Proofs.YtijdmnjkiiemlaaDoorW.PrintLast
set_option linter.unusedVariables false
set_option linter.unusedSimpArgs false

/-- an instruction with a part -/
def setF (x : SIns) (c n : Int) : SIns :=
  if c = 68 then { x with f1 := n } else if c = 65 then { x with f2 := n } else if c = 66 then { x with f3 := n } else if c = 77 then { x with f5 := n } else { x with f4 := n }
/-- a letter's part is read -/
def pLet (c : Int) (x : SIns) : List Int → PR SIns :=
  if c = 110 then pBind pSig fun n => pRet (setF x 78 n)
  else if c = 76 then pBind (pUp 4 9) fun n => pBind (pRep pNum n.toNat) fun a => pRet { x with f6 := x.f6 ++ a }
  else pBind pNum fun n => pRet (setF x c n)
def pLets (ls : List Int) (x : SIns) : Nat → List Int → PR SIns
  | 0 => pRet x
  | k + 1 => pBind (pLets ls x k) (pLet (rd ls (k : Int)))
def opIns (op : Int) : SIns := ⟨op, 0, 0, 0, 0, 0, []⟩
def pOp0 (op : Int) (l : List Int) : PR SIns := if partsL op = [] then .error 5 else .ok (opIns op, l)
def pOp (op : Int) : List Int → PR SIns := pBind (pOp0 op) fun x => pLets (partsL op) x (partsL op).length
theorem Ran.op0 (op : Int) (l : List Int) (e : Int) : Ran (pOp0 op) l e (opIns op) l (if partsL op = [] ∧ e = 0 then 5 else e) := by
  refine ⟨fun h => by rw [if_neg (fun q => h q.2)], fun h y r hp => ?_, fun h q hp => ?_⟩ <;> unfold pOp0 at hp <;> split at hp
  · injection hp
  · rename_i hne; injection hp with hp; injection hp with h1 h2; rw [if_neg (fun q => hne q.1)]; exact ⟨h, h1, h2⟩
  · rename_i heq; injection hp with hp; rw [if_pos ⟨heq, h⟩]; exact ⟨hp, by rw [← hp]; decide⟩
  · injection hp
def pIns : List Int → PR SIns := pBind pNum pOp

/-- an instruction in a block of its own -/
structure IsX (b0 : Nat) (W : World) (h : Nat) (x : SIns) (v : Value) : Prop where
  blk : W.heap[h]? = some (.cells (insC x v) 45 (0, 0))
  own : OwnAt (Kd.int .i64) 3 b0 W v x.f6
theorem IsX.keep {b0 b h : Nat} {W W1 : World} {x : SIns} {v : Value} (hx : IsX b0 W h x v) (k : KT ST b W W1) : IsX b0 W1 h x v := ⟨k.blk hx.blk (by decide), hx.own.keep k (by decide)⟩
theorem IsX.step {b0 h : Nat} {W W1 : World} {x : SIns} {v : Value} (hx : IsX b0 W h x v) (k : Bel W W1) : IsX b0 W1 h x v := ⟨(k.out.block h (blk_lt hx.blk)).trans hx.blk, hx.own.step k⟩
theorem IsX.set {b0 b h n : Nat} {W : World} {x x' : SIns} {v : Value} {m : Int} (hx : IsX b0 W h x v) (hc : (insC x v).setIfInBounds n (.int .i64 m) = insC x' v) (h6 : x'.f6 = x.f6) (hb : b ≤ h) : IsX b0 (W.setCell ⟨h, n, none⟩ (.int .i64 m)) h x' v ∧ KT [45] b W (W.setCell ⟨h, n, none⟩ (.int .i64 m)) := by
  have ks : KT [45] b W (W.setCell ⟨h, n, none⟩ (.int .i64 m)) := KT.set hx.blk (by decide) hb n _
  exact ⟨⟨(blk_set hx.blk n _).trans (by rw [hc]), h6 ▸ hx.own.keep ks (by decide)⟩, ks⟩
theorem IsX.setA {b0 b h : Nat} {W W1 : World} {x : SIns} {v v1 : Value} {a : List Int} (hx : IsX b0 W h x v) (k : KT [3] b W W1) (ho : OwnAt (Kd.int .i64) 3 b0 W1 v1 a) (hb : b ≤ h) : IsX b0 (W1.setCell ⟨h, 6, none⟩ v1) h { x with f6 := a } v1 ∧ KT [3, 45] b W (W1.setCell ⟨h, 6, none⟩ v1) := by
  have hb1 := k.blk hx.blk (by decide)
  have ks : KT [45] b W1 (W1.setCell ⟨h, 6, none⟩ v1) := KT.set hb1 (by decide) hb 6 _
  exact ⟨⟨(blk_set hb1 6 _).trans rfl, ho.keep ks (by decide)⟩, (k.mono (Nat.le_refl _) (by decide)).trans (ks.mono (Nat.le_refl _) (by decide))⟩
/-- an instruction is put into its cells -/
theorem put7 {W : World} {r : Nat} {x : SIns} {v : Value} {a0 a1 a2 a3 a4 a5 a6 : Value} (h : W.heap[r]? = some (.cells #[a0, a1, a2, a3, a4, a5, a6] 45 (0, 0))) :
    (((((((W.setCell ⟨r, 0, none⟩ (.int .i64 x.f0)).setCell ⟨r, 1, none⟩ (.int .i64 x.f1)).setCell ⟨r, 2, none⟩ (.int .i64 x.f2)).setCell ⟨r, 3, none⟩ (.int .i64 x.f3)).setCell ⟨r, 4, none⟩ (.int .i64 x.f4)).setCell ⟨r, 5, none⟩ (.int .i64 x.f5)).setCell ⟨r, 6, none⟩ v).heap[r]? = some (.cells (insC x v) 45 (0, 0)) ∧
    ∀ b, b ≤ r → KT [45] b W (((((((W.setCell ⟨r, 0, none⟩ (.int .i64 x.f0)).setCell ⟨r, 1, none⟩ (.int .i64 x.f1)).setCell ⟨r, 2, none⟩ (.int .i64 x.f2)).setCell ⟨r, 3, none⟩ (.int .i64 x.f3)).setCell ⟨r, 4, none⟩ (.int .i64 x.f4)).setCell ⟨r, 5, none⟩ (.int .i64 x.f5)).setCell ⟨r, 6, none⟩ v) := by
  have h0 := blk_put (cs' := #[.int .i64 x.f0, a1, a2, a3, a4, a5, a6]) h 0 (.int .i64 x.f0) rfl
  have h1 := blk_put (cs' := #[.int .i64 x.f0, .int .i64 x.f1, a2, a3, a4, a5, a6]) h0 1 (.int .i64 x.f1) rfl
  have h2 := blk_put (cs' := #[.int .i64 x.f0, .int .i64 x.f1, .int .i64 x.f2, a3, a4, a5, a6]) h1 2 (.int .i64 x.f2) rfl
  have h3 := blk_put (cs' := #[.int .i64 x.f0, .int .i64 x.f1, .int .i64 x.f2, .int .i64 x.f3, a4, a5, a6]) h2 3 (.int .i64 x.f3) rfl
  have h4 := blk_put (cs' := #[.int .i64 x.f0, .int .i64 x.f1, .int .i64 x.f2, .int .i64 x.f3, .int .i64 x.f4, a5, a6]) h3 4 (.int .i64 x.f4) rfl
  have h5 := blk_put (cs' := #[.int .i64 x.f0, .int .i64 x.f1, .int .i64 x.f2, .int .i64 x.f3, .int .i64 x.f4, .int .i64 x.f5, a6]) h4 5 (.int .i64 x.f5) rfl
  have h6 := blk_put (cs' := insC x v) h5 6 v rfl
  exact ⟨h6, fun b hb => ((((((KT.set h (by decide) hb 0 _).trans (KT.set h0 (by decide) hb 1 _)).trans (KT.set h1 (by decide) hb 2 _)).trans (KT.set h2 (by decide) hb 3 _)).trans (KT.set h3 (by decide) hb 4 _)).trans (KT.set h4 (by decide) hb 5 _)).trans (KT.set h5 (by decide) hb 6 _)⟩
/-- ints, of an instruction, and so many arguments -/
structure XOk (x : SIns) (n : Nat) : Prop where
  f0 : -9223372036854775808 ≤ x.f0 ∧ x.f0 ≤ 9223372036854775807
  f1 : -9223372036854775808 ≤ x.f1 ∧ x.f1 ≤ 9223372036854775807
  f2 : -9223372036854775808 ≤ x.f2 ∧ x.f2 ≤ 9223372036854775807
  f3 : -9223372036854775808 ≤ x.f3 ∧ x.f3 ≤ 9223372036854775807
  f4 : -9223372036854775808 ≤ x.f4 ∧ x.f4 ≤ 9223372036854775807
  f5 : -9223372036854775808 ≤ x.f5 ∧ x.f5 ≤ 9223372036854775807
  f6 : ∀ a ∈ x.f6, -9223372036854775808 ≤ a ∧ a ≤ 9223372036854775807
  len : x.f6.length ≤ n
theorem XOk.mono {x : SIns} {n m : Nat} (h : XOk x n) (hm : n ≤ m) : XOk x m := ⟨h.f0, h.f1, h.f2, h.f3, h.f4, h.f5, h.f6, Nat.le_trans h.len hm⟩
theorem XOk.set {x : SIns} {n : Nat} (h : XOk x n) (c : Int) {m : Int} (h0 : -9223372036854775808 ≤ m) (h1 : m ≤ 9223372036854775807) : XOk (setF x c m) n := by
  unfold setF
  (repeat' split)
  · exact ⟨h.f0, ⟨h0, h1⟩, h.f2, h.f3, h.f4, h.f5, h.f6, h.len⟩
  · exact ⟨h.f0, h.f1, ⟨h0, h1⟩, h.f3, h.f4, h.f5, h.f6, h.len⟩
  · exact ⟨h.f0, h.f1, h.f2, ⟨h0, h1⟩, h.f4, h.f5, h.f6, h.len⟩
  · exact ⟨h.f0, h.f1, h.f2, h.f3, h.f4, ⟨h0, h1⟩, h.f6, h.len⟩
  · exact ⟨h.f0, h.f1, h.f2, h.f3, ⟨h0, h1⟩, h.f5, h.f6, h.len⟩
theorem XOk.app {x : SIns} {n : Nat} (h : XOk x n) {a : List Int} (ha : ∀ y ∈ a, -9223372036854775808 ≤ y ∧ y ≤ 9223372036854775807) : XOk { x with f6 := x.f6 ++ a } (n + a.length) :=
  ⟨h.f0, h.f1, h.f2, h.f3, h.f4, h.f5, fun y hy => (List.mem_append.1 hy).elim (h.f6 y) (ha y), by have := h.len; simp only [List.length_append]; omega⟩

/-- what reading an instruction leaves -/
structure GotI (T : Nat) (base : Nat) (w : World) (g : Nat) (l : List Int) (e : Int) (x : SIns) (v : Value) (w' : World) : Prop where
  ran : ∃ l' e', Aside0 (Ran pIns l e x l' e') ∧ IsRA T base w' g l' e'
  kt : Aside0 (KT ST base w w')
  own : OwnAt (Kd.int .i64) 3 w.heap.size w' v x.f6
  ok : Aside0 (XOk x 12)

set_option maxHeartbeats 4000000 in
theorem ins_any (base g : Nat) (l : List Int) (e : Int) (w : World) (hG : GlobA base w) (hR : IsRA 69 base w g l e) :
    Calls Tryd.prog 52 #[.pointer (some ⟨g, 0, none⟩)] w fun ex w' => ∃ x v, ex = .returned (.agg (insC x v)) ∧ GotI 69 base w g l e x v w' := by
  obtain ⟨A, c, hr⟩ := hR.out
  have hbw := hr.lt
  have hB0 : Bel w (w.alloc (.cells #[.int .i64 0, .int .i64 0, .int .i64 0, .int .i64 0, .int .i64 0, .int .i64 0, .slice none 0 0] 45)) := (Bel.refl w).alloc _
  have hcall := Aside0.mk (number_any base g l e _ ⟨⟨A, c, hr.step hB0⟩⟩)
  replace hr := Aside0.mk hr
  go_enter Tryd.func52, Tryd.ntmps52
  go_upto_region 2 with (go_at_call 51; ((with_reducible refine hcall.out.mono ?_); rintro ex w' ⟨n, rfl, hT⟩))
  have hK1 : KT ST base w w' := (KT.of_bel hB0 hbw ST).trans hT.kt.out
  have hres := hT.kt.out.blk (heap_alloc_new w (.cells #[.int .i64 0, .int .i64 0, .int .i64 0, .int .i64 0, .int .i64 0, .int .i64 0, .slice none 0 0] 45)) (by decide)
  have hB1 : Bel w' (w'.alloc (.cells #[.int .i64 n, .int .i64 0, .int .i64 0, .int .i64 0, .int .i64 0, .int .i64 0, .slice none 0 0] 45)) := (Bel.refl w').alloc _
  have hX : IsX w.heap.size (w'.alloc (.cells #[.int .i64 n, .int .i64 0, .int .i64 0, .int .i64 0, .int .i64 0, .int .i64 0, .slice none 0 0] 45)) w'.heap.size (opIns n) (.slice none 0 0) := ⟨heap_alloc_new w' _, OwnAt.nil _ _ _ _⟩
  have hres1 := (hB1.out.block _ (blk_lt hres)).trans hres
  have hwh := hK1.size
  have hlt1 := blk_lt hres
  generalize w'.alloc (.cells #[.int .i64 n, .int .i64 0, .int .i64 0, .int .i64 0, .int .i64 0, .int .i64 0, .slice none 0 0] 45) = wa at hB1 hX hres1 ⊢
  have hKa := Aside0.mk (hK1.trans (KT.of_bel hB1 (Nat.le_trans hbw hwh) ST))
  obtain ⟨l1, e1, hran1, hR1, hz1⟩ := hT.ran
  have hn0 := hT.ge
  have hn1 := hT.le
  obtain ⟨A1, c1, hr1⟩ := hR1.out
  replace hr1 := Aside0.mk (hr1.step hB1)
  obtain ⟨h, hh⟩ : ∃ h, w'.heap.size = h := ⟨_, rfl⟩
  obtain ⟨r, hr0⟩ : ∃ r, w.heap.size = r := ⟨_, rfl⟩
  rw [hh] at hX hwh hlt1 ⊢
  rw [hr0] at hres1 hX hwh hlt1 ⊢
  have hbr : base ≤ r := by rw [← hr0]; exact hbw
  replace hh := Aside0.mk hh
  have hne : r ≠ h := by omega
  have hGa : GlobA base wa := ⟨hG.out.below hKa.out.below⟩
  obtain ⟨s, ls, hP, hl3⟩ := txt n
  have hsz := hP.sz
  replace hP := Aside0.mk hP
  replace hres1 := Aside0.mk hres1
  have x0 : wa.cell? ⟨h, 0, none⟩ = some (.int .i64 n) := blk_cell hX.blk 0
  have y1 : wa.cell? ⟨g, 1, none⟩ = some (.int .i64 e1) := blk_cell hr1.out.blk 1
  have g1 := blk_frozen hr1.out.blk 1
  replace hX := Aside0.mk hX
  clear hK1 hres hB1 hcall hr hB0 hT hR1
  go_upto_region 3 with (go_at_call 17; ((with_reducible refine (Parts_txt hP.out hGa).mono ?_); rintro ex w' ⟨rfl, rfl⟩))
  go_cut [21] (fun t W => ∃ b, t = .bool b ∧ Aside0 (b = decide (ls = [] ∧ e1 = 0)) ∧ wa = W)
  case first =>
    by_cases hl0 : ls = []
    · have q1 : s.toList = [] := by rw [ByteArray.toList_eq]; exact List.eq_nil_of_length_eq_zero (by rw [data_length, hsz, hl0]; rfl)
      have q2 : s.toList.isEmpty = true := by rw [q1]; rfl
      by_cases he : e1 = 0
      · have b1 : (e1 == 0) = true := by simpa using he
        have hb : Aside0 (decide (ls = [] ∧ e1 = 0) = true) := ⟨decide_eq_true ⟨hl0, he⟩⟩
        replace he := Aside0.mk he
        replace hl0 := Aside0.mk hl0
        go_wp2
        go_meet
        case rel => exact ⟨_, rfl, ⟨hb.out.symm⟩, rfl⟩
      · have b1 : (e1 == 0) = false := by simpa using he
        have hb : Aside0 (decide (ls = [] ∧ e1 = 0) = false) := ⟨decide_eq_false (fun q => he q.2)⟩
        replace he := Aside0.mk he
        replace hl0 := Aside0.mk hl0
        go_wp2
        go_meet
        case rel => exact ⟨_, rfl, ⟨hb.out.symm⟩, rfl⟩
    · have q1 : ¬ s.toList = [] := by rw [ByteArray.toList_eq]; intro q; have := data_length s; rw [q, hsz] at this; exact hl0 (List.eq_nil_of_length_eq_zero this.symm)
      have q2 : s.toList.isEmpty = false := by simpa using q1
      have hb : Aside0 (decide (ls = [] ∧ e1 = 0) = false) := ⟨decide_eq_false (fun q => hl0 q.1)⟩
      replace hl0 := Aside0.mk hl0
      go_wp2
      go_meet
      case rel => exact ⟨_, rfl, ⟨hb.out.symm⟩, rfl⟩
  case rest =>
    obtain ⟨b, rfl, hb, rfl⟩ := hcut
    go_upto_if 21 with (fail)
    go_cut [22] (fun _ W => Aside0 (IsR 69 base W g l1 (if ls = [] ∧ e1 = 0 then 5 else e1) A1 c1 ∧ KT ST base w W ∧ IsX r W h (opIns n) (.slice none 0 0) ∧ W.heap[r]? = wa.heap[r]?))
    case first =>
      cases b with
      | true =>
        have hc := Aside0.mk (of_decide_eq_true hb.out.symm)
        have hs := Aside0.mk (hr1.out.setE (by decide) 5)
        go_wp2
        go_meet
        case rel => exact ⟨by rw [if_pos hc.out]; exact hs.out.1, hKa.out.trans hs.out.2, hX.out.keep hs.out.2, (hs.out.2.blk hres1.out (by decide)).trans hres1.out.symm⟩
      | false =>
        have hc := Aside0.mk (of_decide_eq_false hb.out.symm)
        go_wp2
        go_meet
        case rel => exact ⟨by rw [if_neg hc.out]; exact hr1.out, hKa.out, hX.out, rfl⟩
    case rest =>
      obtain ⟨hrc, hKc, hXc, hrs⟩ := hcut.out
      have hop := Aside0.mk (Ran.op0 n l1 e1)
      rw [hP.out.is] at hop
      obtain ⟨e2, he2⟩ : ∃ e2, (if ls = [] ∧ e1 = 0 then 5 else e1) = e2 := ⟨_, rfl⟩
      rw [he2] at hrc hop
      clear hcut he2 hb x0 y1 g1 hr1 hX hz1 b
      replace hrs := Aside0.mk hrs
      replace hKc := Aside0.mk hKc
      replace hXc := Aside0.mk hXc
      replace hrc := Aside0.mk hrc
      replace hr0 := Aside0.mk hr0
      go_wp2
      go_loopw [27] (fun i W => ∃ (k : Nat) (x : SIns) (v : Value) (lk : List Int) (ek : Int), k ≤ ls.length ∧ i = .int .i64 k ∧ Aside0 (Ran (pLets ls (opIns n) k) l1 e2 x lk ek) ∧ IsRA 69 base W g lk ek ∧ Aside0 (IsX r W h x v ∧ KT ST base w W ∧ W.heap[r]? = wa.heap[r]?) ∧ Aside0 (XOk x (4 * k))) (fun i _ => ls.length - (intOf i).toNat)
      case atStart => exact ⟨0, opIns n, .slice none 0 0, l1, e2, by omega, rfl, ⟨Ran.ret _ _ _⟩, ⟨_, _, hrc.out⟩, ⟨hXc.out, hKc.out, hrs.out⟩, ⟨⟨⟨hn0, hn1⟩, by simp [opIns], by simp [opIns], by simp [opIns], by simp [opIns], by simp [opIns], by simp [opIns], by simp [opIns]⟩⟩⟩
      case round =>
        clear hrc hKc hXc hrs
        obtain ⟨k, x, v, lk, ek, hk, rfl, hran, hR, hXK, hok⟩ := hrel
        have hfx := fun j => blk_frozen hXK.out.1.blk j
        replace hfx := Aside0.mk hfx
        by_cases hlt : k < ls.length
        · have hlet := hP.out.is ▸ partsL_at n k (by rw [hP.out.is]; exact hlt)
          have hidx := fun h => hP.out.at_ k hlt h
          rcases hlet with hc | hc | hc | hc | hc | hc | hc
          · skip
            rw [hc] at hidx
            replace hc := Aside0.mk hc
            have hnum := Aside0.mk (number_any base g lk ek wr hR)
            go_wp2_with (first | (go_at_call 59; ((with_reducible refine (field_n _ 68 1 _ rfl).mono ?_); rintro ex w' ⟨rfl, rfl⟩)) | (go_at_call 51; ((with_reducible refine hnum.out.mono ?_); rintro ex w' ⟨m, rfl, hT⟩; have fz : w'.frozen? ⟨h, 1, none⟩ = false := blk_frozen (hXK.out.1.keep hT.kt.out).blk 1; have cz : w'.cell? ⟨h, 1, none⟩ = some (.int .i64 x.f1) := blk_cell (hXK.out.1.keep hT.kt.out).blk 1)))
            go_roundw
            case rel =>
              obtain ⟨l2, e3, hran2, hR2, hz2⟩ := hT.ran
              obtain ⟨A2, c2, hr2⟩ := hR2.out
              have hs := IsX.set (x' := setF x 68 m) (b := r) (m := m) (n := 1) (hXK.out.1.keep hT.kt.out) rfl rfl (Nat.le_of_lt hlt1)
              have hk3 := (hXK.out.2.1.trans hT.kt.out)
              refine ⟨k + 1, setF x 68 m, v, l2, e3, by omega, by go_num, ⟨?_⟩, ⟨_, _, hr2.keep (hs.2.mono hbr (fun _ q => q)) (by decide) (by decide)⟩, ⟨hs.1, hk3.after (by rw [hr0.out]; exact hs.2.below) hbw, ?_⟩, ⟨(hok.out.set 68 hT.ge hT.le).mono (by omega)⟩⟩
              · refine hran.out.bind ?_
                rw [hc.out]
                exact hran2.out.bind (Ran.ret _ _ _)
              · exact (Below.heap_setCell w' ⟨h, 1, none⟩ _ r hne).trans ((hT.kt.out.blk (hXK.out.2.2.trans hres1.out) (by decide)).trans hres1.out.symm)
            case measure => simp [intOf]; omega
          · skip
            rw [hc] at hidx
            replace hc := Aside0.mk hc
            have hnum := Aside0.mk (number_any base g lk ek wr hR)
            go_wp2_with (first | (go_at_call 59; ((with_reducible refine (field_n _ 65 2 _ rfl).mono ?_); rintro ex w' ⟨rfl, rfl⟩)) | (go_at_call 51; ((with_reducible refine hnum.out.mono ?_); rintro ex w' ⟨m, rfl, hT⟩; have fz : w'.frozen? ⟨h, 2, none⟩ = false := blk_frozen (hXK.out.1.keep hT.kt.out).blk 2; have cz : w'.cell? ⟨h, 2, none⟩ = some (.int .i64 x.f2) := blk_cell (hXK.out.1.keep hT.kt.out).blk 2)))
            go_roundw
            case rel =>
              obtain ⟨l2, e3, hran2, hR2, hz2⟩ := hT.ran
              obtain ⟨A2, c2, hr2⟩ := hR2.out
              have hs := IsX.set (x' := setF x 65 m) (b := r) (m := m) (n := 2) (hXK.out.1.keep hT.kt.out) rfl rfl (Nat.le_of_lt hlt1)
              have hk3 := (hXK.out.2.1.trans hT.kt.out)
              refine ⟨k + 1, setF x 65 m, v, l2, e3, by omega, by go_num, ⟨?_⟩, ⟨_, _, hr2.keep (hs.2.mono hbr (fun _ q => q)) (by decide) (by decide)⟩, ⟨hs.1, hk3.after (by rw [hr0.out]; exact hs.2.below) hbw, ?_⟩, ⟨(hok.out.set 65 hT.ge hT.le).mono (by omega)⟩⟩
              · refine hran.out.bind ?_
                rw [hc.out]
                exact hran2.out.bind (Ran.ret _ _ _)
              · exact (Below.heap_setCell w' ⟨h, 2, none⟩ _ r hne).trans ((hT.kt.out.blk (hXK.out.2.2.trans hres1.out) (by decide)).trans hres1.out.symm)
            case measure => simp [intOf]; omega
          · skip
            rw [hc] at hidx
            replace hc := Aside0.mk hc
            have hnum := Aside0.mk (number_any base g lk ek wr hR)
            go_wp2_with (first | (go_at_call 59; ((with_reducible refine (field_n _ 66 3 _ rfl).mono ?_); rintro ex w' ⟨rfl, rfl⟩)) | (go_at_call 51; ((with_reducible refine hnum.out.mono ?_); rintro ex w' ⟨m, rfl, hT⟩; have fz : w'.frozen? ⟨h, 3, none⟩ = false := blk_frozen (hXK.out.1.keep hT.kt.out).blk 3; have cz : w'.cell? ⟨h, 3, none⟩ = some (.int .i64 x.f3) := blk_cell (hXK.out.1.keep hT.kt.out).blk 3)))
            go_roundw
            case rel =>
              obtain ⟨l2, e3, hran2, hR2, hz2⟩ := hT.ran
              obtain ⟨A2, c2, hr2⟩ := hR2.out
              have hs := IsX.set (x' := setF x 66 m) (b := r) (m := m) (n := 3) (hXK.out.1.keep hT.kt.out) rfl rfl (Nat.le_of_lt hlt1)
              have hk3 := (hXK.out.2.1.trans hT.kt.out)
              refine ⟨k + 1, setF x 66 m, v, l2, e3, by omega, by go_num, ⟨?_⟩, ⟨_, _, hr2.keep (hs.2.mono hbr (fun _ q => q)) (by decide) (by decide)⟩, ⟨hs.1, hk3.after (by rw [hr0.out]; exact hs.2.below) hbw, ?_⟩, ⟨(hok.out.set 66 hT.ge hT.le).mono (by omega)⟩⟩
              · refine hran.out.bind ?_
                rw [hc.out]
                exact hran2.out.bind (Ran.ret _ _ _)
              · exact (Below.heap_setCell w' ⟨h, 3, none⟩ _ r hne).trans ((hT.kt.out.blk (hXK.out.2.2.trans hres1.out) (by decide)).trans hres1.out.symm)
            case measure => simp [intOf]; omega
          · skip
            rw [hc] at hidx
            replace hc := Aside0.mk hc
            have hnum := Aside0.mk (number_any base g lk ek wr hR)
            go_wp2_with (first | (go_at_call 59; ((with_reducible refine (field_n _ 77 5 _ rfl).mono ?_); rintro ex w' ⟨rfl, rfl⟩)) | (go_at_call 51; ((with_reducible refine hnum.out.mono ?_); rintro ex w' ⟨m, rfl, hT⟩; have fz : w'.frozen? ⟨h, 5, none⟩ = false := blk_frozen (hXK.out.1.keep hT.kt.out).blk 5; have cz : w'.cell? ⟨h, 5, none⟩ = some (.int .i64 x.f5) := blk_cell (hXK.out.1.keep hT.kt.out).blk 5)))
            go_roundw
            case rel =>
              obtain ⟨l2, e3, hran2, hR2, hz2⟩ := hT.ran
              obtain ⟨A2, c2, hr2⟩ := hR2.out
              have hs := IsX.set (x' := setF x 77 m) (b := r) (m := m) (n := 5) (hXK.out.1.keep hT.kt.out) rfl rfl (Nat.le_of_lt hlt1)
              have hk3 := (hXK.out.2.1.trans hT.kt.out)
              refine ⟨k + 1, setF x 77 m, v, l2, e3, by omega, by go_num, ⟨?_⟩, ⟨_, _, hr2.keep (hs.2.mono hbr (fun _ q => q)) (by decide) (by decide)⟩, ⟨hs.1, hk3.after (by rw [hr0.out]; exact hs.2.below) hbw, ?_⟩, ⟨(hok.out.set 77 hT.ge hT.le).mono (by omega)⟩⟩
              · refine hran.out.bind ?_
                rw [hc.out]
                exact hran2.out.bind (Ran.ret _ _ _)
              · exact (Below.heap_setCell w' ⟨h, 5, none⟩ _ r hne).trans ((hT.kt.out.blk (hXK.out.2.2.trans hres1.out) (by decide)).trans hres1.out.symm)
            case measure => simp [intOf]; omega
          · skip
            rw [hc] at hidx
            replace hc := Aside0.mk hc
            have hnum := Aside0.mk (number_any base g lk ek wr hR)
            go_wp2_with (first | (go_at_call 59; ((with_reducible refine (field_n _ 78 4 _ rfl).mono ?_); rintro ex w' ⟨rfl, rfl⟩)) | (go_at_call 51; ((with_reducible refine hnum.out.mono ?_); rintro ex w' ⟨m, rfl, hT⟩; have fz : w'.frozen? ⟨h, 4, none⟩ = false := blk_frozen (hXK.out.1.keep hT.kt.out).blk 4; have cz : w'.cell? ⟨h, 4, none⟩ = some (.int .i64 x.f4) := blk_cell (hXK.out.1.keep hT.kt.out).blk 4)))
            go_roundw
            case rel =>
              obtain ⟨l2, e3, hran2, hR2, hz2⟩ := hT.ran
              obtain ⟨A2, c2, hr2⟩ := hR2.out
              have hs := IsX.set (x' := setF x 78 m) (b := r) (m := m) (n := 4) (hXK.out.1.keep hT.kt.out) rfl rfl (Nat.le_of_lt hlt1)
              have hk3 := (hXK.out.2.1.trans hT.kt.out)
              refine ⟨k + 1, setF x 78 m, v, l2, e3, by omega, by go_num, ⟨?_⟩, ⟨_, _, hr2.keep (hs.2.mono hbr (fun _ q => q)) (by decide) (by decide)⟩, ⟨hs.1, hk3.after (by rw [hr0.out]; exact hs.2.below) hbw, ?_⟩, ⟨(hok.out.set 78 hT.ge hT.le).mono (by omega)⟩⟩
              · refine hran.out.bind ?_
                rw [hc.out]
                exact hran2.out.bind (Ran.ret _ _ _)
              · exact (Below.heap_setCell w' ⟨h, 4, none⟩ _ r hne).trans ((hT.kt.out.blk (hXK.out.2.2.trans hres1.out) (by decide)).trans hres1.out.symm)
            case measure => simp [intOf]; omega
          · -- a signed number
            rw [hc] at hidx
            replace hc := Aside0.mk hc
            have hnum := Aside0.mk (take_sig base g lk ek wr hR)
            go_wp2_with (go_at_call 62; ((with_reducible refine hnum.out.mono ?_); rintro ex w' ⟨m, rfl, hT⟩; have fz : w'.frozen? ⟨h, 4, none⟩ = false := blk_frozen (hXK.out.1.keep hT.kt.out).blk 4; have cz : w'.cell? ⟨h, 4, none⟩ = some (.int .i64 x.f4) := blk_cell (hXK.out.1.keep hT.kt.out).blk 4))
            go_roundw
            case rel =>
              obtain ⟨l2, e3, hran2, hR2, hz2⟩ := hT.ran
              obtain ⟨A2, c2, hr2⟩ := hR2.out
              have hs := IsX.set (x' := setF x 78 m) (b := r) (m := m) (n := 4) (hXK.out.1.keep hT.kt.out) rfl rfl (Nat.le_of_lt hlt1)
              have hk3 := (hXK.out.2.1.trans hT.kt.out)
              refine ⟨k + 1, setF x 78 m, v, l2, e3, by omega, by go_num, ⟨?_⟩, ⟨_, _, hr2.keep (hs.2.mono hbr (fun _ q => q)) (by decide) (by decide)⟩, ⟨hs.1, hk3.after (by rw [hr0.out]; exact hs.2.below) hbw, ?_⟩, ⟨(hok.out.set 78 hT.ge hT.le).mono (by omega)⟩⟩
              · refine hran.out.bind ?_
                rw [hc.out]
                exact hran2.out.bind (Ran.ret _ _ _)
              · exact (Below.heap_setCell w' ⟨h, 4, none⟩ _ r hne).trans ((hT.kt.out.blk (hXK.out.2.2.trans hres1.out) (by decide)).trans hres1.out.symm)
            case measure => simp [intOf]; omega
          · -- the arguments
            rw [hc] at hidx
            replace hc := Aside0.mk hc
            have hnum := Aside0.mk (within_any 4 9 (by decide) (by decide) (by decide) (by decide) (by decide) base g lk ek wr hR)
            go_wp2_with (go_at_call 35; ((with_reducible refine hnum.out.mono ?_); rintro ex w' ⟨m, rfl, hT, hm4⟩))
            obtain ⟨l2, e3, hran2, hR2, hz2⟩ := hT.ran
            have hX2 := hXK.out.1.keep hT.kt.out
            have hK2 := Aside0.mk (hXK.out.2.1.trans hT.kt.out)
            have hr2 := Aside0.mk ((hT.kt.out.blk (hXK.out.2.2.trans hres1.out) (by decide)).trans hres1.out.symm)
            replace hX2 := Aside0.mk hX2
            clear hT hnum
            go_loopw [48] (fun i W => ∃ (j : Nat) (a : List Int) (va : Value) (lj : List Int) (ej : Int), j ≤ m.toNat ∧ i = .int .i64 j ∧ Aside0 (Ran (pRep pNum j) l2 e3 a lj ej) ∧ IsRA 69 base W g lj ej ∧ Aside0 (IsX r W h { x with f6 := x.f6 ++ a } va ∧ KT ST base w W ∧ W.heap[r]? = wa.heap[r]?) ∧ Aside0 ((∀ y ∈ a, -9223372036854775808 ≤ y ∧ y ≤ 9223372036854775807) ∧ a.length = j)) (fun i _ => m.toNat - (intOf i).toNat)
            case atStart => exact ⟨0, [], v, l2, e3, by omega, rfl, ⟨Ran.rep0 _ _ _⟩, hR2, ⟨by simpa using hX2.out, hK2.out, hr2.out⟩, ⟨by simp, rfl⟩⟩
            case round =>
              clear hR2
              obtain ⟨j, a, va, lj, ej, hj, rfl, hranj, hRj, hXj, haj⟩ := hrel
              by_cases hlj : (j : Int) < m
              · have hnum := Aside0.mk (fun (W : World) (q : Bel wr W) => number_any base g lj ej W (by obtain ⟨A3, c3, hr3⟩ := hRj.out; exact ⟨⟨A3, c3, hr3.step q⟩⟩))
                obtain ⟨y6, hy6⟩ : ∃ y, Aside0 (x.f6 ++ a = y) := ⟨_, ⟨rfl⟩⟩
                have hal : y6.length ≤ 1000000 := by rw [← hy6.out, List.length_append, haj.out.2]; have := hok.out.len; omega
                rw [hy6.out] at hXj
                have hz6 : OwnAt (Kd.int .i64) 3 r wr va y6 := hXj.out.1.own
                obtain ⟨A6, c6, rfl, _, _⟩ := hz6.reads
                have cz : wr.cell? ⟨h, 6, none⟩ = some (.slice A6 y6.length c6) := blk_cell hXj.out.1.blk 6
                go_upto_region 16 with (fail)
                have hXd := Aside0.mk (hXj.out.1.step ((Bel.refl wr).drewN 1))
                have hbr2 : base ≤ wr.heap.size := Nat.le_trans hbw hXj.out.2.1.size
                have hrr2 : r ≤ wr.heap.size := hr0.out ▸ hXj.out.2.1.size
                go_region_law (first | (refine goes_ (f := 51) Tryd.func51 (by kernel_rfl) rfl #[.pointer (some ⟨g, 0, none⟩)] rfl rfl rfl (by simp only [List.map_toArray, List.map_cons, List.map_nil]; rfl) ?_; refine (hnum.out _ ((Bel.refl wr).drewN 1)).mono ?_; rintro ex w' ⟨m1, rfl, hT⟩; refine ⟨_, rfl, ?_⟩; have hX3 := hXd.out.keep hT.kt.out; have cz' : w'.cell? ⟨h, 6, none⟩ = some (.slice A6 y6.length c6) := blk_cell hX3.blk 6; have cl' : h < w'.heap.size := blk_lt hX3.blk; have cz3 : (w'.alloc (.cells #[.int .i64 m1] 3)).cell? ⟨h, 6, none⟩ = some (.slice A6 y6.length c6) := blk_cell (hX3.step ((Bel.refl w').alloc _)).blk 6) | (refine app_int_at (xs := y6) m1 [.int .i64 m1] hX3.own ⟨rfl⟩ (Nat.le_trans hrr2 hT.kt.out.size) rfl _ _ rfl ?_ rfl rfl ?_; (omega); intro v1 w1 hO hK1; obtain ⟨A7, c7, rfl, _, _⟩ := hO.reads; have fz' : w1.frozen? ⟨h, 6, none⟩ = false := blk_frozen (hK1.blk hX3.blk (by decide)) 6; have cz'' : w1.cell? ⟨h, 6, none⟩ = some (.slice A6 y6.length c6) := blk_cell (hK1.blk hX3.blk (by decide)) 6))
                all_goals
                  have hs := hX3.setA hK1 hO (Nat.le_of_lt hlt1)
                  have hrw := (Below.heap_setCell w1 ⟨h, 6, none⟩ (.slice A7 (y6 ++ [m1]).length c7) r hne).trans ((hK1.blk (hT.kt.out.blk ((((Bel.refl wr).drewN 1).out.block r (blk_lt (hXj.out.2.2.trans hres1.out))).trans (hXj.out.2.2.trans hres1.out)) (by decide)) (by decide)).trans hres1.out.symm)
                  simp only [List.length_append, List.length_cons, List.length_nil, Nat.zero_add] at hs hrw
                  have hkk := ((hXj.out.2.1.trans (KT.of_bel ((Bel.refl wr).drewN 1) hbr2 ST)).trans hT.kt.out).after (by rw [hr0.out]; exact hs.2.below) hbw
                  replace hs := Aside0.mk hs
                  replace hrw := Aside0.mk hrw
                  replace hkk := Aside0.mk hkk
                  go_wp2
                  go_roundw
                  case rel =>
                    obtain ⟨l4, e4, hran4, hR4, hz4⟩ := hT.ran
                    obtain ⟨A4, c4, hr4⟩ := hR4.out
                    refine ⟨j + 1, a ++ [m1], .slice A7 (y6.length + 1) c7, l4, e4, by omega, by go_num, ⟨hranj.out.rep1 hran4.out⟩, ⟨_, _, hr4.keep (hs.out.2.mono hbr (fun _ q => q)) (by decide) (by decide)⟩, ⟨?_, hkk.out, hrw.out⟩, ⟨fun y hy => ?_, by rw [List.length_append, haj.out.2]; rfl⟩⟩
                    · rw [← List.append_assoc, hy6.out]
                      exact hs.out.1
                    · rcases List.mem_append.1 hy with hy | hy
                      · exact haj.out.1 y hy
                      · rw [List.mem_singleton.1 hy]
                        exact ⟨hT.ge, hT.le⟩
                  case measure => simp [intOf]; omega
              · have hjm : j = m.toNat := by omega
                go_wp2
                go_roundw
                case rel => exact ⟨k + 1, { x with f6 := x.f6 ++ a }, va, lj, ej, by omega, by go_num, ⟨hran.out.bind (by rw [hc.out]; exact hran2.out.bind ((hjm ▸ hranj.out).bind (Ran.ret _ _ _)))⟩, hRj, hXj, ⟨(hok.out.app haj.out.1).mono (by have := haj.out.2; omega)⟩⟩
                case measure => simp [intOf]; omega
        · obtain ⟨A6, c6, rfl, _, _⟩ := hXK.out.1.own.reads
          have z0 : wr.cell? ⟨h, 0, none⟩ = some (.int .i64 x.f0) := blk_cell hXK.out.1.blk 0
          have z1 : wr.cell? ⟨h, 1, none⟩ = some (.int .i64 x.f1) := blk_cell hXK.out.1.blk 1
          have z2 : wr.cell? ⟨h, 2, none⟩ = some (.int .i64 x.f2) := blk_cell hXK.out.1.blk 2
          have z3 : wr.cell? ⟨h, 3, none⟩ = some (.int .i64 x.f3) := blk_cell hXK.out.1.blk 3
          have z4 : wr.cell? ⟨h, 4, none⟩ = some (.int .i64 x.f4) := blk_cell hXK.out.1.blk 4
          have z5 : wr.cell? ⟨h, 5, none⟩ = some (.int .i64 x.f5) := blk_cell hXK.out.1.blk 5
          have z6 : wr.cell? ⟨h, 6, none⟩ = some (.slice A6 x.f6.length c6) := blk_cell hXK.out.1.blk 6
          have hrb := hXK.out.2.2.trans hres1.out
          have w0 : wr.cell? ⟨r, 0, none⟩ = some (.int .i64 0) := blk_cell hrb 0
          have w1 : wr.cell? ⟨r, 1, none⟩ = some (.int .i64 0) := blk_cell hrb 1
          have w2 : wr.cell? ⟨r, 2, none⟩ = some (.int .i64 0) := blk_cell hrb 2
          have w3 : wr.cell? ⟨r, 3, none⟩ = some (.int .i64 0) := blk_cell hrb 3
          have w4 : wr.cell? ⟨r, 4, none⟩ = some (.int .i64 0) := blk_cell hrb 4
          have w5 : wr.cell? ⟨r, 5, none⟩ = some (.int .i64 0) := blk_cell hrb 5
          have w6 : wr.cell? ⟨r, 6, none⟩ = some (.slice none 0 0) := blk_cell hrb 6
          have q0 := blk_frozen hrb 0
          have q1 := blk_frozen hrb 1
          have q2 := blk_frozen hrb 2
          have q3 := blk_frozen hrb 3
          have q4 := blk_frozen hrb 4
          have q5 := blk_frozen hrb 5
          have q6 := blk_frozen hrb 6
          replace hrb := Aside0.mk hrb
          go_wp2
          have hp := put7 (v := .slice A6 x.f6.length c6) (x := x) hrb.out
          refine bodyPost_ret (results_cell_row rfl _ _ r 45 (insC x (.slice A6 x.f6.length c6)) (0, 0) _ rfl hp.1 Tryd.underlying45 rfl (by kernel_rfl)) rfl ?_
          obtain ⟨A2, c2, hr2⟩ := hR.out
          have hkk : k = ls.length := by omega
          refine ⟨x, _, rfl, ⟨⟨lk, ek, ⟨?_⟩, ⟨_, _, hr2.keep (hp.2 base hbr) (by decide) (by decide)⟩⟩, ⟨hXK.out.2.1.after (by rw [hr0.out]; exact (hp.2 r (Nat.le_refl _)).below) hbw⟩, ?_, ⟨hok.out.mono (by omega)⟩⟩⟩
          · rw [hkk] at hran
            refine hran1.out.bind (hop.out.bind ?_)
            rw [hP.out.is]
            exact hran.out
          · rw [hr0.out]
            exact hXK.out.1.own.keep (hp.2 base hbr) (by decide)
end Go.Proofs.YtijdmnjkiiemlaaDoor.H
