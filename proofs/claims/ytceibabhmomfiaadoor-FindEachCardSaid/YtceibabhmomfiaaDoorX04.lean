/- Texts of this work, joined: Vh, Pr1. Conditions: each stands with its theorem. -/
import Derived.Test.YtceibabhmomfiaaDoorX02
import Derived.Test.YtceibabhmomfiaaDoorX03
/- Layer 1, more walks: Get, GetSigned, the comparisons, lists. -/
namespace Go.Proofs.YtceibabhmomfiaaDoor.H
open Go.RowKit Go.Proofs.YtceibabhmomfiaaDoorW.PrintWords
set_option linter.unusedVariables false
set_option linter.unusedSimpArgs false

theorem trip2 {a b c : Int} {a' b' c' : Int} (h1 : a = a') (h2 : b = b') (h3 : c = c') : Ending.returned (.tuple #[.int .i64 a, .int .i64 b, .int .i64 c]) = .returned (.tuple #[.int .i64 a', .int .i64 b', .int .i64 c']) := by rw [h1, h2, h3]

set_option maxHeartbeats 400000 in
theorem Get_any (A : Option Addr) (c : Nat) (l : List Int) (w : World) (hc : l.length ≤ c) (HR : RdB w A l) (hby : Bytes l) (hl : l.length ≤ 9223372036854775807) :
    Calls Tryd.prog 59 #[.slice A l.length c] w fun e w' => e = .returned (.tuple #[.int .i64 (getL 9 l).1, .int .i64 (getL 9 l).2.1, .int .i64 (getL 9 l).2.2]) ∧ w = w' := by
  have hg := getL_got 9 (by decide) l hby.out
  have g0 := hg.ge
  have g1 := hg.le9 (by decide)
  have hcall := get_any A c l 9 w (by decide) (by decide) hc HR hby hl
  obtain ⟨p, hp⟩ : ∃ p, getL 9 l = p := ⟨_, rfl⟩
  rw [hp] at hcall g0 g1 ⊢
  clear hp hg
  obtain ⟨x, y, z⟩ := p
  replace hcall := Aside0.mk hcall
  go_enter Tryd.func59, Tryd.ntmps59
  go_wp2_with (go_at_call 85; refine hcall.out.mono ?_; rintro e w' ⟨rfl, rfl⟩)
  go_ret3
  exact ⟨rfl, rfl⟩

theorem list_same (a b : List Int) (hl : a.length = b.length) (h : ∀ i : Nat, i < a.length → rd a (i : Int) = rd b (i : Int)) : a = b := by
  refine List.ext_getElem hl fun i h1 h2 => ?_
  have := h i h1
  simpa [rd, List.getD_eq_getElem?_getD, List.getElem?_eq_getElem h1, List.getElem?_eq_getElem h2] using this

set_option maxHeartbeats 400000 in
theorem Same_any (A0 A1 : Option Addr) (c0 c1 : Nat) (l0 l1 : List Int) (w : World) (H0 : Rd (Kd.int .u8) w A0 l0) (H1 : Rd (Kd.int .u8) w A1 l1) (hl0 : l0.length ≤ 9223372036854775807) :
    Calls Tryd.prog 18 #[.slice A0 l0.length c0, .slice A1 l1.length c1] w fun e w' => e = .returned (.bool (decide (l0 = l1))) ∧ Drawn0 w w' := by
  by_cases hl : l0.length = l1.length
  · have b1 : ((l0.length : Int) == (l1.length : Int)) = true := by simp [hl]
    have b2 : ((l0.length : Int) != (l1.length : Int)) = false := by simp [hl]
    have b3 : (l0.length == l1.length) = true := by simp [hl]
    have hl' := Aside0.mk hl
    clear hl
    go_enter Tryd.func18, Tryd.ntmps18
    go_wp2
    go_loopw [5] (fun i W => ∃ k : Nat, k ≤ l0.length ∧ i = .int .i64 k ∧ Aside0 (∀ j : Nat, j < k → rd l0 (j : Int) = rd l1 (j : Int)) ∧ Drawn0 w W) (fun i _ => l0.length - (intOf i).toNat)
    case atStart => exact ⟨0, by omega, rfl, ⟨fun j h => by omega⟩, Drawn0.refl _⟩
    case round =>
      obtain ⟨k, hk, rfl, hs, ⟨n, rfl⟩⟩ := hrel
      by_cases hlt : k < l0.length
      · obtain ⟨ad0, rfl, hc0⟩ := rd_atN H0 k hlt
        obtain ⟨ad1, rfl, hc1⟩ := rd_atN H1 k (by have := hl'.out; omega)
        have hlt1 : k < l1.length := by have := hl'.out; omega
        have q0 : (0 : Int) ≤ (k : Int) := by omega
        have q1 : (k : Int) < (l0.length : Int) := by omega
        have q2 : (k : Int) < (l1.length : Int) := by omega
        by_cases he : rd l0 (k : Int) = rd l1 (k : Int)
        · have b4 : (rd l0 (k : Int) != rd l1 (k : Int)) = false := by simp [he]
          have he' := Aside0.mk he
          clear he
          go_wp2
          go_quiet (fail)
          go_wp2
          go_roundw
          case rel => exact ⟨k + 1, by omega, by go_num, ⟨fun j hj => by rcases Nat.lt_or_ge j k with h | h; exact hs.out j h; rw [show j = k by omega]; exact he'.out⟩, by repeat (first | exact Drawn0.refl _ | apply Drawn0.step)⟩
          case measure => simp [intOf]; omega
        · have b4 : (rd l0 (k : Int) != rd l1 (k : Int)) = true := by simpa using he
          have hne : decide (l0 = l1) = false := decide_eq_false (fun e => he (by rw [e]))
          replace hne := Aside0.mk hne
          clear he
          go_wp2
          go_quiet (fail)
          go_wp2
          go_ret
          exact ⟨by rw [hne.out]; rfl, by repeat (first | exact Drawn0.refl _ | apply Drawn0.step)⟩
      · have he : decide (l0 = l1) = true := decide_eq_true (list_same l0 l1 hl'.out (fun i hi => hs.out i (by omega)))
        replace he := Aside0.mk he
        go_wp2
        go_ret
        exact ⟨by rw [he.out]; rfl, by repeat (first | exact Drawn0.refl _ | apply Drawn0.step)⟩
  · have b1 : ((l0.length : Int) == (l1.length : Int)) = false := by simp; omega
    have b2 : ((l0.length : Int) != (l1.length : Int)) = true := by simp; omega
    have b3 : (l0.length == l1.length) = false := by simpa using hl
    have hne : decide (l0 = l1) = false := decide_eq_false (fun e => hl (by rw [e]))
    replace hne := Aside0.mk hne
    clear hl
    go_enter Tryd.func18, Tryd.ntmps18
    go_wp2
    go_ret
    exact ⟨by rw [hne.out]; rfl, Drawn0.refl _⟩
set_option maxHeartbeats 400000 in
theorem Ints_any (A0 A1 : Option Addr) (c0 c1 : Nat) (l0 l1 : List Int) (w : World) (H0 : Rd (Kd.int .i64) w A0 l0) (H1 : Rd (Kd.int .i64) w A1 l1) (hl0 : l0.length ≤ 9223372036854775807) :
    Calls Tryd.prog 30 #[.slice A0 l0.length c0, .slice A1 l1.length c1] w fun e w' => e = .returned (.bool (decide (l0 = l1))) ∧ Drawn0 w w' := by
  by_cases hl : l0.length = l1.length
  · have b1 : ((l0.length : Int) == (l1.length : Int)) = true := by simp [hl]
    have b2 : ((l0.length : Int) != (l1.length : Int)) = false := by simp [hl]
    have b3 : (l0.length == l1.length) = true := by simp [hl]
    have hl' := Aside0.mk hl
    clear hl
    go_enter Tryd.func30, Tryd.ntmps30
    go_wp2
    go_loopw [5] (fun i W => ∃ k : Nat, k ≤ l0.length ∧ i = .int .i64 k ∧ Aside0 (∀ j : Nat, j < k → rd l0 (j : Int) = rd l1 (j : Int)) ∧ Drawn0 w W) (fun i _ => l0.length - (intOf i).toNat)
    case atStart => exact ⟨0, by omega, rfl, ⟨fun j h => by omega⟩, Drawn0.refl _⟩
    case round =>
      obtain ⟨k, hk, rfl, hs, ⟨n, rfl⟩⟩ := hrel
      by_cases hlt : k < l0.length
      · obtain ⟨ad0, rfl, hc0⟩ := rd_atN H0 k hlt
        obtain ⟨ad1, rfl, hc1⟩ := rd_atN H1 k (by have := hl'.out; omega)
        have hlt1 : k < l1.length := by have := hl'.out; omega
        have q0 : (0 : Int) ≤ (k : Int) := by omega
        have q1 : (k : Int) < (l0.length : Int) := by omega
        have q2 : (k : Int) < (l1.length : Int) := by omega
        by_cases he : rd l0 (k : Int) = rd l1 (k : Int)
        · have b4 : (rd l0 (k : Int) != rd l1 (k : Int)) = false := by simp [he]
          have he' := Aside0.mk he
          clear he
          go_wp2
          go_quiet (fail)
          go_wp2
          go_roundw
          case rel => exact ⟨k + 1, by omega, by go_num, ⟨fun j hj => by rcases Nat.lt_or_ge j k with h | h; exact hs.out j h; rw [show j = k by omega]; exact he'.out⟩, by repeat (first | exact Drawn0.refl _ | apply Drawn0.step)⟩
          case measure => simp [intOf]; omega
        · have b4 : (rd l0 (k : Int) != rd l1 (k : Int)) = true := by simpa using he
          have hne : decide (l0 = l1) = false := decide_eq_false (fun e => he (by rw [e]))
          replace hne := Aside0.mk hne
          clear he
          go_wp2
          go_quiet (fail)
          go_wp2
          go_ret
          exact ⟨by rw [hne.out]; rfl, by repeat (first | exact Drawn0.refl _ | apply Drawn0.step)⟩
      · have he : decide (l0 = l1) = true := decide_eq_true (list_same l0 l1 hl'.out (fun i hi => hs.out i (by omega)))
        replace he := Aside0.mk he
        go_wp2
        go_ret
        exact ⟨by rw [he.out]; rfl, by repeat (first | exact Drawn0.refl _ | apply Drawn0.step)⟩
  · have b1 : ((l0.length : Int) == (l1.length : Int)) = false := by simp; omega
    have b2 : ((l0.length : Int) != (l1.length : Int)) = true := by simp; omega
    have b3 : (l0.length == l1.length) = false := by simpa using hl
    have hne : decide (l0 = l1) = false := decide_eq_false (fun e => hl (by rw [e]))
    replace hne := Aside0.mk hne
    clear hl
    go_enter Tryd.func30, Tryd.ntmps30
    go_wp2
    go_ret
    exact ⟨by rw [hne.out]; rfl, Drawn0.refl _⟩
end Go.Proofs.YtceibabhmomfiaaDoor.H

/- Layer 3, walks: the reader of charts takes numbers. -/
namespace Go.Proofs.YtceibabhmomfiaaDoor.H
open Go.RowKit Go.Proofs.YtceibabhmomfiaaDoorW.PrintWords Go.Proofs.YtceibabhmomfiaaDoorW.PrintLast
set_option linter.unusedVariables false
set_option linter.unusedSimpArgs false

/-- the types of blocks that reading writes -/
abbrev RT : List Nat := [61, 68, 3, 50, 73, 36]
/-- of blocks that are there at a call, those that reading writes -/
abbrev ST : List Nat := [61, 68]
theorem st_rt : ∀ q, q ∈ ST → q ∈ RT := by decide
/-- a store into a block that wasn't there -/
theorem KT.setNew {ts : List Nat} {base g : Nat} {w W : World} (h : KT ts base w W) (hb : base ≤ g) (hg : w.heap.size ≤ g) (j : Nat) (u : Value) : KT ts base w (W.setCell ⟨g, j, none⟩ u) :=
  ⟨h.below.setCell (p := ⟨g, j, none⟩) hb u, fun i cs t fr hi hn => (Below.heap_setCell W ⟨g, j, none⟩ u i (fun e => by have e : i = g := e; have := blk_lt hi; omega)).trans (h.keep i cs t fr hi hn)⟩
/-- an append to a row that wasn't there -/
theorem KT.growNew {ts : List Nat} {base e size n b : Nat} {w W W1 : World} {v : Value} {xs : List Value} (h : KT ts base w W) (ho : W.ownsRow b e size v n xs) (hg : W.grownBy W1 v.ownBlock) (hb : w.heap.size ≤ b) (hw : base ≤ w.heap.size) : KT ts base w W1 :=
  ⟨h.below.grown hg (Nat.le_trans hw h.size) (fun k hk => Nat.le_trans (Nat.le_trans hw hb) (own_base ho k hk)), fun i cs t fr hi hn => (hg.block i (Nat.lt_of_lt_of_le (blk_lt hi) h.size) (fun e' => by have := own_base ho i e'.symm; have := blk_lt hi; omega)).trans (h.keep i cs t fr hi hn)⟩
/-- a reader (of type T) at g, of which l is left -/
structure IsR (T : Nat) (base : Nat) (W : World) (g : Nat) (l : List Int) (e : Int) (A : Option Addr) (c : Nat) : Prop where
  ge : base ≤ g
  lt : base ≤ W.heap.size
  blk : W.heap[g]? = some (.cells #[.slice A l.length c, .int .i64 e] T (0, 0))
  cap : l.length ≤ c
  rd : RdK (Kd.int .u8) RT base W A l
  by_ : Bytes l
  len : l.length ≤ 10000000000000
abbrev IsRA (T : Nat) (base : Nat) (W : World) (g : Nat) (l : List Int) (e : Int) : Prop := Aside0 (∃ A c, IsR T base W g l e A c)
theorem IsR.keep {T base g c : Nat} {W W1 : World} {l : List Int} {e : Int} {A : Option Addr} {ts : List Nat} (h : IsR T base W g l e A c) (k : KT ts base W W1) (ht : ∀ q, q ∈ ts → q ∈ RT) (hT : T ∉ ts) : IsR T base W1 g l e A c :=
  ⟨h.ge, Nat.le_trans h.lt k.size, k.blk h.blk hT, h.cap, h.rd.keep (k.mono (Nat.le_refl _) ht), h.by_, h.len⟩
theorem IsR.step {T base g c : Nat} {W W1 : World} {l : List Int} {e : Int} {A : Option Addr} (h : IsR T base W g l e A c) (k : Bel W W1) : IsR T base W1 g l e A c :=
  ⟨h.ge, Nat.le_trans h.lt k.size, (k.out.block g (blk_lt h.blk)).trans h.blk, h.cap, h.rd.step k h.lt, h.by_, h.len⟩
theorem IsR.setE {T base g c : Nat} {W : World} {l : List Int} {e : Int} {A : Option Addr} (h : IsR T base W g l e A c) (hT : T ∈ ST) (e' : Int) :
    IsR T base (W.setCell ⟨g, 1, none⟩ (.int .i64 e')) g l e' A c ∧ KT ST base W (W.setCell ⟨g, 1, none⟩ (.int .i64 e')) := by
  have ks : KT ST base W (W.setCell ⟨g, 1, none⟩ (.int .i64 e')) := KT.set h.blk hT h.ge 1 _
  exact ⟨⟨h.ge, Nat.le_trans h.lt ks.size, (blk_set h.blk 1 _).trans rfl, h.cap, h.rd.keep (ks.mono (Nat.le_refl _) st_rt), h.by_, h.len⟩, ks⟩
theorem IsR.setB {T base g c c' : Nat} {W : World} {l l' : List Int} {e : Int} {A A' : Option Addr} (h : IsR T base W g l e A c) (hT : T ∈ ST) (hc : l'.length ≤ c') (hr : ∀ W, RdB W A l → RdB W A' l') (hb : ∀ x ∈ l', x ∈ l) (hl : l'.length ≤ l.length) :
    IsR T base (W.setCell ⟨g, 0, none⟩ (.slice A' l'.length c')) g l' e A' c' ∧ KT ST base W (W.setCell ⟨g, 0, none⟩ (.slice A' l'.length c')) := by
  have ks : KT ST base W (W.setCell ⟨g, 0, none⟩ (.slice A' l'.length c')) := KT.set h.blk hT h.ge 0 _
  exact ⟨⟨h.ge, Nat.le_trans h.lt ks.size, (blk_set h.blk 0 _).trans rfl, hc, ⟨fun W' k => hr W' ((h.rd.keep (ks.mono (Nat.le_refl _) st_rt)).out W' k)⟩, ⟨fun x hx => h.by_.out x (hb x hx)⟩, Nat.le_trans hl h.len⟩, ks⟩

/-- what taking a number leaves -/
structure Took (p : List Int → PR Int) (T : Nat) (base : Nat) (w : World) (g : Nat) (l : List Int) (e : Int) (n : Int) (w' : World) : Prop where
  ran : ∃ l' e', Aside0 (Ran p l e n l' e') ∧ IsRA T base w' g l' e' ∧ Aside0 (e' ≠ 0 → n = 0)
  kt : Aside0 (KT ST base w w')
  ge : 0 ≤ n
  le : n ≤ 9223372036854775807

theorem heap_new' {W : World} {o : Obj} {j : Nat} (h : j = W.heap.size) : (W.alloc o).heap[j]? = some o := by subst h; exact heap_alloc_new W o
theorem heap_old {W : World} {o o' : Obj} {j : Nat} (h : W.heap[j]? = some o) : (W.alloc o').heap[j]? = some o := (((Bel.refl W).alloc o').out.block j (blk_lt h)).trans h
theorem le_bel {r : Nat} {w W : World} (h : r ≤ w.heap.size) (k : Bel w W) : r ≤ W.heap.size := Nat.le_trans h k.size
theorem bel_blk {w W : World} {g : Nat} {o : Obj} (h : w.heap[g]? = some o) (k : Bel w W) : W.heap[g]? = some o := (k.out.block g (blk_lt h)).trans h
theorem if_tt (x : Int) : (if (true = true ∧ (0 : Int) = 0) then x else 0) = x := by simp
theorem if_ff (x e : Int) : (if (false = true ∧ e = 0) then x else e) = e := by simp
set_option maxHeartbeats 1000000 in
theorem fail_any (base g : Nat) (l : List Int) (e er : Int) (b : Bool) (A : Option Addr) (c : Nat) (w : World) (hr : IsR 61 base w g l e A c) :
    Calls Tryd.prog 36 #[.pointer (some ⟨g, 0, none⟩), .bool b, .int .i64 er] w fun ex w' => ex = .returned (.tuple #[]) ∧ Aside0 (IsR 61 base w' g l (if b = true ∧ e = 0 then er else e) A c ∧ KT ST base w w') := by
  have x1 : w.cell? ⟨g, 1, none⟩ = some (.int .i64 e) := blk_cell hr.blk 1
  have f1 := blk_frozen hr.blk 1
  by_cases h1 : b = true ∧ e = 0
  · obtain ⟨rfl, he⟩ := h1
    have b1 : (e == 0) = true := by simpa using he
    have hs := hr.setE (by decide) er
    rw [if_pos ⟨rfl, he⟩]
    replace hs := Aside0.mk hs
    replace he := Aside0.mk he
    replace hr := Aside0.mk hr
    go_enter Tryd.func36, Tryd.ntmps36
    go_wp2
    go_end0
    exact ⟨rfl, hs⟩
  · have hk := Aside0.mk (And.intro hr (KT.refl ST base w))
    rw [if_neg h1]
    cases b with
    | true =>
      have b1 : (e == 0) = false := by simpa using (fun q => h1 ⟨rfl, q⟩)
      clear h1
      replace hr := Aside0.mk hr
      go_enter Tryd.func36, Tryd.ntmps36
      go_wp2
      go_end0
      exact ⟨rfl, hk⟩
    | false =>
      clear h1
      replace hr := Aside0.mk hr
      go_enter Tryd.func36, Tryd.ntmps36
      go_wp2
      go_end0
      exact ⟨rfl, hk⟩
set_option maxRecDepth 100000
set_option maxHeartbeats 1000000 in
theorem upto_any (most er : Int) (h0 : 0 ≤ most) (h1 : most ≤ mx) (her : er ≠ 0) (base g : Nat) (l : List Int) (e : Int) (w : World) (hR : IsRA 61 base w g l e) :
    Calls Tryd.prog 32 #[.pointer (some ⟨g, 0, none⟩), .int .i64 most, .int .i64 er] w fun ex w' => ∃ n, ex = .returned (.int .i64 n) ∧ Took (pUp most er) 61 base w g l e n w' ∧ n ≤ most := by
  obtain ⟨A, c, hr⟩ := hR.out
  have x0 : w.cell? ⟨g, 0, none⟩ = some (.slice A l.length c) := blk_cell hr.blk 0
  have x1 : w.cell? ⟨g, 1, none⟩ = some (.int .i64 e) := blk_cell hr.blk 1
  have f1 := blk_frozen hr.blk 1
  have hlen := hr.len
  have hcap := hr.cap
  have her1 := Aside0.mk her
  clear her
  by_cases he : e = 0
  · subst he
    have hg := getL_got 9 (by decide) l hr.by_.out
    have hcall := Aside0.mk (Get_any A c l w hr.cap hr.rd.now hr.by_ (by omega))
    have hru := @Ran.num_ok l
    have hre := @Ran.num_er l
    have hb0 := hg.ge
    have hb1 := hg.le9 (by decide)
    have hg1 := hg.sz.1
    have hg2 := hg.sz.2.2
    have hg3 := hg.er
    obtain ⟨p, hp⟩ : ∃ p, getL 9 l = p := ⟨_, rfl⟩
    rw [hp] at hcall hru hre hg1 hg2 hg3 hb0 hb1
    clear hp hg
    obtain ⟨n, sz, ec⟩ := p
    simp only at hcall hru hre hg1 hg2 hg3 hb0 hb1
    have hr0 := Aside0.mk hr
    clear hr
    by_cases h0e : ec = 0
    · have b0 : (ec != 0) = false := by simp [h0e]
      have hru1 := Aside0.mk (hru h0e)
      have hf1 := fail_any base g l 0 ec false A c w hr0.out
      rw [if_ff] at hf1
      replace hf1 := Aside0.mk hf1
      replace h0e := Aside0.mk h0e
      clear hre hru hg3
      go_enter Tryd.func32, Tryd.ntmps32
      go_upto_region 5 with (first | (go_at_call 59; ((with_reducible refine hcall.out.mono ?_); rintro ex w' ⟨rfl, rfl⟩)) | (go_at_call 36; ((with_reducible refine hf1.out.mono ?_); rintro ex w1 ⟨rfl, hx1⟩)))
      by_cases hm : most < n
      · have hf2 := fail_any base g l 0 er true A c w1 hx1.out.1
        rw [if_tt] at hf2
        replace hf2 := Aside0.mk hf2
        go_upto_region 6 with (go_at_call 36; ((with_reducible refine hf2.out.mono ?_); rintro ex w2 ⟨rfl, hx2⟩))
        have y1 : w2.cell? ⟨g, 1, none⟩ = some (.int .i64 er) := blk_cell hx2.out.1.blk 1
        have b1 : (er != 0) = true := by simpa using her1.out
        have hup := Aside0.mk (hru1.out.up (most := most) her1.out (fun q => absurd rfl q) h0)
        rw [if_pos hm, if_pos hm] at hup
        go_wp2
        go_ret
        exact ⟨_, rfl, ⟨⟨_, _, ⟨hup.out.bad_left her1.out⟩, ⟨_, _, hx2.out.1⟩, ⟨fun _ => rfl⟩⟩, ⟨hx1.out.2.trans hx2.out.2⟩, by decide, by decide⟩, h0⟩
      · have hf2 := fail_any base g l 0 er false A c w1 hx1.out.1
        rw [if_ff] at hf2
        replace hf2 := Aside0.mk hf2
        go_upto_region 6 with (go_at_call 36; ((with_reducible refine hf2.out.mono ?_); rintro ex w2 ⟨rfl, hx2⟩))
        have y0 : w2.cell? ⟨g, 0, none⟩ = some (.slice A l.length c) := blk_cell hx2.out.1.blk 0
        have y1 : w2.cell? ⟨g, 1, none⟩ = some (.int .i64 0) := blk_cell hx2.out.1.blk 1
        have z0 := blk_frozen hx2.out.1.blk 0
        obtain ⟨m, rfl⟩ := Int.eq_ofNat_of_zero_le hg1
        have hml : m ≤ l.length := by omega
        obtain ⟨A', hcut, hA', hc'⟩ := cut_u8 A c l m hml hcap
        have hs := hx2.out.1.setB (by decide) hc' hA' (fun x hx => List.mem_of_mem_drop hx) (by rw [List.length_drop]; omega)
        rw [List.length_drop] at hs
        replace hs := Aside0.mk hs
        replace hA' := Aside0.mk hA'
        have hup := Aside0.mk (hru1.out.up (most := most) her1.out (fun q => absurd rfl q) h0)
        rw [if_neg (show ¬ most < n by omega), if_neg (show ¬ most < n by omega)] at hup
        go_wp2
        go_ret
        exact ⟨_, rfl, ⟨⟨_, _, ⟨by simpa using hup.out⟩, ⟨_, _, hs.out.1⟩, ⟨fun h => absurd rfl h⟩⟩, ⟨(hx1.out.2.trans hx2.out.2).trans hs.out.2⟩, hb0, by omega⟩, by omega⟩
    · have b0 : (ec != 0) = true := by simpa using h0e
      have hn0 : n = 0 := by
        rcases hg3 with h | h | h | h
        · exact absurd h.1 h0e
        · injection h
        · injection h
        · injection h
      subst hn0
      have hm0 : decide (most < (0 : Int)) = false := by simpa using h0
      have hf1 := fail_any base g l 0 ec true A c w hr0.out
      rw [if_tt] at hf1
      replace hf1 := Aside0.mk hf1
      have hre1 := Aside0.mk (hre h0e 0)
      replace h0e := Aside0.mk h0e
      clear hre hru hg3
      go_enter Tryd.func32, Tryd.ntmps32
      go_upto_region 5 with (first | (go_at_call 59; ((with_reducible refine hcall.out.mono ?_); rintro ex w' ⟨rfl, rfl⟩)) | (go_at_call 36; ((with_reducible refine hf1.out.mono ?_); rintro ex w1 ⟨rfl, hx1⟩)))
      have hf2 := fail_any base g l ec er false A c w1 hx1.out.1
      rw [if_ff] at hf2
      replace hf2 := Aside0.mk hf2
      go_upto_region 6 with (go_at_call 36; ((with_reducible refine hf2.out.mono ?_); rintro ex w2 ⟨rfl, hx2⟩))
      have y1 : w2.cell? ⟨g, 1, none⟩ = some (.int .i64 ec) := blk_cell hx2.out.1.blk 1
      have hup := Aside0.mk (hre1.out.up (most := most) her1.out (fun _ => rfl) h0)
      rw [if_neg (by omega), if_neg (by omega)] at hup
      go_wp2
      go_ret
      exact ⟨_, rfl, ⟨⟨_, _, hup, ⟨_, _, hx2.out.1⟩, ⟨fun _ => rfl⟩⟩, ⟨hx1.out.2.trans hx2.out.2⟩, by decide, by decide⟩, h0⟩
  · have b1 : (e != 0) = true := by simpa using he
    replace he := Aside0.mk he
    replace hr := Aside0.mk hr
    go_enter Tryd.func32, Tryd.ntmps32
    go_wp2
    go_ret
    exact ⟨_, rfl, ⟨⟨l, e, ⟨Ran.bad_ _ _ he.out _ _⟩, ⟨_, _, hr.out⟩, ⟨fun _ => rfl⟩⟩, ⟨KT.refl _ _ _⟩, by decide, by decide⟩, h0⟩
end Go.Proofs.YtceibabhmomfiaaDoor.H
