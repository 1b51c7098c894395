/- Layer 3, walks: the reader takes numbers. -/
import Derived.Test.YtijdmnjkiiemlaaDoorCq
import Derived.Test.YtijdmnjkiiemlaaDoorBk
import Derived.Test.YtijdmnjkiiemlaaDoorVh
import Derived.Test.YtijdmnjkiiemlaaDoorCw6
namespace Go.Proofs.YtijdmnjkiiemlaaDoor.H
open Go.RowKit Go.Proofs.YtijdmnjkiiemlaaDoorW.PrintWords Go.Proofs.YtijdmnjkiiemlaaDoorW.PrintLast
set_option linter.unusedVariables false
set_option linter.unusedSimpArgs false

/-- the types of blocks that reading writes -/
abbrev RT : List Nat := [69, 73, 3, 45, 48, 43, 24]
/-- of blocks that are there at a call, those that reading writes -/
abbrev ST : List Nat := [69, 73]
theorem st_rt : ∀ q, q ∈ ST → q ∈ RT := by decide
/-- a store into a block that wasn't there -/
theorem KT.setNew {ts : List Nat} {base g : Nat} {w W : World} (h : KT ts base w W) (hb : base ≤ g) (hg : w.heap.size ≤ g) (j : Nat) (u : Value) : KT ts base w (W.setCell ⟨g, j, none⟩ u) :=
  ⟨h.below.setCell (p := ⟨g, j, none⟩) hb u, fun i cs t fr hi hn => (Below.heap_setCell W ⟨g, j, none⟩ u i (fun e => by have e : i = g := e; have := blk_lt hi; omega)).trans (h.keep i cs t fr hi hn)⟩
/-- an append to a row that wasn't there -/
theorem KT.growNew {ts : List Nat} {base e size n b : Nat} {w W W1 : World} {v : Value} {xs : List Value} (h : KT ts base w W) (ho : W.ownsRow b e size v n xs) (hg : W.grownBy W1 v.ownBlock) (hb : w.heap.size ≤ b) (hw : base ≤ w.heap.size) : KT ts base w W1 :=
  ⟨h.below.grown hg (Nat.le_trans hw h.size) (fun k hk => Nat.le_trans (Nat.le_trans hw hb) (own_base ho k hk)), fun i cs t fr hi hn => (hg.block i (Nat.lt_of_lt_of_le (blk_lt hi) h.size) (fun e' => by have := own_base ho i e'.symm; have := blk_lt hi; omega)).trans (h.keep i cs t fr hi hn)⟩
/-- a reader (of type T) at g, of which l is left -/
structure IsR (T : Nat) (base : Nat) (W : World) (g : Nat) (l : List Int) (e : Int) (A : Option Addr) (c : Nat) : Prop where
  ge : base ≤ g
  lt : base ≤ W.heap.size
  blk : W.heap[g]? = some (.cells #[.slice A l.length c, .int .i64 e] T (0, 0))
  cap : l.length ≤ c
  rd : RdK (Kd.int .u8) RT base W A l
  by_ : Bytes l
  len : l.length ≤ 10000000000000
abbrev IsRA (T : Nat) (base : Nat) (W : World) (g : Nat) (l : List Int) (e : Int) : Prop := Aside0 (∃ A c, IsR T base W g l e A c)
theorem IsR.keep {T base g c : Nat} {W W1 : World} {l : List Int} {e : Int} {A : Option Addr} {ts : List Nat} (h : IsR T base W g l e A c) (k : KT ts base W W1) (ht : ∀ q, q ∈ ts → q ∈ RT) (hT : T ∉ ts) : IsR T base W1 g l e A c :=
  ⟨h.ge, Nat.le_trans h.lt k.size, k.blk h.blk hT, h.cap, h.rd.keep (k.mono (Nat.le_refl _) ht), h.by_, h.len⟩
theorem IsR.step {T base g c : Nat} {W W1 : World} {l : List Int} {e : Int} {A : Option Addr} (h : IsR T base W g l e A c) (k : Bel W W1) : IsR T base W1 g l e A c :=
  ⟨h.ge, Nat.le_trans h.lt k.size, (k.out.block g (blk_lt h.blk)).trans h.blk, h.cap, h.rd.step k h.lt, h.by_, h.len⟩
theorem IsR.setE {T base g c : Nat} {W : World} {l : List Int} {e : Int} {A : Option Addr} (h : IsR T base W g l e A c) (hT : T ∈ ST) (e' : Int) :
    IsR T base (W.setCell ⟨g, 1, none⟩ (.int .i64 e')) g l e' A c ∧ KT ST base W (W.setCell ⟨g, 1, none⟩ (.int .i64 e')) := by
  have ks : KT ST base W (W.setCell ⟨g, 1, none⟩ (.int .i64 e')) := KT.set h.blk hT h.ge 1 _
  exact ⟨⟨h.ge, Nat.le_trans h.lt ks.size, (blk_set h.blk 1 _).trans rfl, h.cap, h.rd.keep (ks.mono (Nat.le_refl _) st_rt), h.by_, h.len⟩, ks⟩
theorem IsR.setB {T base g c c' : Nat} {W : World} {l l' : List Int} {e : Int} {A A' : Option Addr} (h : IsR T base W g l e A c) (hT : T ∈ ST) (hc : l'.length ≤ c') (hr : ∀ W, RdB W A l → RdB W A' l') (hb : ∀ x ∈ l', x ∈ l) (hl : l'.length ≤ l.length) :
    IsR T base (W.setCell ⟨g, 0, none⟩ (.slice A' l'.length c')) g l' e A' c' ∧ KT ST base W (W.setCell ⟨g, 0, none⟩ (.slice A' l'.length c')) := by
  have ks : KT ST base W (W.setCell ⟨g, 0, none⟩ (.slice A' l'.length c')) := KT.set h.blk hT h.ge 0 _
  exact ⟨⟨h.ge, Nat.le_trans h.lt ks.size, (blk_set h.blk 0 _).trans rfl, hc, ⟨fun W' k => hr W' ((h.rd.keep (ks.mono (Nat.le_refl _) st_rt)).out W' k)⟩, ⟨fun x hx => h.by_.out x (hb x hx)⟩, Nat.le_trans hl h.len⟩, ks⟩

/-- what taking a number leaves -/
structure Took (p : List Int → PR Int) (T : Nat) (base : Nat) (w : World) (g : Nat) (l : List Int) (e : Int) (n : Int) (w' : World) : Prop where
  ran : ∃ l' e', Aside0 (Ran p l e n l' e') ∧ IsRA T base w' g l' e' ∧ Aside0 (e' ≠ 0 → n = 0)
  kt : Aside0 (KT ST base w w')
  ge : -9223372036854775808 ≤ n
  le : n ≤ 9223372036854775807
theorem unzz_ok {u : Int} (h0 : 0 ≤ u) (h1 : u ≤ 18446744073709551615) : -9223372036854775808 ≤ unzz u ∧ unzz u ≤ 9223372036854775807 := by
  unfold unzz
  split <;> omega

set_option maxHeartbeats 1000000 in
theorem take_num (base g : Nat) (l : List Int) (e : Int) (w : World) (hR : IsRA 69 base w g l e) :
    Calls Tryd.prog 62 #[.pointer (some ⟨g, 0, none⟩), .func (.func 63) #[] #[]] w fun ex w' => ∃ n, ex = .returned (.int .i64 n) ∧ Took pNum 69 base w g l e n w' := by
  obtain ⟨A, c, hr⟩ := hR.out
  have x0 : w.cell? ⟨g, 0, none⟩ = some (.slice A l.length c) := blk_cell hr.blk 0
  have x1 : w.cell? ⟨g, 1, none⟩ = some (.int .i64 e) := blk_cell hr.blk 1
  have f0 := blk_frozen hr.blk 0
  have f1 := blk_frozen hr.blk 1
  have hlt := hr.lt
  have hlen := hr.len
  have hcap := hr.cap
  by_cases he : e = 0
  · subst he
    have hg := getL_got 9 (by decide) l hr.by_.out
    have hcall := Get_any A c l w hr.cap hr.rd.now hr.by_ (by omega)
    have hru := @Ran.num_ok l
    have hre := @Ran.num_er l
    have hb : -9223372036854775808 ≤ (getL 9 l).1 ∧ (getL 9 l).1 ≤ 9223372036854775807 := by
      first | exact unzz_ok hg.ge hg.le | (have h1 := hg.ge; have h2 := hg.le9 (by decide); exact ⟨by omega, h2⟩)
    obtain ⟨y, hy⟩ : ∃ y, (getL 9 l).1 = y := ⟨_, rfl⟩
    rw [hy] at hcall hru hb
    have hg1 := hg.sz.1
    have hg2 := hg.sz.2.2
    have hg3 := hg.er
    clear hg hy
    obtain ⟨p, hp⟩ : ∃ p, getL 9 l = p := ⟨_, rfl⟩
    rw [hp] at hcall hru hre hg1 hg2 hg3
    clear hp
    obtain ⟨n, sz, er⟩ := p
    simp only at hcall hru hre hg1 hg2 hg3
    have hb1 := hb.1
    have hb2 := hb.2
    replace hr := Aside0.mk hr
    replace hru := Aside0.mk hru
    replace hre := Aside0.mk hre
    replace hg3 := Aside0.mk hg3
    replace hcall := Aside0.mk hcall
    clear hb
    by_cases h0 : er = 0
    · have b1 : (er != 0) = false := by simp [h0]
      obtain ⟨m, rfl⟩ := Int.eq_ofNat_of_zero_le hg1
      have hm : m ≤ l.length := by omega
      obtain ⟨A', hcut, hA', hc'⟩ := cut_u8 A c l m hm hcap
      have hs := hr.out.setB (by decide) hc' hA' (fun x hx => List.mem_of_mem_drop hx) (by rw [List.length_drop]; omega)
      rw [List.length_drop] at hs
      replace hs := Aside0.mk hs
      replace hA' := Aside0.mk hA'
      have hru2 := Aside0.mk (hru.out h0)
      replace h0 := Aside0.mk h0
      go_enter Tryd.func62, Tryd.ntmps62
      go_wp2_with (go_at_call 63; ((with_reducible refine hcall.out.mono ?_); rintro ex w' ⟨rfl, rfl⟩))
      go_ret
      exact ⟨_, rfl, ⟨⟨_, _, ⟨by simpa using hru2.out⟩, ⟨_, _, hs.out.1⟩, ⟨fun h => absurd rfl h⟩⟩, ⟨hs.out.2⟩, hb1, hb2⟩⟩
    · have b1 : (er != 0) = true := by simpa using h0
      have hs := Aside0.mk (hr.out.setE (by decide) er)
      have hre2 := Aside0.mk (hre.out h0 0)
      replace h0 := Aside0.mk h0
      go_enter Tryd.func62, Tryd.ntmps62
      go_wp2_with (go_at_call 63; ((with_reducible refine hcall.out.mono ?_); rintro ex w' ⟨rfl, rfl⟩))
      go_ret
      exact ⟨_, rfl, ⟨⟨_, _, hre2, ⟨_, _, hs.out.1⟩, ⟨fun _ => rfl⟩⟩, ⟨hs.out.2⟩, by decide, by decide⟩⟩
  · have b1 : (e != 0) = true := by simpa using he
    replace he := Aside0.mk he
    replace hr := Aside0.mk hr
    go_enter Tryd.func62, Tryd.ntmps62
    go_wp2
    go_ret
    exact ⟨_, rfl, ⟨⟨l, e, ⟨Ran.bad_ _ _ he.out _ _⟩, ⟨_, _, hr.out⟩, ⟨fun _ => rfl⟩⟩, ⟨KT.refl _ _ _⟩, by decide, by decide⟩⟩
set_option maxHeartbeats 1000000 in
theorem take_sig (base g : Nat) (l : List Int) (e : Int) (w : World) (hR : IsRA 69 base w g l e) :
    Calls Tryd.prog 62 #[.pointer (some ⟨g, 0, none⟩), .func (.func 64) #[] #[]] w fun ex w' => ∃ n, ex = .returned (.int .i64 n) ∧ Took pSig 69 base w g l e n w' := by
  obtain ⟨A, c, hr⟩ := hR.out
  have x0 : w.cell? ⟨g, 0, none⟩ = some (.slice A l.length c) := blk_cell hr.blk 0
  have x1 : w.cell? ⟨g, 1, none⟩ = some (.int .i64 e) := blk_cell hr.blk 1
  have f0 := blk_frozen hr.blk 0
  have f1 := blk_frozen hr.blk 1
  have hlt := hr.lt
  have hlen := hr.len
  have hcap := hr.cap
  by_cases he : e = 0
  · subst he
    have hg := getL_got 10 (by decide) l hr.by_.out
    have hcall := GetSigned_any A c l w hr.cap hr.rd.now hr.by_ (by omega)
    have hru := @Ran.sig_ok l
    have hre := @Ran.sig_er l
    have hb : -9223372036854775808 ≤ unzz (getL 10 l).1 ∧ unzz (getL 10 l).1 ≤ 9223372036854775807 := by
      first | exact unzz_ok hg.ge hg.le | (have h1 := hg.ge; have h2 := hg.le9 (by decide); exact ⟨by omega, h2⟩)
    obtain ⟨y, hy⟩ : ∃ y, unzz (getL 10 l).1 = y := ⟨_, rfl⟩
    rw [hy] at hcall hru hb
    have hg1 := hg.sz.1
    have hg2 := hg.sz.2.2
    have hg3 := hg.er
    clear hg hy
    obtain ⟨p, hp⟩ : ∃ p, getL 10 l = p := ⟨_, rfl⟩
    rw [hp] at hcall hru hre hg1 hg2 hg3
    clear hp
    obtain ⟨n, sz, er⟩ := p
    simp only at hcall hru hre hg1 hg2 hg3
    have hb1 := hb.1
    have hb2 := hb.2
    replace hr := Aside0.mk hr
    replace hru := Aside0.mk hru
    replace hre := Aside0.mk hre
    replace hg3 := Aside0.mk hg3
    replace hcall := Aside0.mk hcall
    clear hb
    by_cases h0 : er = 0
    · have b1 : (er != 0) = false := by simp [h0]
      obtain ⟨m, rfl⟩ := Int.eq_ofNat_of_zero_le hg1
      have hm : m ≤ l.length := by omega
      obtain ⟨A', hcut, hA', hc'⟩ := cut_u8 A c l m hm hcap
      have hs := hr.out.setB (by decide) hc' hA' (fun x hx => List.mem_of_mem_drop hx) (by rw [List.length_drop]; omega)
      rw [List.length_drop] at hs
      replace hs := Aside0.mk hs
      replace hA' := Aside0.mk hA'
      have hru2 := Aside0.mk (hru.out h0)
      replace h0 := Aside0.mk h0
      go_enter Tryd.func62, Tryd.ntmps62
      go_wp2_with (go_at_call 64; ((with_reducible refine hcall.out.mono ?_); rintro ex w' ⟨rfl, rfl⟩))
      go_ret
      exact ⟨_, rfl, ⟨⟨_, _, ⟨by simpa using hru2.out⟩, ⟨_, _, hs.out.1⟩, ⟨fun h => absurd rfl h⟩⟩, ⟨hs.out.2⟩, hb1, hb2⟩⟩
    · have b1 : (er != 0) = true := by simpa using h0
      have hs := Aside0.mk (hr.out.setE (by decide) er)
      have hre2 := Aside0.mk (hre.out h0 0)
      replace h0 := Aside0.mk h0
      go_enter Tryd.func62, Tryd.ntmps62
      go_wp2_with (go_at_call 64; ((with_reducible refine hcall.out.mono ?_); rintro ex w' ⟨rfl, rfl⟩))
      go_ret
      exact ⟨_, rfl, ⟨⟨_, _, hre2, ⟨_, _, hs.out.1⟩, ⟨fun _ => rfl⟩⟩, ⟨hs.out.2⟩, by decide, by decide⟩⟩
  · have b1 : (e != 0) = true := by simpa using he
    replace he := Aside0.mk he
    replace hr := Aside0.mk hr
    go_enter Tryd.func62, Tryd.ntmps62
    go_wp2
    go_ret
    exact ⟨_, rfl, ⟨⟨l, e, ⟨Ran.bad_ _ _ he.out _ _⟩, ⟨_, _, hr.out⟩, ⟨fun _ => rfl⟩⟩, ⟨KT.refl _ _ _⟩, by decide, by decide⟩⟩
end Go.Proofs.YtijdmnjkiiemlaaDoor.H
