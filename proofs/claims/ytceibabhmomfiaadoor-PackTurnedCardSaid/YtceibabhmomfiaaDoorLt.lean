/- Layer 3: bytes of charts with one of them another one are none, or other charts. -/
import Derived.Test.YtceibabhmomfiaaDoorLe
namespace Go.Proofs.YtceibabhmomfiaaDoor.H
open Go.RowKit Go.Proofs.YtceibabhmomfiaaDoorW.PrintWords Go.Proofs.YtceibabhmomfiaaDoorW.PrintLast
set_option linter.unusedVariables false
set_option linter.unusedSimpArgs false
set_option maxRecDepth 100000

theorem addr_add (g k : Nat) : (⟨g, 0, none⟩ : Addr).add k = ⟨g, k, none⟩ := by unfold Addr.add; simp; intro h; exact h.symm
theorem own_put {w0 W : World} {v : Value} {xs : List Int} (h : OwnB w0 W v xs) (hB : Bel w0 W) (k : Nat) (hk : k < xs.length) :
    ∃ ad c, v = .slice (some ad) xs.length c ∧ xs.length ≤ c ∧ (∃ u, W.cell? (ad.add k) = some u) ∧ W.frozen? (ad.add k) = false ∧ ∀ x : Int, OwnB w0 (W.setCell (ad.add k) (.int .u8 x)) (.slice (some ad) xs.length c) (xs.set k x) ∧ Bel w0 (W.setCell (ad.add k) (.int .u8 x)) := by
  obtain ⟨A, c0, hv0, hc0, _⟩ := h.reads
  obtain ⟨g, c, rfl, hg, hgw, cells, hb⟩ := Kd.R_form h.out (by omega)
  injection hv0 with _ _ hv0
  subst hv0
  refine ⟨⟨g, 0, none⟩, c, rfl, hc0, ?_, ?_, fun x => ⟨⟨?_⟩, ?_⟩⟩
  · obtain ⟨h1, _⟩ := Kd.R_cell (enc := Value.int .u8) (h1 := fun _ => rfl) (0 : Int) h.out (k : Int) (by omega) (by omega)
    rw [addr_add]
    exact ⟨_, by simpa using h1⟩
  · rw [addr_add]
    exact blk_frozen hb k
  · have h1 := (Kd.R_put (enc := Value.int .u8) (h1 := fun _ => rfl) h.out (k : Int) x).1
    rw [addr_add]
    simp only [Int.toNat_natCast] at h1
    exact h1
  · rw [addr_add]
    exact ⟨hB.out.setCell (p := ⟨g, k, none⟩) hg _⟩
set_option maxHeartbeats 4000000 in
theorem PackTurned_walk (A : Option Addr) (c : Nat) (l : List SChart) (n tb : Int) (w : World) (hG : GlobA w.heap.size w) (HA : Rd kChart w A l) (hl : Aside0 (ACharts l)) (n0 : 0 ≤ n) (n1 : n ≤ 65535) (t0 : 0 ≤ tb) (t1 : tb ≤ 255) :
    Calls Tryd.prog 6 #[.slice A l.length c, .int .u16 n, .int .u8 tb] w fun e w' => e = .returned (.bool true) ∧ Bel w w' := by
  have hal := Aside0.mk (alive_any w hG)
  go_enter Tryd.func6, Tryd.ntmps6
  go_upto_region 3 with (go_at_call 12; ((with_reducible refine hal.out.mono ?_); rintro e w1 ⟨rfl, hB1⟩))
  have hg0 := Aside0.mk (Great_any A c l w1 (HA.step hB1) hl)
  go_upto_if 15 with (go_at_call 16; ((with_reducible refine hg0.out.mono ?_); rintro e w2 ⟨g0, rfl, hf0, hB2⟩; cases g0))
  · have hfl := hf0.out (by first | rfl | trivial)
    have hBw2 := hB1.trans hB2
    obtain ⟨ok, hok⟩ := ok_of l
    have he0 := Aside0.mk (Encode_any A c l w2 (HA.step hBw2) ⟨hfl⟩ ⟨mx_of hl.out⟩ ok hok)
    clear hg0 hal hf0
    cases ok with
    | false =>
      have b0 : (eE false != 0) = true := rfl
      have he1 := Aside0.mk (show Calls Tryd.prog 17 #[.slice A l.length c] w2 fun e w' => ∃ v, e = .returned (.tuple #[v, .int .i64 (eE false)]) ∧ OwnB w2 w' v [] ∧ Bel w2 w' from he0.out)
      clear he0
      go_wp2_with (go_at_call 17; ((with_reducible refine he1.out.mono ?_); rintro e w4 ⟨v4, rfl, hv4, hB4⟩; obtain ⟨A4, c4, rfl, hc4, hR4⟩ := hv4.reads))
      go_ret
      exact ⟨rfl, hBw2.trans hB4⟩
    | true =>
      have hr := hok.out.1 rfl
      have b0 : (eE true != 0) = false := rfl
      have hpos := encC_pos (l := l)
      have hlen := encC_len hr
      have hby := Aside0.mk (encC_by hr (mx_of hl.out))
      have hinj := Aside0.mk (fun (m : List SChart) (hm : RightP m) (hn : ∀ c ∈ m, c.f0 ≤ mx) => enc_inj hr hm (mx_of hl.out) hn)
      obtain ⟨x, hx⟩ : ∃ b, eL true l = b := ⟨_, rfl⟩
      have hxe : encC l = x := hx
      rw [hx] at he0
      rw [hxe] at hpos hlen hby hinj
      replace hx := Aside0.mk hx
      replace hxe := Aside0.mk hxe
      go_upto_region 8 with (go_at_call 17; ((with_reducible refine he0.out.mono ?_); rintro e w4 ⟨v4, rfl, hv4, hB4⟩; obtain ⟨A4, c4, rfl, hc4, hR4⟩ := hv4.reads))
      have hBw4 := hBw2.trans hB4
      obtain ⟨k, hk⟩ : ∃ k : Nat, n.tmod (x.length : Int) = (k : Int) := ⟨(n.tmod (x.length : Int)).toNat, by have := Int.tmod_nonneg (x.length : Int) n0; omega⟩
      have hkl : k < x.length := by
        have := Int.tmod_lt_of_pos n (show (0 : Int) < (x.length : Int) by omega)
        omega
      have hne : ¬ ((x.length : Int) = 0) := by omega
      clear he0 hv4 hr
      go_upto_region 9 with ((with_reducible refine gate_b (b := .append) rfl ?_); refine app_bytes (w0 := w4) (Own.lit .u8 5 (Bel.refl _) [] (by decide)) ((Bel.refl _).alloc _) (hR4.alloc _) rfl _ _ rfl (by simp; omega) rfl rfl ?_; intro v5 w5 hO hB5; replace hO : OwnB w4 w5 v5 x := hO)
      obtain ⟨ad, c5, rfl, hc5, ⟨u, hu⟩, hfz, hput⟩ := own_put hO hB5 k hkl
      obtain ⟨hO6, hB6⟩ := hput tb
      have hyl : (x.set k tb).length = x.length := List.length_set
      have hyb : Bytes (x.set k tb) := ⟨fun y hy => by rcases List.mem_or_eq_of_mem_set hy with h | h; exact hby.out y h; rw [h]; exact ⟨t0, t1⟩⟩
      obtain ⟨y, hy⟩ : ∃ y, x.set k tb = y := ⟨_, rfl⟩
      rw [hy] at hO6 hyl hyb
      clear hput hO
      replace hy := Aside0.mk hy
      go_upto_region 10 with (fail)
      generalize w5.setCell (ad.add k) (.int .u8 tb) = w6 at hO6 hB6 ⊢
      have hRy := OwnAt.rdOf hO6
      have hBw6 := hBw4.trans hB6
      have hR6 := hR4.step hB6
      have hd := Decode_any (some ad) c5 y w6 (hG.later hBw6) (by omega) hRy hyb (by omega)
      rw [hyl] at hd
      clear hu hfz hO6
      by_cases hz : dcE y = 0
      · obtain ⟨hrm, hem, hnm⟩ := dec_just hyb.out hz
        rw [hz] at hd
        obtain ⟨fs, hfs⟩ : ∃ f, dcL y = f := ⟨_, rfl⟩
        rw [hfs] at hd hrm hem hnm
        have hij := hinj.out fs hrm (fun c hc => Int.le_trans (hnm c hc) (by decide))
        rw [hem] at hij
        have hsb := Same_any A4 (some ad) c4 c5 x y w6 hR6 hRy (by omega)
        rw [hyl] at hsb
        have hsc := Aside0.mk (fun (A7 : Option Addr) (c7 : Nat) (W : World) (q : Bel w W) (h : Rd kChart W A7 fs) => rSame_any A A7 c c7 l fs W (HA.step q) h ⟨hfl⟩ ⟨few_of hrm⟩)
        have hri := Aside0.mk (fun (A7 : Option Addr) (c7 : Nat) (W : World) (h : Rd kChart W A7 fs) => (Right_any A7 c7 fs W h ⟨few_of hrm⟩).mono (fun e w' h => h.yes hrm))
        have hsb2 := Aside0.mk (fun (W : World) (q : Bel w6 W) => (show Calls Tryd.prog 18 #[.slice A4 x.length c4, .slice (some ad) x.length c5] W _ from by have := Same_any A4 (some ad) c4 c5 x y W (hR6.step q) (hRy.step q) (by omega); rw [hyl] at this; exact this))
        replace hd := Aside0.mk hd
        clear hrm hem hnm hfs hz hsb
        by_cases hlm : l = fs
        · rw [decide_eq_true (hij.2 hlm)] at hsb2
          have hsc2 := Aside0.mk (fun (A7 : Option Addr) (c7 : Nat) (W : World) (q : Bel w W) (h : Rd kChart W A7 fs) => (hsc.out A7 c7 W q h).mono (fun e w' h => h.yes hlm))
          clear hsc hlm hij
          go_wp2_with (first | (go_at_call 13; ((with_reducible refine hd.out.mono ?_); rintro e w7 ⟨v7, rfl, hv7, hB7⟩; obtain ⟨A7, c7, rfl, _, hR7⟩ := hv7.reads)) | (go_at_call 18; ((with_reducible refine (hsb2.out _ hB7).mono ?_); rintro e w8 ⟨rfl, hd8⟩; have hB78 := hB7.trans (Bel.drawn hd8))) | (go_at_call 15; ((with_reducible refine (hsc2.out _ _ _ (hBw6.trans hB78) (hR7.step (Bel.drawn hd8))).mono ?_); rintro e w9 ⟨rfl, hB9⟩)) | (go_at_call 19; ((with_reducible refine (hri.out _ _ _ (hR7.step ((Bel.drawn hd8).trans hB9))).mono ?_); rintro e w10 ⟨rfl, hB10⟩)))
          go_ret
          exact ⟨rfl, hBw6.trans (hB78.trans (hB9.trans hB10))⟩
        · rw [decide_eq_false (fun q => hlm (hij.1 q))] at hsb2
          have hsc2 := Aside0.mk (fun (A7 : Option Addr) (c7 : Nat) (W : World) (q : Bel w W) (h : Rd kChart W A7 fs) => (hsc.out A7 c7 W q h).mono (fun e w' h => h.no hlm))
          clear hsc hlm hij
          go_wp2_with (first | (go_at_call 13; ((with_reducible refine hd.out.mono ?_); rintro e w7 ⟨v7, rfl, hv7, hB7⟩; obtain ⟨A7, c7, rfl, _, hR7⟩ := hv7.reads)) | (go_at_call 18; ((with_reducible refine (hsb2.out _ hB7).mono ?_); rintro e w8 ⟨rfl, hd8⟩; have hB78 := hB7.trans (Bel.drawn hd8))) | (go_at_call 15; ((with_reducible refine (hsc2.out _ _ _ (hBw6.trans hB78) (hR7.step (Bel.drawn hd8))).mono ?_); rintro e w9 ⟨rfl, hB9⟩)) | (go_at_call 19; ((with_reducible refine (hri.out _ _ _ (hR7.step ((Bel.drawn hd8).trans hB9))).mono ?_); rintro e w10 ⟨rfl, hB10⟩)))
          go_ret
          exact ⟨rfl, hBw6.trans (hB78.trans (hB9.trans hB10))⟩
      · rw [dec_none hz] at hd
        obtain ⟨z, hze⟩ : ∃ z, dcE y = z := ⟨_, rfl⟩
        rw [hze] at hd hz
        have b1 : (z != 0) = true := by simpa using hz
        replace hd := Aside0.mk hd
        clear hze hz
        go_wp2_with (go_at_call 13; ((with_reducible refine hd.out.mono ?_); rintro e w7 ⟨v7, rfl, hv7, hB7⟩; obtain ⟨A7, c7, rfl, _, hR7⟩ := hv7.reads))
        go_ret
        exact ⟨rfl, hBw6.trans hB7⟩
  · go_wp2
    go_ret
    exact ⟨rfl, hB1.trans hB2⟩
theorem PackTurned_row (A0 : Option Addr) (c0 : Nat) (l0 : List SChart) (n n' : Int) (w : World) (hG : GlobA w.heap.size w) (H0 : Rd kChart w A0 l0) (_ : l0.length ≤ c0) (o0 : ACharts l0) (n0 : 0 ≤ n) (n1 : n ≤ 65535) (t0 : 0 ≤ n') (t1 : n' ≤ 255) :
    Calls Tryd.prog 6 #[.slice A0 l0.length c0, .int .u16 n, .int .u8 n'] w fun e w' => e = .returned (.bool true) ∧ Bel w w' := PackTurned_walk A0 c0 l0 n n' w hG H0 ⟨o0⟩ n0 n1 t0 t1
end Go.Proofs.YtceibabhmomfiaaDoor.H
