/- Layer 3: bytes that go on behind a program, or end within it, are none. -/
import Derived.Test.YtijdmnjkiiemlaaDoorCa
import Derived.Test.YtijdmnjkiiemlaaDoorCg
import Derived.Test.YtijdmnjkiiemlaaDoorCc5
namespace Go.Proofs.YtijdmnjkiiemlaaDoor.H
open Go.RowKit Go.Proofs.YtijdmnjkiiemlaaDoorW.PrintWords Go.Proofs.YtijdmnjkiiemlaaDoorW.PrintLast
set_option linter.unusedVariables false
set_option linter.unusedSimpArgs false

theorem GlobA.on {w W : World} (hG : GlobA w.heap.size w) (k : Bel w W) : GlobA W.heap.size W := ⟨⟨Nat.lt_of_lt_of_le hG.out.pos k.size, (hG.out.step k (Nat.le_refl _)).at_⟩⟩
theorem take_u8' (A : Option Addr) (c : Nat) (xs : List Int) (m : Nat) (hm : m ≤ xs.length) (hc : xs.length ≤ c) :
    (∀ W : World, (Instr.slice 27 (.slice A xs.length c) none (some (.int .i64 (m : Int))) none).run Tryd.prog W = .ok (.slice A (xs.take m).length c) W) ∧
      (∀ W : World, RdB W A xs → RdB W A (xs.take m)) := by
  obtain ⟨i0, hi, _, hsz, _⟩ := info_parts info_u8
  obtain ⟨h1, h2, h3⟩ := print_take_of (P := Tryd.prog) (Value.int .u8) 0 27 5 .i64 Tryd.underlying27 hi hsz A c xs (m : Int) (by omega) (by omega) hc
  simp only [Int.toNat_natCast] at h1 h2
  exact ⟨h1, fun W h => ⟨Kd.C_of_reads (h1 := fun _ => rfl) (h2 W (Kd.reads_of_C h.out))⟩⟩
theorem prog_blk {W : World} {v : Value} : (W.alloc (.cells #[v] 24)).heap[W.heap.size]? = some (.cells #[v] 24 (0, 0)) := heap_alloc_new W _
set_option maxRecDepth 100000
set_option maxHeartbeats 4000000 in
theorem CodeEnds_walk (A : Option Addr) (c : Nat) (l : List SFunc) (n : Int) (B : Option Addr) (d : Nat) (m : List Int) (w : World) (hG : GlobA w.heap.size w) (HA : Rd kFunc w A l) (hl : Aside0 (AProg l)) (n0 : 0 ≤ n) (n1 : n ≤ 65535) (HB : RdB w B m) (hd : m.length ≤ d) (hm : Aside0 (ByL m)) (hml : m.length ≤ 140737488351232) :
    Calls Tryd.prog 7 #[.agg #[.slice A l.length c], .int .u16 n, .slice B m.length d] w fun e w' => e = .returned (.bool true) ∧ Bel w w' := by
  have hB0 := (Bel.refl w).alloc (.cells #[.slice A l.length c] 24)
  have h0 := prog_blk (W := w) (v := .slice A l.length c)
  go_enter Tryd.func7, Tryd.ntmps7
  go_upto_region 1 with (fail)
  generalize w.alloc (.cells #[.slice A l.length c] 24) = wa at hB0 h0 ⊢
  obtain ⟨b0, hb0⟩ : ∃ b, w.heap.size = b := ⟨_, rfl⟩
  rw [hb0] at h0 ⊢
  replace hb0 := Aside0.mk hb0
  have z := Aside0.mk (fun W (k : Bel wa W) => (show W.cell? ⟨b0, 0, none⟩ = some (.slice A l.length c) from Bel.cell k (blk_cell h0 0)))
  clear h0
  have hal := Aside0.mk (alive_any wa (hG.on hB0))
  go_upto_region 3 with (go_at_call 8; ((with_reducible refine hal.out.mono ?_); rintro e w1 ⟨rfl, hB1⟩))
  have z0 := z.out w1 hB1
  have hg0 := Aside0.mk (Great_any A c l w1 (HA.step (hB0.trans hB1)) hl)
  by_cases hmore : 100 < m.length
  · go_wp2_with (go_at_call 9; (with_reducible refine hg0.out.mono ?_); rintro e w2 ⟨g0, rfl, hf0, hB2⟩; cases g0)
    all_goals
      go_ret
      exact ⟨rfl, hB0.trans (hB1.trans hB2)⟩
  go_upto_if 21 with (go_at_call 9; (with_reducible refine hg0.out.mono ?_); rintro e w2 ⟨g0, rfl, hf0, hB2⟩; cases g0)
  · have hi0 := Aside0.mk (few_in hl.out (hf0.out (by first | rfl | trivial)))
    have hBw2 := hB0.trans (hB1.trans hB2)
    have hBa2 := hB1.trans hB2
    clear hg0 hal hf0 z0
    have z0 := z.out w2 hBa2
    have he0 := Aside0.mk (Encode_any A c l w2 (hG.on hBw2) (HA.step hBw2) hi0)
    by_cases h0 : encE l = 0
    case neg =>
      have b1 : (encE l != 0) = true := by simpa using h0
      have hnil : encL l = [] := by unfold encL; rw [if_neg h0]
      rw [hnil] at he0
      obtain ⟨x0, hx0⟩ : ∃ x, encE l = x := ⟨_, rfl⟩
      rw [hx0] at he0 b1
      clear h0 hx0 hnil
      go_wp2_with (go_at_call 10; (with_reducible refine he0.out.mono ?_); rintro e w4 ⟨v4, rfl, hv4, hB4⟩; obtain ⟨A4, c4, rfl, _, hR4⟩ := hv4.reads)
      go_ret
      exact ⟨rfl, hBw2.trans hB4⟩
    rw [h0] at he0
    have hpos := encL_pos h0
    have hlen := encL_len hi0.out
    have hby := Aside0.mk (enc_by hi0.out h0)
    have htail := Aside0.mk (dec_tail hi0.out h0 m)
    have hback := Aside0.mk (dec_enc hi0.out h0).1
    have hcut := Aside0.mk (fun k => dec_cut hi0.out h0 k)
    replace h0 := Aside0.mk h0
    obtain ⟨x, hx⟩ : ∃ x, encL l = x := ⟨_, rfl⟩
    rw [hx] at he0 hpos hlen hby htail hback hcut
    clear hx
    go_upto_region 8 with (go_at_call 10; (with_reducible refine he0.out.mono ?_); rintro e w4 ⟨v4, rfl, hv4, hB4⟩; obtain ⟨A4, c4, rfl, hc4, hR4⟩ := hv4.reads)
    have hBw4 := hBw2.trans hB4
    clear he0 z0
    -- the bytes cut off
    obtain ⟨k, hk⟩ : ∃ k : Nat, n.tmod (x.length : Int) = (k : Int) := ⟨(n.tmod (x.length : Int)).toNat, by have := Int.tmod_nonneg (x.length : Int) n0; omega⟩
    have hkl : k < x.length := by
      have := Int.tmod_lt_of_pos n (show (0 : Int) < (x.length : Int) by omega)
      omega
    obtain ⟨hcutr, hR5⟩ := take_u8' A4 c4 x k (by omega) hc4
    have hck := hcut.out k hkl
    have hne : ¬ ((x.length : Int) = 0) := by omega
    have hyl : (x.take k).length ≤ x.length := by rw [List.length_take]; omega
    have hyb : Bytes (x.take k) := ⟨fun y hy => hby.out y (List.mem_of_mem_take hy)⟩
    have hRy := hR5 w4 hR4
    obtain ⟨y, hy⟩ : ∃ y, x.take k = y := ⟨_, rfl⟩
    rw [hy] at hck hcutr hyl hyb hRy
    have hd1 := Aside0.mk (Decode_any A4 c4 y w4 (hG.on hBw4) (by omega) hRy hyb (by omega))
    rw [hck] at hd1
    clear hck hcut hR5 hy hyb hRy
    go_upto_region 9 with (go_at_call 15; (with_reducible refine hd1.out.mono ?_); rintro e w5 ⟨v5, rfl, hv5, hB5, _⟩; obtain ⟨A5, c5, rfl, _, _⟩ := hv5.reads)
    have hp5 : Bel w5 (w5.alloc (.cells #[.slice A5 (decL y).length c5] 24)) := (Bel.refl w5).alloc _
    generalize w5.alloc (.cells #[.slice A5 (decL y).length c5] 24) = w6 at hp5 ⊢
    have hB46 := hB5.trans hp5
    have hBw6 := hBw4.trans hB46
    have hRx := hR4.step hB46
    have hRm := HB.step hBw6
    have hxm : Bytes (x ++ m) := ⟨hby.out.app hm.out⟩
    have hd2 := Aside0.mk (fun (A : Option Addr) (c : Nat) W (k : Bel w6 W) (hc : (x ++ m).length ≤ c) (hR : RdB W A (x ++ m)) => Decode_any A c (x ++ m) W (hG.on (hBw6.trans k)) hc hR hxm (by rw [List.length_append]; omega))
    simp only [List.length_append] at hd2
    clear hcutr hne hk hpos
    have hxl : x.length + m.length ≤ 140737488355328 := by omega
    by_cases hmn : m = []
    · have hml0 : m.length = 0 := by rw [hmn]; rfl
      have q1 : ((m.length : Int) == 0) = true := by simp [hml0]
      rw [show decE (x ++ m) = 0 from by rw [hmn, List.append_nil]; exact hback.out] at hd2
      clear hml0
      replace hmn := Aside0.mk hmn
      go_wp2_with (first | ((with_reducible refine gate_b (b := .append) (xs := #[.tmp 44, .tmp 45]) rfl ?_); refine app_bytes (w0 := w6) (Own.lit .u8 5 (Bel.refl _) [] (by decide)) ((Bel.refl _).alloc _) (hRx.alloc _) rfl _ _ rfl (by simp; omega) rfl rfl ?_; intro v1 w7 hO hB7) | ((with_reducible refine gate_b (b := .append) (xs := #[.tmp 46, .tmp 47]) rfl ?_); refine app_bytes (w0 := w6) hO hB7 (hRm.step hB7) rfl _ _ rfl (by simp; omega) rfl rfl ?_; clear hO hB7; intro v1 w7 hO hB7; obtain ⟨A7, c7, rfl, hc7, hR7⟩ := hO.reads; replace hR7 : RdB w7 A7 (x ++ m) := hR7; replace hc7 : x.length + m.length ≤ c7 := (by simpa using hc7)) | (go_at_call 15; (with_reducible refine (hd2.out A7 c7 w7 hB7 hc7 hR7).mono ?_); rintro e w8 ⟨v8, rfl, hv8, hB8, _⟩; obtain ⟨A8, c8, rfl, _, _⟩ := hv8.reads))
      go_ret
      exact ⟨rfl, hBw6.trans (hB7.trans (hB8.trans ((Bel.refl w8).alloc _)))⟩
    · have hml0 : 0 < m.length := List.length_pos_iff.2 hmn
      have q1 : ((m.length : Int) == 0) = false := by simp; omega
      rw [show decE (x ++ m) = 11 from htail.out hmn] at hd2
      replace hmn := Aside0.mk hmn
      go_wp2_with (first | ((with_reducible refine gate_b (b := .append) (xs := #[.tmp 44, .tmp 45]) rfl ?_); refine app_bytes (w0 := w6) (Own.lit .u8 5 (Bel.refl _) [] (by decide)) ((Bel.refl _).alloc _) (hRx.alloc _) rfl _ _ rfl (by simp; omega) rfl rfl ?_; intro v1 w7 hO hB7) | ((with_reducible refine gate_b (b := .append) (xs := #[.tmp 46, .tmp 47]) rfl ?_); refine app_bytes (w0 := w6) hO hB7 (hRm.step hB7) rfl _ _ rfl (by simp; omega) rfl rfl ?_; clear hO hB7; intro v1 w7 hO hB7; obtain ⟨A7, c7, rfl, hc7, hR7⟩ := hO.reads; replace hR7 : RdB w7 A7 (x ++ m) := hR7; replace hc7 : x.length + m.length ≤ c7 := (by simpa using hc7)) | (go_at_call 15; (with_reducible refine (hd2.out A7 c7 w7 hB7 hc7 hR7).mono ?_); rintro e w8 ⟨v8, rfl, hv8, hB8, _⟩; obtain ⟨A8, c8, rfl, _, _⟩ := hv8.reads))
      go_ret
      exact ⟨rfl, hBw6.trans (hB7.trans (hB8.trans ((Bel.refl w8).alloc _)))⟩
  · go_wp2
    go_ret
    exact ⟨rfl, hB0.trans (hB1.trans hB2)⟩
theorem CodeEnds_row (A0 : Option Addr) (c0 : Nat) (l0 : List SFunc) (n : Int) (A2 : Option Addr) (c2 : Nat) (l2 : List Int) (w : World) (hG : GlobA w.heap.size w) (H0 : Rd kFunc w A0 l0) (_ : l0.length ≤ c0) (o0 : AProg l0) (n0 : 0 ≤ n) (n1 : n ≤ 65535) (H2 : RdB w A2 l2) (k2 : l2.length ≤ c2) (o2 : ABytes l2) :
    Calls Tryd.prog 7 #[.agg #[.slice A0 l0.length c0], .int .u16 n, .slice A2 l2.length c2] w fun e w' => e = .returned (.bool true) ∧ Bel w w' := CodeEnds_walk A0 c0 l0 n A2 c2 l2 w hG H0 ⟨o0⟩ n0 n1 H2 k2 ⟨fun x hx => (o2.2 x hx).ok⟩ (by have := o2.1; omega)
end Go.Proofs.YtijdmnjkiiemlaaDoor.H
