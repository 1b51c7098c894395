/- Texts of this work, joined: Pr8. Conditions: each stands with its theorem. -/
import Derived.Test.YtceibabhmomfiaaDoorX06
/- Layer 3, walks: the reader's pairs. -/
namespace Go.Proofs.YtceibabhmomfiaaDoor.H
open Go.RowKit Go.Proofs.YtceibabhmomfiaaDoorW.PrintWords Go.Proofs.YtceibabhmomfiaaDoorW.PrintLast
set_option linter.unusedVariables false
set_option linter.unusedSimpArgs false
set_option maxRecDepth 100000

theorem pair_at {W : World} {A : Option Addr} {l : List SPair} (h : Rd kPair W A l) (k : Nat) (hk : k < l.length) : ∃ ad, A = some ad ∧ W.cell? (ad.add (k * 4)) = some (.int .i64 (l[k]).f0.f0) ∧ W.cell? ⟨(ad.add (k * 4)).block, (ad.add (k * 4)).off + 1, none⟩ = some (.int .i64 (l[k]).f0.f1) ∧ W.cell? ⟨(ad.add (k * 4)).block, (ad.add (k * 4)).off + 2, none⟩ = some (.int .i64 (l[k]).f1.f0) ∧ W.cell? ⟨(ad.add (k * 4)).block, (ad.add (k * 4)).off + 3, none⟩ = some (.int .i64 (l[k]).f1.f1) := by
  obtain ⟨ad, e, h0, h1, h2, h3⟩ := at_TPair h.out (k : Int) (by omega) (by omega)
  have e1 : rd_TPair l (k : Int) = l[k] := by simp [rd_TPair, List.getD_eq_getElem?_getD, List.getElem?_eq_getElem hk]
  rw [e1] at h0 h1 h2 h3
  simp only [Int.toNat_natCast] at h0 h1 h2 h3
  exact ⟨ad, e, h0, h1, h2, h3⟩
theorem Bel.cell {wi W : World} (h : Bel wi W) {a : Addr} {v : Value} (hc : wi.cell? a = some v) : W.cell? a = some v := pw_cell_below h.out hc
theorem OwnAt.rdOf {α : Type} {d : Kd α} {e base n c : Nat} {W : World} {A : Option Addr} {xs : List α} (h : OwnAt d e base W (.slice A n c) xs) : Rd d W A xs := by
  obtain ⟨A', c', h1, _, h3⟩ := h.reads
  injection h1 with h1
  rw [h1]
  exact h3
/-- A row of one's own, whose blocks lie below n. -/
abbrev OwnLt {α : Type} (d : Kd α) (e base n : Nat) (W : World) (v : Value) (xs : List α) : Prop := Aside0 (Kd.R d e W base (fun k => k < n) v xs)
section
variable {α : Type} {d : Kd α} {e base n b : Nat} {W W1 : World} {v : Value} {xs : List α} {ts : List Nat}
theorem OwnAt.lt (h : OwnAt d e base W v xs) (hs : W.heap.size = n) : OwnLt d e base n W v xs := ⟨Kd.R_mono (Kd.R_bound h.out) (fun k hk => hs ▸ hk.2.2.1)⟩
theorem OwnLt.keep (h : OwnLt d e base n W v xs) (k : KT ts b W W1) (ht : ∀ q, q ∈ e :: d.E → q ∉ ts) : OwnLt d e base n W1 v xs :=
  ⟨Kd.R_mono (Kd.R_move (Kd.R_bound h.out) (fun i hi => by
    obtain ⟨_, _, _, q, hq, cells, hc⟩ := hi
    exact k.keep i cells q (0, 0) hc (ht q hq))) (fun _ hk => hk.1)⟩
theorem OwnLt.step (h : OwnLt d e base n W v xs) (k : Bel W W1) : OwnLt d e base n W1 v xs := ⟨Kd.R_below h.out k.out⟩
theorem OwnLt.above (h : OwnLt d e base n W v xs) (k : Below n W W1) : OwnLt d e base n W1 v xs := ⟨Kd.R_move h.out (fun i hi => k.block i hi)⟩
theorem OwnLt.at_ (h : OwnLt d e base n W v xs) : OwnAt d e base W v xs := ⟨Kd.R_mono h.out (fun _ _ => trivial)⟩
end
theorem putBase {W : World} {r : Nat} {v0 v1 a0 a1 a2 a3 : Value} (h : W.heap[r]? = some (.cells #[a0, a1, a2, a3] 73 (0, 0))) :
    ((W.setCell ⟨r, 2, none⟩ v0).setCell ⟨r, 3, none⟩ v1).heap[r]? = some (.cells #[a0, a1, v0, v1] 73 (0, 0)) ∧
    ∀ b, b ≤ r → KT [73] b W ((W.setCell ⟨r, 2, none⟩ v0).setCell ⟨r, 3, none⟩ v1) := by
  have h0 := blk_put (cs' := #[a0, a1, v0, a3]) h 2 v0 rfl
  have h1 := blk_put (cs' := #[a0, a1, v0, v1]) h0 3 v1 rfl
  exact ⟨h1, fun b hb => (KT.set h (by decide) hb 2 _).trans (KT.set h0 (by decide) hb 3 _)⟩
set_option maxHeartbeats 3000000 in
theorem ders_any (base g : Nat) (l : List Int) (e : Int) (rs : List SLoc) (B : Option Addr) (cb : Nat) (w : World) (hR : IsRA 61 base w g l e) (HB : RdK kLoc ST base w B rs) (hrs : rs.length ≤ 192) :
    Calls Tryd.prog 35 #[.pointer (some ⟨g, 0, none⟩), .slice B rs.length cb] w fun ex w' => ∃ (ds : List SPair) (v : Value), ex = .returned v ∧ Left (pDers rs) 61 base w g l e ds w' ∧ OwnAt kPair 73 w.heap.size w' v ds ∧ ds.length ≤ 192 := by
  obtain ⟨A, c, hr⟩ := hR.out
  have hbw := hr.lt
  have hcall := Aside0.mk (upto_any 192 9 (by decide) (by decide) (by decide) base g l e w hR)
  clear hr
  go_enter Tryd.func35, Tryd.ntmps35
  go_wp2_with (go_at_call 32; ((with_reducible refine hcall.out.mono ?_); rintro ex w1 ⟨n, rfl, hT, hn1⟩))
  obtain ⟨l1, e1, hran1, hR1, _⟩ := hT.ran
  have hn0 := hT.ge
  have hk1 := hT.kt
  clear hT hcall
  obtain ⟨r, hr0⟩ : ∃ r, w.heap.size = r := ⟨_, rfl⟩
  have hbr : base ≤ r := by rw [← hr0]; exact hbw
  replace hr0 := Aside0.mk hr0
  go_loopw [4, 8] (fun o i W => ∃ (k : Nat) (ds : List SPair) (lk : List Int) (ek : Int), k ≤ n.toNat ∧ i = .int .i64 k ∧ Aside0 (Ran (pGrow (pPair rs) k) l1 e1 ds lk ek) ∧ IsRA 61 base W g lk ek ∧ Aside0 (OwnAt kPair 73 r W o ds ∧ KT ST base w W) ∧ Aside0 (ds.length = k)) (fun _ i _ => n.toNat - (intOf i).toNat)
  case atStart => exact ⟨0, [], l1, e1, by omega, rfl, ⟨Ran.grow0 _ _ _⟩, hR1, ⟨OwnAt.nil _ _ _ _, hk1.out⟩, ⟨rfl⟩⟩
  case round =>
    clear hR1 hk1
    obtain ⟨k, ds, lk, ek, hk, rfl, hran, hRk, hOk, hdk⟩ := hrel
    have hrr : r ≤ wr.heap.size := by rw [← hr0.out]; exact hOk.out.2.size
    have hdl : ds.length ≤ 192 := by rw [hdk.out]; omega
    by_cases hkn : (k : Int) < n
    · have hloc := Aside0.mk (loc_any base g lk ek wr hRk)
      obtain ⟨A0, c0, rfl, _, _⟩ := hOk.out.1.reads
      go_upto_region 4 with (go_at_call 61; ((with_reducible refine hloc.out.mono ?_); rintro ex w3 ⟨x, rfl, hL⟩))
      obtain ⟨l3, e3, hran3, hR3⟩ := hL.ran
      obtain ⟨A3, c3, hr3⟩ := hR3.out
      have hBa : Bel w3 (w3.alloc (.cells #[.int .i64 x.f0, .int .i64 x.f1, .int .i64 0, .int .i64 0] 73)) := (Bel.refl w3).alloc _
      have hba := heap_alloc_new w3 (.cells #[.int .i64 x.f0, .int .i64 x.f1, .int .i64 0, .int .i64 0] 73)
      have hk3 := hOk.out.2.trans hL.kt.out
      have hO3 := hOk.out.1.keep hL.kt.out (by decide)
      have hb3 : base ≤ w3.heap.size := hr3.lt
      generalize w3.alloc (.cells #[.int .i64 x.f0, .int .i64 x.f1, .int .i64 0, .int .i64 0] 73) = wa at hBa hba ⊢
      obtain ⟨h, hh⟩ : ∃ h, w3.heap.size = h := ⟨_, rfl⟩
      rw [hh] at hba ⊢
      have hrh : r ≤ h := by rw [← hh, ← hr0.out]; exact hk3.size
      have hka := hk3.trans (KT.of_bel hBa hb3 ST)
      have hOa := (hO3.lt hh).step hBa
      have hra := hr3.step hBa
      have x0 : wa.cell? ⟨h, 0, none⟩ = some (.int .i64 x.f0) := blk_cell hba 0
      have x1 : wa.cell? ⟨h, 1, none⟩ = some (.int .i64 x.f1) := blk_cell hba 1
      have hc4 := Aside0.mk (Contains_any B cb rs x wa (HB.keep hka).now (by omega))
      have hf4 := Aside0.mk (fun (W : World) (q : Bel wa W) => fail_any base g l3 e3 5 (decide (x ∈ rs)) A3 c3 W (hra.step q))
      replace hh := Aside0.mk hh
      replace hba := Aside0.mk hba
      replace hra := Aside0.mk hra
      replace hka := Aside0.mk hka
      replace hOa := Aside0.mk hOa
      clear hL hR3 hr3 hBa hk3 hO3 hOk hRk hloc hb3
      go_upto_region 5 with (first | (go_at_call 62; ((with_reducible refine hc4.out.mono ?_); rintro ex w4 ⟨rfl, hB4⟩)) | (go_at_call 36; ((with_reducible refine (hf4.out _ hB4).mono ?_); rintro ex w5 ⟨rfl, hx5⟩)))
      have hch4 := Aside0.mk (Ran.chk (decide (x ∈ rs)) (er := 5) (by decide) l3 e3)
      obtain ⟨e4, he4⟩ : ∃ e4, (if (decide (x ∈ rs)) = true ∧ e3 = 0 then 5 else e3) = e4 := ⟨_, rfl⟩
      rw [he4] at hx5 hch4
      have hb5 := hx5.out.2.blk (bel_blk hba.out hB4) (by decide)
      have hka5 := Aside0.mk ((hka.out.trans (KT.of_bel hB4 (by have := hka.out.size; omega) ST)).trans hx5.out.2)
      have hO5 := Aside0.mk ((hOa.out.step hB4).keep hx5.out.2 (by decide))
      have hr5 := Aside0.mk hx5.out.1
      have hch5 := Aside0.mk (Ran.chk (ds.getLast?.any fun y => !befL y.f0 x) (er := 10) (by decide) l3 e4)
      clear hf4 hc4 hx5 he4 hra hka hOa hba x0 x1
      have x0 : w5.cell? ⟨h, 0, none⟩ = some (.int .i64 x.f0) := blk_cell hb5 0
      have x1 : w5.cell? ⟨h, 1, none⟩ = some (.int .i64 x.f1) := blk_cell hb5 1
      have xl := blk_lt hb5
      replace hb5 := Aside0.mk hb5
      go_cut [36] (fun _ W => ∃ e5, Aside0 (Ran (pChk (ds.getLast?.any fun y => !befL y.f0 x) 10) l3 e4 () l3 e5 ∧ IsR 61 base W g l3 e5 A3 c3 ∧ KT ST base w5 W))
      case first =>
        have hBr := Bel.refl w5
        have hBd : Bel w5 w5.drew := (Bel.refl w5).drewN 1
        have hb5' := hr5.out.lt
        have hK5 := Aside0.mk (fun (W : World) (q : Bel w5 W) => KT.of_bel q hb5' ST)
        have hS := Aside0.mk (fun (W : World) (q : KT ST base w5 W) => And.intro q (And.intro ((blk_cell (q.blk hb5.out (by decide)) 0).trans rfl : W.cell? ⟨h, 0, none⟩ = some (.int .i64 x.f0)) ((blk_cell (q.blk hb5.out (by decide)) 1).trans rfl : W.cell? ⟨h, 1, none⟩ = some (.int .i64 x.f1))))
        by_cases h0 : ds.length = 0
        · have hnil : ds = [] := List.eq_nil_of_length_eq_zero h0
          have hany : (ds.getLast?.any fun y => !befL y.f0 x) = false := by rw [hnil]; rfl
          have hch6 : Aside0 (Ran (pChk (ds.getLast?.any fun y => !befL y.f0 x) 10) l3 e4 () l3 (if false = true ∧ e4 = 0 then 10 else e4)) := ⟨by rw [hany]; exact Ran.chk false (by decide) l3 e4⟩
          have hf5 := Aside0.mk (fun (W : World) (q : Bel w5 W) => fail_any base g l3 e4 10 false A3 c3 W (hr5.out.step q))
          replace hany := Aside0.mk hany
          replace hnil := Aside0.mk hnil
          have hd0 : decide (0 < ds.length) = false := decide_eq_false (by omega)
          replace h0 := Aside0.mk h0
          refine wp_region_held_drew (S := fun w' => KT ST base w5 w' ∧ w'.cell? ⟨h, 0, none⟩ = some (.int .i64 x.f0) ∧ w'.cell? ⟨h, 1, none⟩ = some (.int .i64 x.f1)) (by kernel_rfl) (hS.out _ (hK5.out _ hBd)) (fun hHeld => ?_)
          refine wpAnyH_take (i := 0) (v := ?_) rfl (by kernel_rfl) (by kernel_rfl) (by kernel_rfl) (fun _ _ _ h => h) (Or.inl ⟨by kernel_rfl, ?_⟩) hHeld ?_
          rotate_left 1
          focus (intro w hSw; (try dsimp only at hSw); go_simp; (try with_reducible rfl); done)
          try simp only [Act.put, List.getElem_toArray, List.getElem_cons_zero, List.getElem_cons_succ, List.setIfInBounds_toArray, List.set_cons_zero, List.set_cons_succ]
          refine wpAnyH_take (i := 1) (v := ?_) rfl (by kernel_rfl) (by kernel_rfl) (by kernel_rfl) (fun _ _ _ h => h) (Or.inl ⟨by kernel_rfl, ?_⟩) hHeld ?_
          rotate_left 1
          focus (intro w hSw; (try dsimp only at hSw); go_simp; (try with_reducible rfl); done)
          try simp only [Act.put, List.getElem_toArray, List.getElem_cons_zero, List.getElem_cons_succ, List.setIfInBounds_toArray, List.set_cons_zero, List.set_cons_succ]
          refine wpAnyH_take (i := 2) (v := ?_) rfl (by kernel_rfl) (by kernel_rfl) (by kernel_rfl) (fun _ _ _ h => h) (Or.inl ⟨by kernel_rfl, ?_⟩) hHeld ?_
          rotate_left 1
          focus (intro w hSw; (try dsimp only at hSw); go_simp; (try with_reducible rfl); done)
          try simp only [Act.put, List.getElem_toArray, List.getElem_cons_zero, List.getElem_cons_succ, List.setIfInBounds_toArray, List.set_cons_zero, List.set_cons_succ]
          refine wpAnyH_take (i := 3) (v := ?_) rfl (by kernel_rfl) (by kernel_rfl) (by kernel_rfl) (fun _ _ _ h => h) (Or.inl ⟨by kernel_rfl, ?_⟩) hHeld ?_
          rotate_left 1
          focus (intro w hSw; (try dsimp only at hSw); go_simp; (try with_reducible rfl); done)
          try simp only [Act.put, List.getElem_toArray, List.getElem_cons_zero, List.getElem_cons_succ, List.setIfInBounds_toArray, List.set_cons_zero, List.set_cons_succ]
          refine wpAnyH_take (i := 4) (v := ?_) rfl (by kernel_rfl) (by kernel_rfl) (by kernel_rfl) (fun _ _ _ h => h) (Or.inl ⟨by kernel_rfl, ?_⟩) hHeld ?_
          rotate_left 1
          focus (intro w hSw; (try dsimp only at hSw); go_simp; (try with_reducible rfl); done)
          try simp only [Act.put, List.getElem_toArray, List.getElem_cons_zero, List.getElem_cons_succ, List.setIfInBounds_toArray, List.set_cons_zero, List.set_cons_succ]
          refine wpAnyH_take (i := 5) (v := undef) rfl (by kernel_rfl) (by kernel_rfl) (by kernel_rfl) (fun _ _ _ h => h) (Or.inr ⟨by kernel_rfl, rfl⟩) hHeld ?_
          try simp only [Act.put, List.getElem_toArray, List.getElem_cons_zero, List.getElem_cons_succ, List.setIfInBounds_toArray, List.set_cons_zero, List.set_cons_succ]
          refine wpAnyH_take (i := 6) (v := undef) rfl (by kernel_rfl) (by kernel_rfl) (by kernel_rfl) (fun _ _ _ h => h) (Or.inr ⟨by kernel_rfl, rfl⟩) hHeld ?_
          try simp only [Act.put, List.getElem_toArray, List.getElem_cons_zero, List.getElem_cons_succ, List.setIfInBounds_toArray, List.set_cons_zero, List.set_cons_succ]
          refine wpAnyH_take (i := 7) (v := undef) rfl (by kernel_rfl) (by kernel_rfl) (by kernel_rfl) (fun _ _ _ h => h) (Or.inr ⟨by kernel_rfl, rfl⟩) hHeld ?_
          try simp only [Act.put, List.getElem_toArray, List.getElem_cons_zero, List.getElem_cons_succ, List.setIfInBounds_toArray, List.set_cons_zero, List.set_cons_succ]
          refine wpAnyH_take (i := 8) (v := undef) rfl (by kernel_rfl) (by kernel_rfl) (by kernel_rfl) (fun _ _ _ h => h) (Or.inr ⟨by kernel_rfl, rfl⟩) hHeld ?_
          try simp only [Act.put, List.getElem_toArray, List.getElem_cons_zero, List.getElem_cons_succ, List.setIfInBounds_toArray, List.set_cons_zero, List.set_cons_succ]
          refine wpAnyH_take (i := 9) (v := undef) rfl (by kernel_rfl) (by kernel_rfl) (by kernel_rfl) (fun _ _ _ h => h) (Or.inr ⟨by kernel_rfl, rfl⟩) hHeld ?_
          try simp only [Act.put, List.getElem_toArray, List.getElem_cons_zero, List.getElem_cons_succ, List.setIfInBounds_toArray, List.set_cons_zero, List.set_cons_succ]
          refine wpAnyH_take (i := 10) (v := undef) rfl (by kernel_rfl) (by kernel_rfl) (by kernel_rfl) (fun _ _ _ h => h) (Or.inr ⟨by kernel_rfl, rfl⟩) hHeld ?_
          try simp only [Act.put, List.getElem_toArray, List.getElem_cons_zero, List.getElem_cons_succ, List.setIfInBounds_toArray, List.set_cons_zero, List.set_cons_succ]
          refine wpAnyH_take (i := 11) (v := undef) rfl (by kernel_rfl) (by kernel_rfl) (by kernel_rfl) (fun _ _ _ h => h) (Or.inr ⟨by kernel_rfl, rfl⟩) hHeld ?_
          try simp only [Act.put, List.getElem_toArray, List.getElem_cons_zero, List.getElem_cons_succ, List.setIfInBounds_toArray, List.set_cons_zero, List.set_cons_succ]
          refine wpAnyH_take (i := 12) (v := undef) rfl (by kernel_rfl) (by kernel_rfl) (by kernel_rfl) (fun _ _ _ h => h) (Or.inr ⟨by kernel_rfl, rfl⟩) hHeld ?_
          try simp only [Act.put, List.getElem_toArray, List.getElem_cons_zero, List.getElem_cons_succ, List.setIfInBounds_toArray, List.set_cons_zero, List.set_cons_succ]
          refine wpAnyH_take (i := 13) (v := undef) rfl (by kernel_rfl) (by kernel_rfl) (by kernel_rfl) (fun _ _ _ h => h) (Or.inr ⟨by kernel_rfl, rfl⟩) hHeld ?_
          try simp only [Act.put, List.getElem_toArray, List.getElem_cons_zero, List.getElem_cons_succ, List.setIfInBounds_toArray, List.set_cons_zero, List.set_cons_succ]
          refine wpAnyH_ready (rs := [14]) (by kernel_rfl) (by simp) ?_
          refine AllReadyH.cons rfl (fun K hK => ?_) AllReadyH.nil
          rw [if_neg (Bool.eq_false_iff.1 (by kernel_rfl))]
          refine hK.out _ _ hHeld (fun _ => ?_)
          clear hK K
          try simp only [Act.put, List.getElem_toArray, List.getElem_cons_zero, List.getElem_cons_succ, List.setIfInBounds_toArray, List.set_cons_zero, List.set_cons_succ]
          refine wpAnyH_take (i := 15) (v := undef) rfl (by kernel_rfl) (by kernel_rfl) (by kernel_rfl) (fun _ _ _ h => h) (Or.inr ⟨by kernel_rfl, rfl⟩) hHeld ?_
          try simp only [Act.put, List.getElem_toArray, List.getElem_cons_zero, List.getElem_cons_succ, List.setIfInBounds_toArray, List.set_cons_zero, List.set_cons_succ]
          refine wpAnyH_take (i := 16) (v := ?_) rfl (by kernel_rfl) (by kernel_rfl) (by kernel_rfl) (fun _ _ _ h => h) (Or.inl ⟨by kernel_rfl, ?_⟩) hHeld ?_
          rotate_left 1
          focus (intro w hSw; (try dsimp only at hSw); go_simp; (try with_reducible rfl); done)
          try simp only [Act.put, List.getElem_toArray, List.getElem_cons_zero, List.getElem_cons_succ, List.setIfInBounds_toArray, List.set_cons_zero, List.set_cons_succ]
          refine wpAnyH_ready (rs := [17]) (by kernel_rfl) (by simp) ?_
          refine AllReadyH.cons rfl (fun K hK => ?_) AllReadyH.nil
          go_simp
          (go_at_call 36; refine (hf5.out _ hBd).mono ?_; rintro ex w6 ⟨rfl, hx6⟩)
          refine hK.out _ _ ?_ (fun hHeld => ?_)
          rotate_left 1
          clear hK K
          try simp only [Act.put, List.getElem_toArray, List.getElem_cons_zero, List.getElem_cons_succ, List.setIfInBounds_toArray, List.set_cons_zero, List.set_cons_succ]
          rotate_left 1
          · exact hS.out _ ((hK5.out _ hBd).trans hx6.out.2)
          refine wpAnyH_done (by kernel_rfl) ?_ _
          go_wp2
          go_meet
          case rel => exact ⟨_, ⟨hch6.out, hx6.out.1, (hK5.out _ hBd).trans hx6.out.2⟩⟩
        · obtain ⟨m, hm⟩ : ∃ m, ds.length = m + 1 := ⟨ds.length - 1, by omega⟩
          have hrd := hO5.out.at_.rdOf
          obtain ⟨ad, rfl, y0, y1, q2, q3⟩ := pair_at hrd m (by omega)
          clear q2 q3
          have hany : (ds.getLast?.any fun y => !befL y.f0 x) = !befL (ds[m]'(by omega)).f0 x := by
            have e : ds.getLast? = some (ds[m]'(by omega)) := by rw [List.getLast?_eq_getElem?, show ds.length - 1 = m by omega]; exact List.getElem?_eq_getElem (by omega)
            rw [e]; rfl
          obtain ⟨y, hy⟩ : ∃ y, (ds[m]'(by omega)).f0 = y := ⟨_, rfl⟩
          rw [hy] at hany
          have hY := Aside0.mk (fun (W : World) (q : KT ST base w5 W) => show W.cell? (ad.add (m * 4)) = some (.int .i64 y.f0) ∧ W.cell? ⟨(ad.add (m * 4)).block, (ad.add (m * 4)).off + 1, none⟩ = some (.int .i64 y.f1) from by
            have hrd := (hO5.out.keep q (by decide)).at_.rdOf
            obtain ⟨ad', e', y0, y1, _, _⟩ := pair_at hrd m (by omega)
            injection e' with e'
            subst e'
            rw [hy] at y0 y1
            exact ⟨y0, y1⟩)
          have hch6 : Aside0 (Ran (pChk (ds.getLast?.any fun y => !befL y.f0 x) 10) l3 e4 () l3 (if (!befL y x) = true ∧ e4 = 0 then 10 else e4)) := ⟨by rw [hany]; exact Ran.chk _ (by decide) l3 e4⟩
          have hbf := Aside0.mk (fun (W : World) (q : Bel w5 W) => Before_any y x W)
          have hf5 := Aside0.mk (fun (W : World) (q : Bel w5 W) => fail_any base g l3 e4 10 (!befL y x) A3 c3 W (hr5.out.step q))
          have hm1 : m ≤ 192 := by omega
          replace hany := Aside0.mk hany
          clear hy y0 y1
          have hw1 : IntKind.i64.wrap ((ds.length : Int) - 1) = (m : Int) := by rw [IntKind.wrap_i64]; omega
          have hm0 : m < ds.length := by omega
          have hm2 : decide (0 < ds.length) = true := decide_eq_true (by omega)
          replace hm := Aside0.mk hm
          have hS3 := Aside0.mk (fun (W : World) (q : KT ST base w5 W) => And.intro q (And.intro (hS.out W q).2.1 (And.intro (hS.out W q).2.2 (hY.out W q))))
          refine wp_region_held_drew (S := fun w' => KT ST base w5 w' ∧ w'.cell? ⟨h, 0, none⟩ = some (.int .i64 x.f0) ∧ w'.cell? ⟨h, 1, none⟩ = some (.int .i64 x.f1) ∧ w'.cell? (ad.add (m * 4)) = some (.int .i64 y.f0) ∧ w'.cell? ⟨(ad.add (m * 4)).block, (ad.add (m * 4)).off + 1, none⟩ = some (.int .i64 y.f1)) (by kernel_rfl) (hS3.out _ (hK5.out _ hBd)) (fun hHeld => ?_)
          refine wpAnyH_take (i := 0) (v := ?_) rfl (by kernel_rfl) (by kernel_rfl) (by kernel_rfl) (fun _ _ _ h => h) (Or.inl ⟨by kernel_rfl, ?_⟩) hHeld ?_
          rotate_left 1
          focus (intro w hSw; (try dsimp only at hSw); go_simp; (try with_reducible rfl); done)
          try simp only [Act.put, List.getElem_toArray, List.getElem_cons_zero, List.getElem_cons_succ, List.setIfInBounds_toArray, List.set_cons_zero, List.set_cons_succ]
          refine wpAnyH_take (i := 1) (v := ?_) rfl (by kernel_rfl) (by kernel_rfl) (by kernel_rfl) (fun _ _ _ h => h) (Or.inl ⟨by kernel_rfl, ?_⟩) hHeld ?_
          rotate_left 1
          focus (intro w hSw; (try dsimp only at hSw); go_simp; (try with_reducible rfl); done)
          try simp only [Act.put, List.getElem_toArray, List.getElem_cons_zero, List.getElem_cons_succ, List.setIfInBounds_toArray, List.set_cons_zero, List.set_cons_succ]
          refine wpAnyH_take (i := 2) (v := ?_) rfl (by kernel_rfl) (by kernel_rfl) (by kernel_rfl) (fun _ _ _ h => h) (Or.inl ⟨by kernel_rfl, ?_⟩) hHeld ?_
          rotate_left 1
          focus (intro w hSw; (try dsimp only at hSw); go_simp; (try with_reducible rfl); done)
          try simp only [Act.put, List.getElem_toArray, List.getElem_cons_zero, List.getElem_cons_succ, List.setIfInBounds_toArray, List.set_cons_zero, List.set_cons_succ]
          refine wpAnyH_take (i := 3) (v := ?_) rfl (by kernel_rfl) (by kernel_rfl) (by kernel_rfl) (fun _ _ _ h => h) (Or.inl ⟨by kernel_rfl, ?_⟩) hHeld ?_
          rotate_left 1
          focus (intro w hSw; (try dsimp only at hSw); go_simp; (try with_reducible rfl); done)
          try simp only [Act.put, List.getElem_toArray, List.getElem_cons_zero, List.getElem_cons_succ, List.setIfInBounds_toArray, List.set_cons_zero, List.set_cons_succ]
          refine wpAnyH_take (i := 4) (v := ?_) rfl (by kernel_rfl) (by kernel_rfl) (by kernel_rfl) (fun _ _ _ h => h) (Or.inl ⟨by kernel_rfl, ?_⟩) hHeld ?_
          rotate_left 1
          focus (intro w hSw; (try dsimp only at hSw); go_simp; (try with_reducible rfl); done)
          try simp only [Act.put, List.getElem_toArray, List.getElem_cons_zero, List.getElem_cons_succ, List.setIfInBounds_toArray, List.set_cons_zero, List.set_cons_succ]
          refine wpAnyH_take (i := 5) (v := ?_) rfl (by kernel_rfl) (by kernel_rfl) (by kernel_rfl) (fun _ _ _ h => h) (Or.inl ⟨by kernel_rfl, ?_⟩) hHeld ?_
          rotate_left 1
          focus (intro w hSw; (try dsimp only at hSw); go_simp; (try with_reducible rfl); done)
          try simp only [Act.put, List.getElem_toArray, List.getElem_cons_zero, List.getElem_cons_succ, List.setIfInBounds_toArray, List.set_cons_zero, List.set_cons_succ]
          refine wpAnyH_take (i := 6) (v := ?_) rfl (by kernel_rfl) (by kernel_rfl) (by kernel_rfl) (fun _ _ _ h => h) (Or.inl ⟨by kernel_rfl, ?_⟩) hHeld ?_
          rotate_left 1
          focus (intro w hSw; (try dsimp only at hSw); go_simp; (try with_reducible rfl); done)
          try simp only [Act.put, List.getElem_toArray, List.getElem_cons_zero, List.getElem_cons_succ, List.setIfInBounds_toArray, List.set_cons_zero, List.set_cons_succ]
          refine wpAnyH_take (i := 7) (v := ?_) rfl (by kernel_rfl) (by kernel_rfl) (by kernel_rfl) (fun _ _ _ h => h) (Or.inl ⟨by kernel_rfl, ?_⟩) hHeld ?_
          rotate_left 1
          focus (intro w hSw; (try dsimp only at hSw); go_simp; (try with_reducible rfl); done)
          try simp only [Act.put, List.getElem_toArray, List.getElem_cons_zero, List.getElem_cons_succ, List.setIfInBounds_toArray, List.set_cons_zero, List.set_cons_succ]
          refine wpAnyH_take (i := 8) (v := ?_) rfl (by kernel_rfl) (by kernel_rfl) (by kernel_rfl) (fun _ _ _ h => h) (Or.inl ⟨by kernel_rfl, ?_⟩) hHeld ?_
          rotate_left 1
          focus (intro w hSw; (try dsimp only at hSw); go_simp; (try with_reducible rfl); done)
          try simp only [Act.put, List.getElem_toArray, List.getElem_cons_zero, List.getElem_cons_succ, List.setIfInBounds_toArray, List.set_cons_zero, List.set_cons_succ]
          refine wpAnyH_take (i := 9) (v := ?_) rfl (by kernel_rfl) (by kernel_rfl) (by kernel_rfl) (fun _ _ _ h => h) (Or.inl ⟨by kernel_rfl, ?_⟩) hHeld ?_
          rotate_left 1
          focus (intro w hSw; (try dsimp only at hSw); go_simp; (try with_reducible rfl); done)
          try simp only [Act.put, List.getElem_toArray, List.getElem_cons_zero, List.getElem_cons_succ, List.setIfInBounds_toArray, List.set_cons_zero, List.set_cons_succ]
          refine wpAnyH_take (i := 10) (v := ?_) rfl (by kernel_rfl) (by kernel_rfl) (by kernel_rfl) (fun _ _ _ h => h) (Or.inl ⟨by kernel_rfl, ?_⟩) hHeld ?_
          rotate_left 1
          focus (intro w hSw; (try dsimp only at hSw); go_simp; (try with_reducible rfl); done)
          try simp only [Act.put, List.getElem_toArray, List.getElem_cons_zero, List.getElem_cons_succ, List.setIfInBounds_toArray, List.set_cons_zero, List.set_cons_succ]
          refine wpAnyH_take (i := 11) (v := ?_) rfl (by kernel_rfl) (by kernel_rfl) (by kernel_rfl) (fun _ _ _ h => h) (Or.inl ⟨by kernel_rfl, ?_⟩) hHeld ?_
          rotate_left 1
          focus (intro w hSw; (try dsimp only at hSw); go_simp; (try with_reducible rfl); done)
          try simp only [Act.put, List.getElem_toArray, List.getElem_cons_zero, List.getElem_cons_succ, List.setIfInBounds_toArray, List.set_cons_zero, List.set_cons_succ]
          refine wpAnyH_take (i := 12) (v := ?_) rfl (by kernel_rfl) (by kernel_rfl) (by kernel_rfl) (fun _ _ _ h => h) (Or.inl ⟨by kernel_rfl, ?_⟩) hHeld ?_
          rotate_left 1
          focus (intro w hSw; (try dsimp only at hSw); go_simp; (try with_reducible rfl); done)
          try simp only [Act.put, List.getElem_toArray, List.getElem_cons_zero, List.getElem_cons_succ, List.setIfInBounds_toArray, List.set_cons_zero, List.set_cons_succ]
          refine wpAnyH_take (i := 13) (v := ?_) rfl (by kernel_rfl) (by kernel_rfl) (by kernel_rfl) (fun _ _ _ h => h) (Or.inl ⟨by kernel_rfl, ?_⟩) hHeld ?_
          rotate_left 1
          focus (intro w hSw; (try dsimp only at hSw); go_simp; (try with_reducible rfl); done)
          try simp only [Act.put, List.getElem_toArray, List.getElem_cons_zero, List.getElem_cons_succ, List.setIfInBounds_toArray, List.set_cons_zero, List.set_cons_succ]
          refine wpAnyH_ready (rs := [14]) (by kernel_rfl) (by simp) ?_
          refine AllReadyH.cons rfl (fun K hK => ?_) AllReadyH.nil
          go_simp
          (go_at_call 63; refine (hbf.out _ hBd).mono ?_; rintro ex w6 ⟨rfl, hB6⟩)
          refine hK.out _ _ ?_ (fun hHeld => ?_)
          rotate_left 1
          clear hK K
          try simp only [Act.put, List.getElem_toArray, List.getElem_cons_zero, List.getElem_cons_succ, List.setIfInBounds_toArray, List.set_cons_zero, List.set_cons_succ]
          rotate_left 1
          · exact hS3.out _ (hK5.out _ (hBd.trans hB6))
          refine wpAnyH_take (i := 15) (v := ?_) rfl (by kernel_rfl) (by kernel_rfl) (by kernel_rfl) (fun _ _ _ h => h) (Or.inl ⟨by kernel_rfl, ?_⟩) hHeld ?_
          rotate_left 1
          focus (intro w hSw; (try dsimp only at hSw); go_simp; (try with_reducible rfl); done)
          try simp only [Act.put, List.getElem_toArray, List.getElem_cons_zero, List.getElem_cons_succ, List.setIfInBounds_toArray, List.set_cons_zero, List.set_cons_succ]
          refine wpAnyH_take (i := 16) (v := ?_) rfl (by kernel_rfl) (by kernel_rfl) (by kernel_rfl) (fun _ _ _ h => h) (Or.inl ⟨by kernel_rfl, ?_⟩) hHeld ?_
          rotate_left 1
          focus (intro w hSw; (try dsimp only at hSw); go_simp; (try with_reducible rfl); done)
          try simp only [Act.put, List.getElem_toArray, List.getElem_cons_zero, List.getElem_cons_succ, List.setIfInBounds_toArray, List.set_cons_zero, List.set_cons_succ]
          refine wpAnyH_ready (rs := [17]) (by kernel_rfl) (by simp) ?_
          refine AllReadyH.cons rfl (fun K hK => ?_) AllReadyH.nil
          go_simp
          (go_at_call 36; refine (hf5.out _ (hBd.trans hB6)).mono ?_; rintro ex w7 ⟨rfl, hx7⟩)
          refine hK.out _ _ ?_ (fun hHeld => ?_)
          rotate_left 1
          clear hK K
          try simp only [Act.put, List.getElem_toArray, List.getElem_cons_zero, List.getElem_cons_succ, List.setIfInBounds_toArray, List.set_cons_zero, List.set_cons_succ]
          rotate_left 1
          · exact hS3.out _ ((hK5.out _ (hBd.trans hB6)).trans hx7.out.2)
          refine wpAnyH_done (by kernel_rfl) ?_ _
          go_wp2
          go_meet
          case rel => exact ⟨_, ⟨hch6.out, hx7.out.1, (hK5.out _ (hBd.trans hB6)).trans hx7.out.2⟩⟩
      case rest =>
        obtain ⟨e5, hc5⟩ := hcut
        have hr6 := Aside0.mk hc5.out.2.1
        have hran5 := Aside0.mk hc5.out.1
        have hka6 := Aside0.mk (hka5.out.trans hc5.out.2.2)
        have hO6 := Aside0.mk (hO5.out.keep hc5.out.2.2 (by decide))
        have hb6 := Aside0.mk (hc5.out.2.2.blk hb5.out (by decide))
        clear hc5 hch5 hr5 hka5 hO5 hb5 x0 x1 xl
        have hloc := Aside0.mk (loc_any base g l3 e5 wc ⟨⟨_, _, hr6.out⟩⟩)
        go_upto_region 7 with (go_at_call 61; ((with_reducible refine hloc.out.mono ?_); rintro ex w7 ⟨z, rfl, hL⟩; have hb7 := hL.kt.out.blk hb6.out (by decide); have z2 := blk_frozen hb7 2; have z3 := blk_frozen hb7 3; have q2 := blk_cell hb7 2; have q3 := blk_cell hb7 3))
        obtain ⟨l7, e7, hran7, hR7⟩ := hL.ran
        obtain ⟨A7, c7, hr7⟩ := hR7.out
        have hp := putBase (v0 := .int .i64 z.f0) (v1 := .int .i64 z.f1) (hL.kt.out.blk hb6.out (by decide))
        have hbh : base ≤ h := Nat.le_trans hbr hrh
        have hp2 := hp.2 base hbh
        have hp3 := (hp.2 h (Nat.le_refl _)).below
        have hr8 := hr7.keep hp2 (by decide) (by decide)
        have hwh : w.heap.size ≤ h := by rw [hr0.out]; exact hrh
        have hka8 := (hka6.out.trans hL.kt.out).after (hp3.mono hwh) hbw
        have hO8 := (hO6.out.keep hL.kt.out (by decide)).above hp3
        have hb8 := hp.1
        generalize (w7.setCell ⟨h, 2, none⟩ (.int .i64 z.f0)).setCell ⟨h, 3, none⟩ (.int .i64 z.f1) = w8 at hp hp2 hp3 hr8 hka8 hb8 hO8 ⊢
        clear hp hp2 hp3 hL hR7 hr7 hO6 hka6 hb6 hr6 hloc
        have x0 : w8.cell? ⟨h, 0, none⟩ = some (.int .i64 x.f0) := blk_cell hb8 0
        have x1 : w8.cell? ⟨h, 1, none⟩ = some (.int .i64 x.f1) := blk_cell hb8 1
        have x2 : w8.cell? ⟨h, 2, none⟩ = some (.int .i64 z.f0) := blk_cell hb8 2
        have x3 : w8.cell? ⟨h, 3, none⟩ = some (.int .i64 z.f1) := blk_cell hb8 3
        have hc9 := Aside0.mk (Contains_any B cb rs z w8 (HB.keep hka8).now (by omega))
        have hf9 := Aside0.mk (fun (W : World) (q : Bel w8 W) => fail_any base g l7 e7 5 (!decide (z ∈ rs)) A7 c7 W (hr8.step q))
        have hb8l := hr8.lt
        replace hb8 := Aside0.mk hb8
        replace hr8 := Aside0.mk hr8
        replace hka8 := Aside0.mk hka8
        replace hO8 := Aside0.mk hO8
        go_upto_region 8 with (first | (go_at_call 62; ((with_reducible refine hc9.out.mono ?_); rintro ex w9 ⟨rfl, hB9⟩)) | (go_at_call 36; ((with_reducible refine (hf9.out _ hB9).mono ?_); rintro ex w10 ⟨rfl, hx10⟩)))
        have hch9 := Aside0.mk (Ran.chk (!decide (z ∈ rs)) (er := 5) (by decide) l7 e7)
        obtain ⟨e9, he9⟩ : ∃ e9, (if (!decide (z ∈ rs)) = true ∧ e7 = 0 then 5 else e7) = e9 := ⟨_, rfl⟩
        rw [he9] at hx10 hch9
        have hb10 := hx10.out.2.blk (bel_blk hb8.out hB9) (by decide)
        have hka10 := Aside0.mk ((hka8.out.trans (KT.of_bel hB9 hb8l ST)).trans hx10.out.2)
        have hO10 := Aside0.mk ((hO8.out.step hB9).keep hx10.out.2 (by decide)).at_
        have hr10 := Aside0.mk hx10.out.1
        clear hf9 hc9 hx10 he9 x0 x1 x2 x3
        have x0 : w10.cell? ⟨h, 0, none⟩ = some (.int .i64 x.f0) := blk_cell hb10 0
        have x1 : w10.cell? ⟨h, 1, none⟩ = some (.int .i64 x.f1) := blk_cell hb10 1
        have x2 : w10.cell? ⟨h, 2, none⟩ = some (.int .i64 z.f0) := blk_cell hb10 2
        have x3 : w10.cell? ⟨h, 3, none⟩ = some (.int .i64 z.f1) := blk_cell hb10 3
        replace hb10 := Aside0.mk hb10
        have hrr10 : r ≤ w10.heap.size := by rw [← hr0.out]; exact hka10.out.size
        go_wp2_with ((with_reducible refine gate_b (b := .append) rfl ?_); (refine app_pair_at_ (xs := ds) (⟨x, z⟩ : SPair) [.int .i64 x.f0, .int .i64 x.f1, .int .i64 z.f0, .int .i64 z.f1] hO10.out ⟨kPair_mkM _ _ _ (⟨x, z⟩ : SPair)⟩ hrr10 rfl _ _ rfl ?hl1 rfl rfl ?_); (case hl1 => omega); intro v1 w11 hO1 hK1)
        go_roundw
        case rel =>
          refine ⟨k + 1, ds ++ [⟨x, z⟩], l7, e9, by omega, by go_num, ⟨hran.out.grow1 ?_⟩, ⟨⟨_, _, hr10.out.keep (hK1.mono hbr (fun _ z => z)) (by decide) (by decide)⟩⟩, ⟨hO1, hka10.out.after (by rw [hr0.out]; exact hK1.below) hbw⟩, ⟨by rw [List.length_append, hdk.out]; rfl⟩⟩
          exact hran3.out.bind (hch4.out.bind (hran5.out.bind (hran7.out.bind (hch9.out.bind (Ran.ret _ _ _)))))
        case measure => simp [intOf]; omega
    · have hkk : Aside0 (k = n.toNat) := ⟨by omega⟩
      go_wp2
      go_ret
      exact ⟨ds, _, rfl, ⟨⟨lk, ek, ⟨hran1.out.bind (hkk.out ▸ hran.out)⟩, hRk⟩, ⟨hOk.out.2⟩⟩, by rw [hr0.out]; exact hOk.out.1, hdl⟩
end Go.Proofs.YtceibabhmomfiaaDoor.H
