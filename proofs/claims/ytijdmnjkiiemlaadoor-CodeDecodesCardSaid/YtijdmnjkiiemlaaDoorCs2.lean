/- Layer 3, walks: the same programs, as the code tells it. -/
import Derived.Test.YtijdmnjkiiemlaaDoorCs1
import Derived.Test.YtijdmnjkiiemlaaDoorCw6
import Derived.Laws.EntriesVeiled
namespace Go.Proofs.YtijdmnjkiiemlaaDoor.H
open Go.RowKit Go.Proofs.YtijdmnjkiiemlaaDoorW.PrintWords Go.Proofs.YtijdmnjkiiemlaaDoorW.PrintLast
set_option linter.unusedVariables false
set_option linter.unusedSimpArgs false

theorem func_ext {f g : SFunc} (h2 : f.f2 = g.f2) (h3 : f.f3 = g.f3) (h0 : f.f0 = g.f0) (h1 : f.f1 = g.f1) (h4 : f.f4 = g.f4) : f = g := by
  obtain ⟨a, b, c, d, e⟩ := f
  obtain ⟨a', b', c', d', e'⟩ := g
  simp only at h0 h1 h2 h3 h4
  rw [h0, h1, h2, h3, h4]

set_option maxRecDepth 100000
set_option maxHeartbeats 4000000 in
theorem eqIns_any (A0 A1 : Option Addr) (c0 c1 : Nat) (l0 l1 : List SIns) (w : World)  (P : Prop) (hP : Aside0 (P ↔ l0 = l1)) (H0 : Rd kIns w A0 l0) (H1 : Rd kIns w A1 l1) :
    Calls Tryd.prog 28 #[.slice A0 l0.length c0, .slice A1 l1.length c1, .func (.func 29) #[] #[]] w (SameP P w) := by
  have hm := H0.len
  have hm1 := H1.len
  by_cases hl : l0.length = l1.length
  · have b1 : ((l0.length : Int) == (l1.length : Int)) = true := by simp [hl]
    have b2 : ((l0.length : Int) != (l1.length : Int)) = false := by simp [hl]
    have b3 : (l0.length == l1.length) = true := by simp [hl]
    have hl' := Aside0.mk hl
    clear hl
    go_enter Tryd.func28, Tryd.ntmps28
    go_wp2
    go_loopw [17] (fun i W => ∃ k : Nat, k ≤ l0.length ∧ i = .int .i64 k ∧ Aside0 (∀ j (hj : j < l0.length) (hj1 : j < l1.length), j < k → l0[j] = l1[j]) ∧ Bel w W) (fun i _ => l0.length - (intOf i).toNat)
    case atStart => exact ⟨0, by omega, rfl, ⟨fun j _ _ h => by omega⟩, Bel.refl _⟩
    case round =>
      obtain ⟨k, hk, rfl, hs, hB⟩ := hrel
      by_cases hlt : k < l0.length
      · have hlt1 : k < l1.length := by have := hl'.out; omega
        obtain ⟨ad, A6, c6, rfl, h0, h1, h2, h3, h4, h5, h6, hc6, hR6⟩ := ins_at (H0.step hB) k hlt
        obtain ⟨ad', A6', c6', rfl, h0', h1', h2', h3', h4', h5', h6', hc6', hR6'⟩ := ins_at (H1.step hB) k hlt1
        have hne := Aside0.mk (fun (h : ¬ l0[k] = l1[k]) (hp : P) => h (by have e := hP.out.1 hp; simp only [e]))
        have hsn := Aside0.mk (fun h => lists_snoc hlt hlt1 hs.out h)
        obtain ⟨x, hx⟩ : ∃ x, Aside0 (l0[k] = x) := ⟨_, ⟨rfl⟩⟩
        obtain ⟨y, hy⟩ : ∃ y, Aside0 (l1[k] = y) := ⟨_, ⟨rfl⟩⟩
        rw [hx.out] at h0 h1 h2 h3 h4 h5 h6 hc6 hR6
        rw [hy.out] at h0' h1' h2' h3' h4' h5' h6' hc6' hR6'
        rw [hx.out, hy.out] at hne hsn
        obtain ⟨Q, hQ⟩ : ∃ Q : Prop, Aside0 (Q ↔ x = y) := ⟨_, ⟨Iff.rfl⟩⟩
        have hcall := Aside0.mk (fun W (q : Bel wr W) => csame_any x y A6 A6' c6 c6' W Q hQ (hR6.step q) (hR6'.step q))
        unfold insV at hcall
        clear hc6 hc6' hR6 hR6'
        (replace h0' := fun o => Bel.cell ((Bel.refl wr).alloc o) h0'; replace h1' := fun o => Bel.cell ((Bel.refl wr).alloc o) h1'; replace h2' := fun o => Bel.cell ((Bel.refl wr).alloc o) h2'; replace h3' := fun o => Bel.cell ((Bel.refl wr).alloc o) h3'; replace h4' := fun o => Bel.cell ((Bel.refl wr).alloc o) h4'; replace h5' := fun o => Bel.cell ((Bel.refl wr).alloc o) h5'; replace h6' := fun o => Bel.cell ((Bel.refl wr).alloc o) h6')
        by_cases he : x = y
        · have hyes := Aside0.mk (fun W (q : Bel wr W) => (hcall.out W q).mono (fun e w' h => h.yes (hQ.out.2 he)))
          have hs1 := Aside0.mk (hsn.out he)
          clear hcall he hne hsn
          go_wp2_with (go_at_call 29; ((with_reducible refine (hyes.out _ (((Bel.refl wr).alloc _).alloc _)).mono ?_); rintro e w' ⟨rfl, hB1⟩))
          go_roundw
          case rel => exact ⟨k + 1, by omega, by go_num, hs1, (hB.trans (((Bel.refl wr).alloc _).alloc _)).trans hB1⟩
          case measure => simp [intOf]; omega
        · have hno := Aside0.mk (fun W (q : Bel wr W) => (hcall.out W q).mono (fun e w' h => h.no (fun q => he (hQ.out.1 q))))
          have hnp := Aside0.mk (hne.out he)
          clear hcall he hne hsn
          go_wp2_with (go_at_call 29; ((with_reducible refine (hno.out _ (((Bel.refl wr).alloc _).alloc _)).mono ?_); rintro e w' ⟨rfl, hB1⟩))
          go_ret
          exact SameP.mk0 hnp.out ((hB.trans (((Bel.refl wr).alloc _).alloc _)).trans hB1)
      · have hall := Aside0.mk (hP.out.2 (lists_eq hl'.out (fun j hj hj1 _ => hs.out j hj hj1 (by omega))))
        go_wp2
        go_ret
        exact SameP.mk1 hall.out hB
  · have b1 : ((l0.length : Int) == (l1.length : Int)) = false := by simp; omega
    have b2 : ((l0.length : Int) != (l1.length : Int)) = true := by simp; omega
    have b3 : (l0.length == l1.length) = false := by simpa using hl
    have hne := Aside0.mk (fun (h : P) => hl (by rw [hP.out.1 h]))
    clear hl
    go_enter Tryd.func28, Tryd.ntmps28
    go_wp2
    go_ret
    exact SameP.mk0 hne.out (Bel.refl _)

/-- blocks: their instructions -/
theorem blkSame_any (A0 A1 : Option Addr) (c0 c1 : Nat) (b0 b1 : SBlock) (w : World) (P : Prop) (hP : Aside0 (P ↔ b0 = b1)) (H0 : Rd kIns w A0 b0.f0) (H1 : Rd kIns w A1 b1.f0) :
    Calls Tryd.prog 27 #[.agg #[.slice A0 b0.f0.length c0], .agg #[.slice A1 b1.f0.length c1]] w (SameP P w) := by
  have hB0 := ((Bel.refl w).alloc (.cells #[.slice A0 b0.f0.length c0] 48)).alloc (.cells #[.slice A1 b1.f0.length c1] 48)
  have hP' : Aside0 (P ↔ b0.f0 = b1.f0) := ⟨hP.out.trans ⟨fun h => by rw [h], fun h => by cases b0; cases b1; simp only at h; rw [h]⟩⟩
  have hcall := Aside0.mk (fun W (q : Bel w W) => eqIns_any A0 A1 c0 c1 b0.f0 b1.f0 W P hP' (H0.step q) (H1.step q))
  go_enter Tryd.func27, Tryd.ntmps27
  go_wp2_with (go_at_call 28; ((with_reducible refine (hcall.out _ hB0).mono ?_); rintro e w' ⟨b, rfl, hb, hB1⟩))
  go_ret
  exact ⟨b, rfl, hb, hB0.trans hB1⟩

set_option maxRecDepth 100000
set_option maxHeartbeats 4000000 in
theorem eqBlock_any (A0 A1 : Option Addr) (c0 c1 : Nat) (l0 l1 : List SBlock) (w : World)  (P : Prop) (hP : Aside0 (P ↔ l0 = l1)) (H0 : Rd kBlock w A0 l0) (H1 : Rd kBlock w A1 l1) :
    Calls Tryd.prog 33 #[.slice A0 l0.length c0, .slice A1 l1.length c1, .func (.func 27) #[] #[]] w (SameP P w) := by
  have hm := H0.len
  have hm1 := H1.len
  by_cases hl : l0.length = l1.length
  · have b1 : ((l0.length : Int) == (l1.length : Int)) = true := by simp [hl]
    have b2 : ((l0.length : Int) != (l1.length : Int)) = false := by simp [hl]
    have b3 : (l0.length == l1.length) = true := by simp [hl]
    have hl' := Aside0.mk hl
    clear hl
    go_enter Tryd.func33, Tryd.ntmps33
    go_wp2
    go_loopw [17] (fun i W => ∃ k : Nat, k ≤ l0.length ∧ i = .int .i64 k ∧ Aside0 (∀ j (hj : j < l0.length) (hj1 : j < l1.length), j < k → l0[j] = l1[j]) ∧ Bel w W) (fun i _ => l0.length - (intOf i).toNat)
    case atStart => exact ⟨0, by omega, rfl, ⟨fun j _ _ h => by omega⟩, Bel.refl _⟩
    case round =>
      obtain ⟨k, hk, rfl, hs, hB⟩ := hrel
      by_cases hlt : k < l0.length
      · have hlt1 : k < l1.length := by have := hl'.out; omega
        obtain ⟨ad, A6, c6, rfl, h0, hc6, hR6⟩ := block_at (H0.step hB) k hlt
        obtain ⟨ad', A6', c6', rfl, h0', hc6', hR6'⟩ := block_at (H1.step hB) k hlt1
        have hne := Aside0.mk (fun (h : ¬ l0[k] = l1[k]) (hp : P) => h (by have e := hP.out.1 hp; simp only [e]))
        have hsn := Aside0.mk (fun h => lists_snoc hlt hlt1 hs.out h)
        obtain ⟨x, hx⟩ : ∃ x, Aside0 (l0[k] = x) := ⟨_, ⟨rfl⟩⟩
        obtain ⟨y, hy⟩ : ∃ y, Aside0 (l1[k] = y) := ⟨_, ⟨rfl⟩⟩
        rw [hx.out] at h0 hc6 hR6
        rw [hy.out] at h0' hc6' hR6'
        rw [hx.out, hy.out] at hne hsn
        obtain ⟨Q, hQ⟩ : ∃ Q : Prop, Aside0 (Q ↔ x = y) := ⟨_, ⟨Iff.rfl⟩⟩
        have hcall := Aside0.mk (fun W (q : Bel wr W) => blkSame_any A6 A6' c6 c6' x y W Q hQ (hR6.step q) (hR6'.step q))
        skip
        clear hc6 hc6' hR6 hR6'
        (replace h0' := fun o => Bel.cell ((Bel.refl wr).alloc o) h0')
        by_cases he : x = y
        · have hyes := Aside0.mk (fun W (q : Bel wr W) => (hcall.out W q).mono (fun e w' h => h.yes (hQ.out.2 he)))
          have hs1 := Aside0.mk (hsn.out he)
          clear hcall he hne hsn
          go_wp2_with (go_at_call 27; ((with_reducible refine (hyes.out _ (((Bel.refl wr).alloc _).alloc _)).mono ?_); rintro e w' ⟨rfl, hB1⟩))
          go_roundw
          case rel => exact ⟨k + 1, by omega, by go_num, hs1, (hB.trans (((Bel.refl wr).alloc _).alloc _)).trans hB1⟩
          case measure => simp [intOf]; omega
        · have hno := Aside0.mk (fun W (q : Bel wr W) => (hcall.out W q).mono (fun e w' h => h.no (fun q => he (hQ.out.1 q))))
          have hnp := Aside0.mk (hne.out he)
          clear hcall he hne hsn
          go_wp2_with (go_at_call 27; ((with_reducible refine (hno.out _ (((Bel.refl wr).alloc _).alloc _)).mono ?_); rintro e w' ⟨rfl, hB1⟩))
          go_ret
          exact SameP.mk0 hnp.out ((hB.trans (((Bel.refl wr).alloc _).alloc _)).trans hB1)
      · have hall := Aside0.mk (hP.out.2 (lists_eq hl'.out (fun j hj hj1 _ => hs.out j hj hj1 (by omega))))
        go_wp2
        go_ret
        exact SameP.mk1 hall.out hB
  · have b1 : ((l0.length : Int) == (l1.length : Int)) = false := by simp; omega
    have b2 : ((l0.length : Int) != (l1.length : Int)) = true := by simp; omega
    have b3 : (l0.length == l1.length) = false := by simpa using hl
    have hne := Aside0.mk (fun (h : P) => hl (by rw [hP.out.1 h]))
    clear hl
    go_enter Tryd.func33, Tryd.ntmps33
    go_wp2
    go_ret
    exact SameP.mk0 hne.out (Bel.refl _)

set_option maxHeartbeats 4000000 in
theorem fnSame_any (f g : SFunc) (A0 A1 A4 B0 B1 B4 : Option Addr) (c0 c1 c4 d0 d1 d4 : Nat) (w : World) (j : Nat) (hj : w.cell? ⟨j, 0, none⟩ = some (.func (.func 27) #[] #[])) (P : Prop) (hP : Aside0 (P ↔ f = g))
    (H0 : RdI w A0 f.f0) (H1 : RdI w A1 f.f1) (H4 : Rd kBlock w A4 f.f4) (K0 : RdI w B0 g.f0) (K1 : RdI w B1 g.f1) (K4 : Rd kBlock w B4 g.f4) :
    Calls Tryd.prog 31 #[funcV f A0 A1 A4 c0 c1 c4, funcV g B0 B1 B4 d0 d1 d4, .pointer (some ⟨j, 0, none⟩)] w (SameP P w) := by
  have hl0 := H0.len
  have hl1 := H1.len
  have hB0 := ((Bel.refl w).alloc (.cells #[.slice A0 f.f0.length c0, .slice A1 f.f1.length c1, .int .i64 f.f2, .int .i64 f.f3, .slice A4 f.f4.length c4] 43)).alloc (.cells #[.slice B0 g.f0.length d0, .slice B1 g.f1.length d1, .int .i64 g.f2, .int .i64 g.f3, .slice B4 g.f4.length d4] 43)
  unfold funcV
  have hce0 := Aside0.mk (fun W (q : Bel w W) => slEqual_any A0 B0 c0 d0 f.f0 g.f0 W (H0.step q) (K0.step q) hl0)
  have hce1 := Aside0.mk (fun W (q : Bel w W) => slEqual_any A1 B1 c1 d1 f.f1 g.f1 W (H1.step q) (K1.step q) hl1)
  have hce4 := Aside0.mk (fun W (q : Bel w W) => eqBlock_any A4 B4 c4 d4 f.f4 g.f4 W (f.f4 = g.f4) ⟨Iff.rfl⟩ (H4.step q) (K4.step q))
  clear H0 H1 H4 K0 K1 K4
  replace hj := Bel.cell hB0 hj
  by_cases e2 : f.f2 = g.f2
  case neg =>
    have b2 : (f.f2 == g.f2) = false := by simpa using e2
    have hne : Aside0 (¬ P) := ⟨fun h => e2 (by rw [hP.out.1 h])⟩
    clear e2
    go_enter Tryd.func31, Tryd.ntmps31
    go_wp2
    go_ret
    exact SameP.mk0 hne.out hB0
  have b2 : (f.f2 == g.f2) = true := by simpa using e2
  replace e2 := Aside0.mk e2
  by_cases e3 : f.f3 = g.f3
  case neg =>
    have b3 : (f.f3 == g.f3) = false := by simpa using e3
    have hne : Aside0 (¬ P) := ⟨fun h => e3 (by rw [hP.out.1 h])⟩
    clear e3
    go_enter Tryd.func31, Tryd.ntmps31
    go_wp2
    go_ret
    exact SameP.mk0 hne.out hB0
  have b3 : (f.f3 == g.f3) = true := by simpa using e3
  replace e3 := Aside0.mk e3
  by_cases e0 : f.f0 = g.f0
  case neg =>
    have b0 : decide (f.f0 = g.f0) = false := decide_eq_false e0
    have hne : Aside0 (¬ P) := ⟨fun h => e0 (by rw [hP.out.1 h])⟩
    clear e0
    rw [b0] at hce0
    clear b0
    go_enter Tryd.func31, Tryd.ntmps31
    go_wp2_with (go_at_call 32; ((with_reducible refine (hce0.out _ hB0).mono ?_); rintro e w' ⟨rfl, hd⟩))
    go_ret
    exact SameP.mk0 hne.out (hB0.trans (Bel.drawn hd))
  have b0 : decide (f.f0 = g.f0) = true := decide_eq_true e0
  rw [b0] at hce0
  replace e0 := Aside0.mk e0
  clear b0
  by_cases e1 : f.f1 = g.f1
  case neg =>
    have b1 : decide (f.f1 = g.f1) = false := decide_eq_false e1
    have hne : Aside0 (¬ P) := ⟨fun h => e1 (by rw [hP.out.1 h])⟩
    clear e1
    rw [b1] at hce1
    clear b1
    go_enter Tryd.func31, Tryd.ntmps31
    go_wp2_with (first | (go_at_call 32; ((with_reducible refine (hce0.out _ hB0).mono ?_); rintro e w1 ⟨rfl, ⟨n1, rfl⟩⟩; have hB1 := Bel.drewN hB0 n1)) | (go_at_call 32; ((with_reducible refine (hce1.out _ hB1).mono ?_); rintro e w2 ⟨rfl, ⟨n2, rfl⟩⟩; have hB2 := Bel.drewN hB0 (n1 + n2))))
    go_ret
    exact SameP.mk0 hne.out hB2
  have b1 : decide (f.f1 = g.f1) = true := decide_eq_true e1
  rw [b1] at hce1
  have hiff : Aside0 ((f.f4 = g.f4) ↔ P) := ⟨⟨fun h => hP.out.2 (func_ext e2.out e3.out e0.out e1 h), fun h => by rw [hP.out.1 h]⟩⟩
  clear b1 e1 e2 e3 e0
  go_enter Tryd.func31, Tryd.ntmps31
  go_wp2_with (first | (go_at_call 32; ((with_reducible refine (hce0.out _ hB0).mono ?_); rintro e w1 ⟨rfl, ⟨n1, rfl⟩⟩; have hB1 := Bel.drewN hB0 n1)) | ((go_at_call 32; ((with_reducible refine (hce1.out _ hB1).mono ?_); rintro e w2 ⟨rfl, ⟨n2, rfl⟩⟩; have hB2 := Bel.drewN hB0 (n1 + n2)))) | (go_at_call 33; ((with_reducible refine (hce4.out _ hB2).mono ?_); rintro e w' ⟨b, rfl, hb, hB3⟩)))
  go_ret
  exact ⟨b, rfl, ⟨hb.out.trans hiff.out⟩, hB2.trans hB3⟩

set_option maxRecDepth 100000
set_option maxHeartbeats 4000000 in
theorem eqFunc_any (A0 A1 : Option Addr) (c0 c1 : Nat) (l0 l1 : List SFunc) (w : World) (jj : Nat) (hjj : w.cell? ⟨jj, 0, none⟩ = some (.func (.func 27) #[] #[])) (P : Prop) (hP : Aside0 (P ↔ l0 = l1)) (H0 : Rd kFunc w A0 l0) (H1 : Rd kFunc w A1 l1) :
    Calls Tryd.prog 30 #[.slice A0 l0.length c0, .slice A1 l1.length c1, .func (.func 31) #[] #[.pointer (some ⟨jj, 0, none⟩)]] w (SameP P w) := by
  have hm := H0.len
  have hm1 := H1.len
  by_cases hl : l0.length = l1.length
  · have b1 : ((l0.length : Int) == (l1.length : Int)) = true := by simp [hl]
    have b2 : ((l0.length : Int) != (l1.length : Int)) = false := by simp [hl]
    have b3 : (l0.length == l1.length) = true := by simp [hl]
    have hl' := Aside0.mk hl
    clear hl
    go_enter Tryd.func30, Tryd.ntmps30
    go_wp2
    go_loopw [17] (fun i W => ∃ k : Nat, k ≤ l0.length ∧ i = .int .i64 k ∧ Aside0 (∀ j (hj : j < l0.length) (hj1 : j < l1.length), j < k → l0[j] = l1[j]) ∧ Bel w W) (fun i _ => l0.length - (intOf i).toNat)
    case atStart => exact ⟨0, by omega, rfl, ⟨fun j _ _ h => by omega⟩, Bel.refl _⟩
    case round =>
      obtain ⟨k, hk, rfl, hs, hB⟩ := hrel
      by_cases hlt : k < l0.length
      · have hlt1 : k < l1.length := by have := hl'.out; omega
        obtain ⟨ad, A0', A1', A4', c0', c1', c4', rfl, h0, h1, h2, h3, h4, hR0, hR1, hR4, hc0, hc1, hc4⟩ := func_at (H0.step hB) k hlt
        obtain ⟨ad', B0', B1', B4', d0', d1', d4', rfl, g0, g1, g2, g3, g4, gR0, gR1, gR4, gc0, gc1, gc4⟩ := func_at (H1.step hB) k hlt1
        have hne := Aside0.mk (fun (h : ¬ l0[k] = l1[k]) (hp : P) => h (by have e := hP.out.1 hp; simp only [e]))
        have hsn := Aside0.mk (fun h => lists_snoc hlt hlt1 hs.out h)
        obtain ⟨x, hx⟩ : ∃ x, Aside0 (l0[k] = x) := ⟨_, ⟨rfl⟩⟩
        obtain ⟨y, hy⟩ : ∃ y, Aside0 (l1[k] = y) := ⟨_, ⟨rfl⟩⟩
        rw [hx.out] at h0 h1 h2 h3 h4 hR0 hR1 hR4 hc0 hc1 hc4
        rw [hy.out] at g0 g1 g2 g3 g4 gR0 gR1 gR4 gc0 gc1 gc4
        rw [hx.out, hy.out] at hne hsn
        obtain ⟨Q, hQ⟩ : ∃ Q : Prop, Aside0 (Q ↔ x = y) := ⟨_, ⟨Iff.rfl⟩⟩
        have hcall := Aside0.mk (fun W (q : Bel wr W) => fnSame_any x y A0' A1' A4' B0' B1' B4' c0' c1' c4' d0' d1' d4' W jj (Bel.cell (hB.trans q) hjj) Q hQ (hR0.step q) (hR1.step q) (hR4.step q) (gR0.step q) (gR1.step q) (gR4.step q))
        unfold funcV at hcall
        clear hR0 hR1 hR4 hc0 hc1 hc4 gR0 gR1 gR4 gc0 gc1 gc4
        (replace g0 := fun o => Bel.cell ((Bel.refl wr).alloc o) g0; replace g1 := fun o => Bel.cell ((Bel.refl wr).alloc o) g1; replace g2 := fun o => Bel.cell ((Bel.refl wr).alloc o) g2; replace g3 := fun o => Bel.cell ((Bel.refl wr).alloc o) g3; replace g4 := fun o => Bel.cell ((Bel.refl wr).alloc o) g4)
        by_cases he : x = y
        · have hyes := Aside0.mk (fun W (q : Bel wr W) => (hcall.out W q).mono (fun e w' h => h.yes (hQ.out.2 he)))
          have hs1 := Aside0.mk (hsn.out he)
          clear hcall he hne hsn
          go_wp2_with (go_at_call 31; ((with_reducible refine (hyes.out _ (((Bel.refl wr).alloc _).alloc _)).mono ?_); rintro e w' ⟨rfl, hB1⟩))
          go_roundw
          case rel => exact ⟨k + 1, by omega, by go_num, hs1, (hB.trans (((Bel.refl wr).alloc _).alloc _)).trans hB1⟩
          case measure => simp [intOf]; omega
        · have hno := Aside0.mk (fun W (q : Bel wr W) => (hcall.out W q).mono (fun e w' h => h.no (fun q => he (hQ.out.1 q))))
          have hnp := Aside0.mk (hne.out he)
          clear hcall he hne hsn
          go_wp2_with (go_at_call 31; ((with_reducible refine (hno.out _ (((Bel.refl wr).alloc _).alloc _)).mono ?_); rintro e w' ⟨rfl, hB1⟩))
          go_ret
          exact SameP.mk0 hnp.out ((hB.trans (((Bel.refl wr).alloc _).alloc _)).trans hB1)
      · have hall := Aside0.mk (hP.out.2 (lists_eq hl'.out (fun j hj hj1 _ => hs.out j hj hj1 (by omega))))
        go_wp2
        go_ret
        exact SameP.mk1 hall.out hB
  · have b1 : ((l0.length : Int) == (l1.length : Int)) = false := by simp; omega
    have b2 : ((l0.length : Int) != (l1.length : Int)) = true := by simp; omega
    have b3 : (l0.length == l1.length) = false := by simpa using hl
    have hne := Aside0.mk (fun (h : P) => hl (by rw [hP.out.1 h]))
    clear hl
    go_enter Tryd.func30, Tryd.ntmps30
    go_wp2
    go_ret
    exact SameP.mk0 hne.out (Bel.refl _)

set_option maxHeartbeats 1000000 in
theorem cSame_any (A0 A1 : Option Addr) (c0 c1 : Nat) (l0 l1 : List SFunc) (w : World) (P : Prop) (hP : Aside0 (P ↔ l0 = l1)) (H0 : Rd kFunc w A0 l0) (H1 : Rd kFunc w A1 l1) :
    Calls Tryd.prog 13 #[.agg #[.slice A0 l0.length c0], .agg #[.slice A1 l1.length c1]] w (SameP P w) := by
  have hB1 := ((Bel.refl w).alloc (.cells #[.slice A0 l0.length c0] 24)).alloc (.cells #[.slice A1 l1.length c1] 24)
  have h0 : ((w.alloc (.cells #[.slice A0 l0.length c0] 24)).alloc (.cells #[.slice A1 l1.length c1] 24)).heap[w.heap.size]? = some (.cells #[.slice A0 l0.length c0] 24 (0, 0)) := (((Bel.refl _).alloc (.cells #[.slice A1 l1.length c1] 24)).out.block _ (blk_lt (heap_alloc_new w _))).trans (heap_alloc_new w _)
  have h1 : ((w.alloc (.cells #[.slice A0 l0.length c0] 24)).alloc (.cells #[.slice A1 l1.length c1] 24)).heap[w.heap.size + 1]? = some (.cells #[.slice A1 l1.length c1] 24 (0, 0)) := by rw [sz1 w (.cells #[.slice A0 l0.length c0] 24)]; exact heap_alloc_new _ _
  go_enter Tryd.func13, Tryd.ntmps13
  go_upto_region 1 with (fail)
  generalize ((w.alloc (.cells #[.slice A0 l0.length c0] 24)).alloc (.cells #[.slice A1 l1.length c1] 24)) = W at hB1 h0 h1 ⊢
  obtain ⟨b0, hb0⟩ : ∃ b, w.heap.size = b := ⟨_, rfl⟩
  obtain ⟨b1, hb1⟩ : ∃ b, w.heap.size + 1 = b := ⟨_, rfl⟩
  rw [hb1, hb0]
  rw [hb0] at h0
  rw [hb1] at h1
  have hsz : w.heap.size ≤ W.heap.size := hB1.size
  have hB2 : Bel W (W.alloc (.cells #[(.func (.func 27) #[] #[])] 62)) := (Bel.refl W).alloc _
  have p0 : (W.alloc (.cells #[(.func (.func 27) #[] #[])] 62)).cell? ⟨b0, 0, none⟩ = some (.slice A0 l0.length c0) := Bel.cell hB2 (blk_cell h0 0)
  have p1 : (W.alloc (.cells #[(.func (.func 27) #[] #[])] 62)).cell? ⟨b1, 0, none⟩ = some (.slice A1 l1.length c1) := Bel.cell hB2 (blk_cell h1 0)
  have z2 : (W.alloc (.cells #[(.func (.func 27) #[] #[])] 62)).cell? ⟨W.heap.size, 0, none⟩ = some (.func (.func 27) #[] #[]) := blk_cell (heap_alloc_new W _) 0
  have hcall := Aside0.mk (eqFunc_any A0 A1 c0 c1 l0 l1 _ _ z2 P hP (H0.step (hB1.trans hB2)) (H1.step (hB1.trans hB2)))
  clear z2
  have y0 : (W.alloc (.cells #[.nilFunc] 62)).cell? ⟨W.heap.size, 0, none⟩ = some .nilFunc := blk_cell (heap_alloc_new W _) 0
  have y1 := blk_frozen (heap_alloc_new W (.cells #[.nilFunc] 62)) 0
  replace hb0 := Aside0.mk hb0
  replace hb1 := Aside0.mk hb1
  go_wp2_with (go_at_call 30; ((with_reducible refine hcall.out.mono ?_); rintro e w' ⟨b, rfl, hb, hB3⟩))
  go_ret
  exact ⟨b, rfl, hb, (hB1.trans hB2).trans hB3⟩
end Go.Proofs.YtijdmnjkiiemlaaDoor.H
