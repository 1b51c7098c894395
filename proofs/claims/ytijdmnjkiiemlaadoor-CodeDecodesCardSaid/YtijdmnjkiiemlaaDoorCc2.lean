/- Plain: an instruction is taken off as it was laid. -/
import Derived.Test.YtijdmnjkiiemlaaDoorCc
namespace Go.Proofs.YtijdmnjkiiemlaaDoor.H
open Go.RowKit Go.Proofs.YtijdmnjkiiemlaaDoorW.PrintWords
set_option linter.unusedVariables false
set_option linter.unusedSimpArgs false

/-- a letter's part is one that may be laid -/
def okLet (c : Int) (x : SIns) : Prop := if c = 110 then IntP x.f4 else if c = 76 then x.f6.length ≤ 4 ∧ ∀ a ∈ x.f6, NumP a else NumP (fld x c)
theorem clr_set {c : Int} (h : c = 68 ∨ c = 65 ∨ c = 66 ∨ c = 77 ∨ c = 78) (x : SIns) (n : Int) : clr (setF x c n) c = clr x c ∧ fld (setF x c n) c = n := by
  rcases h with rfl | rfl | rfl | rfl | rfl <;> exact ⟨rfl, rfl⟩
theorem set_clr {c : Int} (h : c = 68 ∨ c = 65 ∨ c = 66 ∨ c = 77 ∨ c = 78) (x : SIns) : setF (clr x c) c (fld x c) = x := by
  rcases h with rfl | rfl | rfl | rfl | rfl <;> rfl
theorem cod_let {c : Int} (hc : Letter c) (x : SIns) (hx : clr x c = x) : Cod (pLet c x) (fun y => letL y c) (fun y => okLet c y ∧ clr y c = x) := by
  have hnum : (c = 68 ∨ c = 65 ∨ c = 66 ∨ c = 77 ∨ c = 78) → Cod (pLet c x) (fun y => letL y c) (fun y => okLet c y ∧ clr y c = x) := by
    intro h
    have h110 : c ≠ 110 := by omega
    have h76 : c ≠ 76 := by omega
    refine ((cod_num.map (setF x c) (fun y => fld y c) (fun n _ => (clr_set h x n).2)).imp (fun l => ?_)).congr (fun y _ => ?_) (fun y => ?_)
    · unfold pLet; rw [if_neg h110, if_neg h76]
    · unfold letL; rw [if_neg h110, if_neg h76]
    · unfold okLet
      rw [if_neg h110, if_neg h76]
      refine and_congr Iff.rfl ⟨fun e => ?_, fun e => ?_⟩
      · rw [e, (clr_set h x _).1, hx]
      · rw [← e, set_clr h]
  rcases hc with h | h | h | h | h | h | h
  · exact hnum (.inl h)
  · exact hnum (.inr (.inl h))
  · exact hnum (.inr (.inr (.inl h)))
  · exact hnum (.inr (.inr (.inr (.inl h))))
  · exact hnum (.inr (.inr (.inr (.inr h))))
  · subst h
    refine ((cod_sig.map (setF x 78) (fun y => y.f4) (fun n _ => rfl)).imp (fun l => rfl)).congr (fun y _ => rfl) (fun y => and_congr Iff.rfl ⟨fun e => ?_, fun e => ?_⟩)
    · rw [e]; exact hx
    · rw [← e]; rfl
  · subst h
    have h6 : x.f6 = [] := by rw [← hx]; rfl
    have h1 := (cod_up 4 9).bind (β := SIns) (f := fun n => pBind (pRep pNum n.toNat) fun a => pRet { x with f6 := x.f6 ++ a }) (t := fun _ y => y.f6.flatMap putL) (Q := fun n y => (y.f6.length = n.toNat ∧ ∀ a ∈ y.f6, NumP a) ∧ y = { x with f6 := y.f6 }) (fun y => (y.f6.length : Int)) (fun n hn => by
      have hm := (cod_num.rep n.toNat).map (fun a => ({ x with f6 := x.f6 ++ a } : SIns)) (fun y => y.f6) (fun a _ => by simp [h6])
      refine hm.congr (fun y _ => rfl) (fun y => ⟨fun hy => ?_, fun hy => ?_⟩)
      · obtain ⟨hy1, hy2⟩ := hy
        refine ⟨⟨hy1, by rw [h6, List.nil_append] at hy2; exact hy2⟩, ?_⟩
        have := hn.1.1
        rw [hy1.1]; omega
      · obtain ⟨⟨hy1, hy2⟩, _⟩ := hy
        exact ⟨hy1, by rw [h6, List.nil_append]; exact hy2⟩)
    refine (h1.imp (fun l => rfl)).congr (fun y _ => ?_) (fun y => ?_)
    · show _ = letL y 76
      unfold letL listL
      rw [if_neg (by decide), if_pos rfl, List.flatMap_def]
    · show _ ↔ okLet 76 y ∧ _
      unfold okLet NumP
      rw [if_neg (by decide), if_pos rfl]
      constructor
      · rintro ⟨⟨h2, h3⟩, ⟨h4, h5⟩, h6'⟩
        refine ⟨⟨by omega, h5⟩, ?_⟩
        rw [h6']
        exact hx
      · rintro ⟨⟨h2, h3⟩, h4⟩
        refine ⟨⟨⟨by omega, by omega⟩, by omega⟩, ⟨by simp, h3⟩, ?_⟩
        rw [← h4]
        rfl
/-- so far cleared -/
def unL (ls : List Int) : Nat → SIns → SIns
  | 0, y => y
  | k + 1, y => unL ls k (clr y (rd ls (k : Int)))
def sL (ls : List Int) : Nat → SIns → List Int
  | 0, y => []
  | k + 1, y => sL ls k (clr y (rd ls (k : Int))) ++ letL y (rd ls (k : Int))
def okL (ls : List Int) : Nat → SIns → Prop
  | 0, y => True
  | k + 1, y => okL ls k (clr y (rd ls (k : Int))) ∧ okLet (rd ls (k : Int)) y
theorem cod_lets (ls : List Int) (x : SIns) (k : Nat) (hl : ∀ j < k, Letter (rd ls (j : Int))) (hc : ∀ j < k, ∀ y, unL ls j y = x → clr y (rd ls (j : Int)) = y) :
    Cod (pLets ls x k) (sL ls k) (fun y => unL ls k y = x ∧ okL ls k y) := by
  induction k with
  | zero => exact (Cod.ret x).congr (fun _ _ => rfl) (fun y => ⟨fun h => ⟨h, trivial⟩, fun h => h.1⟩)
  | succ k ih =>
    have h1 := (ih (fun j hj => hl j (by omega)) (fun j hj => hc j (by omega))).bind (f := pLet (rd ls (k : Int))) (t := fun _ y => letL y (rd ls (k : Int))) (Q := fun x' y => okLet (rd ls (k : Int)) y) (fun y => clr y (rd ls (k : Int))) (fun x' hx' => cod_let (hl k (by omega)) x' (hc k (by omega) x' hx'.1))
    exact (h1.imp (fun l => rfl)).congr (fun y _ => rfl) (fun y => ⟨fun h => ⟨h.1.1, h.1.2, h.2⟩, fun h => ⟨⟨h.1, h.2.1⟩, h.2.2⟩⟩)
/-- an instruction that may be laid, and is taken off -/
structure InsP (x : SIns) : Prop where
  ok : InsOk x
  bad : insBad x = false
  few : longB x = false

theorem cod_Dn (op : Int) (h : partsL op = [68, 110]) (h0 : 0 ≤ op) (h1 : op ≤ 23) (h19 : op ≠ 19) : Cod (pLets [68, 110] (opIns op) ([68, 110] : List Int).length) (fun y => ([68, 110] : List Int).flatMap (letL y)) (fun y => InsP y ∧ y.f0 = op) := by
  refine (cod_lets [68, 110] (opIns op) ([68, 110] : List Int).length (fun j hj => ?_) (fun j hj y hy => ?_)).congr (fun y _ => ?_) (fun y => ?_)
  · obtain rfl | rfl | rfl : j = 0 ∨ j = 1 ∨ j = 2 := by simp at hj; omega
    all_goals first | (simp at hj; done) | decide
  · obtain ⟨f0, f1, f2, f3, f4, f5, f6⟩ := y
    obtain rfl | rfl | rfl : j = 0 ∨ j = 1 ∨ j = 2 := by simp at hj; omega
    all_goals first | (simp at hj; done) | (simp [unL, clr, rd, opIns] at hy ⊢; simp [hy]; done) | (simp [unL, clr, rd, opIns] at hy ⊢; done)
  · obtain ⟨f0, f1, f2, f3, f4, f5, f6⟩ := y
    simp [sL, letL, clr, rd, fld]
  · obtain ⟨f0, f1, f2, f3, f4, f5, f6⟩ := y
    constructor
    · rintro ⟨h2, h3⟩
      simp [unL, clr, rd, opIns] at h2
      simp [okL, okLet, clr, rd, fld, NumP, IntP] at h3
      obtain ⟨rfl, h2⟩ := h2
      refine ⟨⟨⟨?_, ?_, ?_, ?_, ?_, ?_, ?_, ?_⟩, ?_, ?_⟩, rfl⟩
      all_goals first | (dsimp only; omega) | (simp [h2]; done) | skip
      · unfold insBad bareB bareL
        simp [h, letBad, fld, negB, clr, h2]
        first | done | omega
      · simp [longB]; omega
    · rintro ⟨⟨h2, h3, h4⟩, h5⟩
      dsimp only at h5
      subst h5
      have q0 := h2.f0
      have q1 := h2.f1
      have q2 := h2.f2
      have q3 := h2.f3
      have q4 := h2.f4
      have q5 := h2.f5
      unfold insBad bareB bareL at h3
      simp [h, letBad, fld, negB, clr] at h3
      refine ⟨?_, ?_⟩
      · simp [unL, clr, rd, opIns]
        simp_all
      · simp [okL, okLet, clr, rd, fld, NumP, IntP]
        simp only at q0 q1 q2 q3 q4 q5
        omega
theorem cod_DA (op : Int) (h : partsL op = [68, 65]) (h0 : 0 ≤ op) (h1 : op ≤ 23) (h19 : op ≠ 19) : Cod (pLets [68, 65] (opIns op) ([68, 65] : List Int).length) (fun y => ([68, 65] : List Int).flatMap (letL y)) (fun y => InsP y ∧ y.f0 = op) := by
  refine (cod_lets [68, 65] (opIns op) ([68, 65] : List Int).length (fun j hj => ?_) (fun j hj y hy => ?_)).congr (fun y _ => ?_) (fun y => ?_)
  · obtain rfl | rfl | rfl : j = 0 ∨ j = 1 ∨ j = 2 := by simp at hj; omega
    all_goals first | (simp at hj; done) | decide
  · obtain ⟨f0, f1, f2, f3, f4, f5, f6⟩ := y
    obtain rfl | rfl | rfl : j = 0 ∨ j = 1 ∨ j = 2 := by simp at hj; omega
    all_goals first | (simp at hj; done) | (simp [unL, clr, rd, opIns] at hy ⊢; simp [hy]; done) | (simp [unL, clr, rd, opIns] at hy ⊢; done)
  · obtain ⟨f0, f1, f2, f3, f4, f5, f6⟩ := y
    simp [sL, letL, clr, rd, fld]
  · obtain ⟨f0, f1, f2, f3, f4, f5, f6⟩ := y
    constructor
    · rintro ⟨h2, h3⟩
      simp [unL, clr, rd, opIns] at h2
      simp [okL, okLet, clr, rd, fld, NumP, IntP] at h3
      obtain ⟨rfl, h2⟩ := h2
      refine ⟨⟨⟨?_, ?_, ?_, ?_, ?_, ?_, ?_, ?_⟩, ?_, ?_⟩, rfl⟩
      all_goals first | (dsimp only; omega) | (simp [h2]; done) | skip
      · unfold insBad bareB bareL
        simp [h, letBad, fld, negB, clr, h2]
        first | done | omega
      · simp [longB]; omega
    · rintro ⟨⟨h2, h3, h4⟩, h5⟩
      dsimp only at h5
      subst h5
      have q0 := h2.f0
      have q1 := h2.f1
      have q2 := h2.f2
      have q3 := h2.f3
      have q4 := h2.f4
      have q5 := h2.f5
      unfold insBad bareB bareL at h3
      simp [h, letBad, fld, negB, clr] at h3
      refine ⟨?_, ?_⟩
      · simp [unL, clr, rd, opIns]
        simp_all
      · simp [okL, okLet, clr, rd, fld, NumP, IntP]
        simp only at q0 q1 q2 q3 q4 q5
        omega
theorem cod_DAB (op : Int) (h : partsL op = [68, 65, 66]) (h0 : 0 ≤ op) (h1 : op ≤ 23) (h19 : op ≠ 19) : Cod (pLets [68, 65, 66] (opIns op) ([68, 65, 66] : List Int).length) (fun y => ([68, 65, 66] : List Int).flatMap (letL y)) (fun y => InsP y ∧ y.f0 = op) := by
  refine (cod_lets [68, 65, 66] (opIns op) ([68, 65, 66] : List Int).length (fun j hj => ?_) (fun j hj y hy => ?_)).congr (fun y _ => ?_) (fun y => ?_)
  · obtain rfl | rfl | rfl : j = 0 ∨ j = 1 ∨ j = 2 := by simp at hj; omega
    all_goals first | (simp at hj; done) | decide
  · obtain ⟨f0, f1, f2, f3, f4, f5, f6⟩ := y
    obtain rfl | rfl | rfl : j = 0 ∨ j = 1 ∨ j = 2 := by simp at hj; omega
    all_goals first | (simp at hj; done) | (simp [unL, clr, rd, opIns] at hy ⊢; simp [hy]; done) | (simp [unL, clr, rd, opIns] at hy ⊢; done)
  · obtain ⟨f0, f1, f2, f3, f4, f5, f6⟩ := y
    simp [sL, letL, clr, rd, fld]
  · obtain ⟨f0, f1, f2, f3, f4, f5, f6⟩ := y
    constructor
    · rintro ⟨h2, h3⟩
      simp [unL, clr, rd, opIns] at h2
      simp [okL, okLet, clr, rd, fld, NumP, IntP] at h3
      obtain ⟨rfl, h2⟩ := h2
      refine ⟨⟨⟨?_, ?_, ?_, ?_, ?_, ?_, ?_, ?_⟩, ?_, ?_⟩, rfl⟩
      all_goals first | (dsimp only; omega) | (simp [h2]; done) | skip
      · unfold insBad bareB bareL
        simp [h, letBad, fld, negB, clr, h2]
        first | done | omega
      · simp [longB]; omega
    · rintro ⟨⟨h2, h3, h4⟩, h5⟩
      dsimp only at h5
      subst h5
      have q0 := h2.f0
      have q1 := h2.f1
      have q2 := h2.f2
      have q3 := h2.f3
      have q4 := h2.f4
      have q5 := h2.f5
      unfold insBad bareB bareL at h3
      simp [h, letBad, fld, negB, clr] at h3
      refine ⟨?_, ?_⟩
      · simp [unL, clr, rd, opIns]
        simp_all
      · simp [okL, okLet, clr, rd, fld, NumP, IntP]
        simp only at q0 q1 q2 q3 q4 q5
        omega
theorem cod_D (op : Int) (h : partsL op = [68]) (h0 : 0 ≤ op) (h1 : op ≤ 23) (h19 : op ≠ 19) : Cod (pLets [68] (opIns op) ([68] : List Int).length) (fun y => ([68] : List Int).flatMap (letL y)) (fun y => InsP y ∧ y.f0 = op) := by
  refine (cod_lets [68] (opIns op) ([68] : List Int).length (fun j hj => ?_) (fun j hj y hy => ?_)).congr (fun y _ => ?_) (fun y => ?_)
  · obtain rfl | rfl | rfl : j = 0 ∨ j = 1 ∨ j = 2 := by simp at hj; omega
    all_goals first | (simp at hj; done) | decide
  · obtain ⟨f0, f1, f2, f3, f4, f5, f6⟩ := y
    obtain rfl | rfl | rfl : j = 0 ∨ j = 1 ∨ j = 2 := by simp at hj; omega
    all_goals first | (simp at hj; done) | (simp [unL, clr, rd, opIns] at hy ⊢; simp [hy]; done) | (simp [unL, clr, rd, opIns] at hy ⊢; done)
  · obtain ⟨f0, f1, f2, f3, f4, f5, f6⟩ := y
    simp [sL, letL, clr, rd, fld]
  · obtain ⟨f0, f1, f2, f3, f4, f5, f6⟩ := y
    constructor
    · rintro ⟨h2, h3⟩
      simp [unL, clr, rd, opIns] at h2
      simp [okL, okLet, clr, rd, fld, NumP, IntP] at h3
      obtain ⟨rfl, h2⟩ := h2
      refine ⟨⟨⟨?_, ?_, ?_, ?_, ?_, ?_, ?_, ?_⟩, ?_, ?_⟩, rfl⟩
      all_goals first | (dsimp only; omega) | (simp [h2]; done) | skip
      · unfold insBad bareB bareL
        simp [h, letBad, fld, negB, clr, h2]
        first | done | omega
      · simp [longB]; omega
    · rintro ⟨⟨h2, h3, h4⟩, h5⟩
      dsimp only at h5
      subst h5
      have q0 := h2.f0
      have q1 := h2.f1
      have q2 := h2.f2
      have q3 := h2.f3
      have q4 := h2.f4
      have q5 := h2.f5
      unfold insBad bareB bareL at h3
      simp [h, letBad, fld, negB, clr] at h3
      refine ⟨?_, ?_⟩
      · simp [unL, clr, rd, opIns]
        simp_all
      · simp [okL, okLet, clr, rd, fld, NumP, IntP]
        simp only at q0 q1 q2 q3 q4 q5
        omega
theorem cod_DNM (op : Int) (h : partsL op = [68, 78, 77]) (h0 : 0 ≤ op) (h1 : op ≤ 23) (h19 : op ≠ 19) : Cod (pLets [68, 78, 77] (opIns op) ([68, 78, 77] : List Int).length) (fun y => ([68, 78, 77] : List Int).flatMap (letL y)) (fun y => InsP y ∧ y.f0 = op) := by
  refine (cod_lets [68, 78, 77] (opIns op) ([68, 78, 77] : List Int).length (fun j hj => ?_) (fun j hj y hy => ?_)).congr (fun y _ => ?_) (fun y => ?_)
  · obtain rfl | rfl | rfl : j = 0 ∨ j = 1 ∨ j = 2 := by simp at hj; omega
    all_goals first | (simp at hj; done) | decide
  · obtain ⟨f0, f1, f2, f3, f4, f5, f6⟩ := y
    obtain rfl | rfl | rfl : j = 0 ∨ j = 1 ∨ j = 2 := by simp at hj; omega
    all_goals first | (simp at hj; done) | (simp [unL, clr, rd, opIns] at hy ⊢; simp [hy]; done) | (simp [unL, clr, rd, opIns] at hy ⊢; done)
  · obtain ⟨f0, f1, f2, f3, f4, f5, f6⟩ := y
    simp [sL, letL, clr, rd, fld]
  · obtain ⟨f0, f1, f2, f3, f4, f5, f6⟩ := y
    constructor
    · rintro ⟨h2, h3⟩
      simp [unL, clr, rd, opIns] at h2
      simp [okL, okLet, clr, rd, fld, NumP, IntP] at h3
      obtain ⟨rfl, h2⟩ := h2
      refine ⟨⟨⟨?_, ?_, ?_, ?_, ?_, ?_, ?_, ?_⟩, ?_, ?_⟩, rfl⟩
      all_goals first | (dsimp only; omega) | (simp [h2]; done) | skip
      · unfold insBad bareB bareL
        simp [h, letBad, fld, negB, clr, h2]
        first | done | omega
      · simp [longB]; omega
    · rintro ⟨⟨h2, h3, h4⟩, h5⟩
      dsimp only at h5
      subst h5
      have q0 := h2.f0
      have q1 := h2.f1
      have q2 := h2.f2
      have q3 := h2.f3
      have q4 := h2.f4
      have q5 := h2.f5
      unfold insBad bareB bareL at h3
      simp [h, letBad, fld, negB, clr] at h3
      refine ⟨?_, ?_⟩
      · simp [unL, clr, rd, opIns]
        simp_all
      · simp [okL, okLet, clr, rd, fld, NumP, IntP]
        simp only at q0 q1 q2 q3 q4 q5
        omega
theorem cod_DAN (op : Int) (h : partsL op = [68, 65, 78]) (h0 : 0 ≤ op) (h1 : op ≤ 23) (h19 : op ≠ 19) : Cod (pLets [68, 65, 78] (opIns op) ([68, 65, 78] : List Int).length) (fun y => ([68, 65, 78] : List Int).flatMap (letL y)) (fun y => InsP y ∧ y.f0 = op) := by
  refine (cod_lets [68, 65, 78] (opIns op) ([68, 65, 78] : List Int).length (fun j hj => ?_) (fun j hj y hy => ?_)).congr (fun y _ => ?_) (fun y => ?_)
  · obtain rfl | rfl | rfl : j = 0 ∨ j = 1 ∨ j = 2 := by simp at hj; omega
    all_goals first | (simp at hj; done) | decide
  · obtain ⟨f0, f1, f2, f3, f4, f5, f6⟩ := y
    obtain rfl | rfl | rfl : j = 0 ∨ j = 1 ∨ j = 2 := by simp at hj; omega
    all_goals first | (simp at hj; done) | (simp [unL, clr, rd, opIns] at hy ⊢; simp [hy]; done) | (simp [unL, clr, rd, opIns] at hy ⊢; done)
  · obtain ⟨f0, f1, f2, f3, f4, f5, f6⟩ := y
    simp [sL, letL, clr, rd, fld]
  · obtain ⟨f0, f1, f2, f3, f4, f5, f6⟩ := y
    constructor
    · rintro ⟨h2, h3⟩
      simp [unL, clr, rd, opIns] at h2
      simp [okL, okLet, clr, rd, fld, NumP, IntP] at h3
      obtain ⟨rfl, h2⟩ := h2
      refine ⟨⟨⟨?_, ?_, ?_, ?_, ?_, ?_, ?_, ?_⟩, ?_, ?_⟩, rfl⟩
      all_goals first | (dsimp only; omega) | (simp [h2]; done) | skip
      · unfold insBad bareB bareL
        simp [h, letBad, fld, negB, clr, h2]
        first | done | omega
      · simp [longB]; omega
    · rintro ⟨⟨h2, h3, h4⟩, h5⟩
      dsimp only at h5
      subst h5
      have q0 := h2.f0
      have q1 := h2.f1
      have q2 := h2.f2
      have q3 := h2.f3
      have q4 := h2.f4
      have q5 := h2.f5
      unfold insBad bareB bareL at h3
      simp [h, letBad, fld, negB, clr] at h3
      refine ⟨?_, ?_⟩
      · simp [unL, clr, rd, opIns]
        simp_all
      · simp [okL, okLet, clr, rd, fld, NumP, IntP]
        simp only at q0 q1 q2 q3 q4 q5
        omega
theorem cod_ANB (op : Int) (h : partsL op = [65, 78, 66]) (h0 : 0 ≤ op) (h1 : op ≤ 23) (h19 : op ≠ 19) : Cod (pLets [65, 78, 66] (opIns op) ([65, 78, 66] : List Int).length) (fun y => ([65, 78, 66] : List Int).flatMap (letL y)) (fun y => InsP y ∧ y.f0 = op) := by
  refine (cod_lets [65, 78, 66] (opIns op) ([65, 78, 66] : List Int).length (fun j hj => ?_) (fun j hj y hy => ?_)).congr (fun y _ => ?_) (fun y => ?_)
  · obtain rfl | rfl | rfl : j = 0 ∨ j = 1 ∨ j = 2 := by simp at hj; omega
    all_goals first | (simp at hj; done) | decide
  · obtain ⟨f0, f1, f2, f3, f4, f5, f6⟩ := y
    obtain rfl | rfl | rfl : j = 0 ∨ j = 1 ∨ j = 2 := by simp at hj; omega
    all_goals first | (simp at hj; done) | (simp [unL, clr, rd, opIns] at hy ⊢; simp [hy]; done) | (simp [unL, clr, rd, opIns] at hy ⊢; done)
  · obtain ⟨f0, f1, f2, f3, f4, f5, f6⟩ := y
    simp [sL, letL, clr, rd, fld]
  · obtain ⟨f0, f1, f2, f3, f4, f5, f6⟩ := y
    constructor
    · rintro ⟨h2, h3⟩
      simp [unL, clr, rd, opIns] at h2
      simp [okL, okLet, clr, rd, fld, NumP, IntP] at h3
      obtain ⟨rfl, h2⟩ := h2
      refine ⟨⟨⟨?_, ?_, ?_, ?_, ?_, ?_, ?_, ?_⟩, ?_, ?_⟩, rfl⟩
      all_goals first | (dsimp only; omega) | (simp [h2]; done) | skip
      · unfold insBad bareB bareL
        simp [h, letBad, fld, negB, clr, h2]
        first | done | omega
      · simp [longB]; omega
    · rintro ⟨⟨h2, h3, h4⟩, h5⟩
      dsimp only at h5
      subst h5
      have q0 := h2.f0
      have q1 := h2.f1
      have q2 := h2.f2
      have q3 := h2.f3
      have q4 := h2.f4
      have q5 := h2.f5
      unfold insBad bareB bareL at h3
      simp [h, letBad, fld, negB, clr] at h3
      refine ⟨?_, ?_⟩
      · simp [unL, clr, rd, opIns]
        simp_all
      · simp [okL, okLet, clr, rd, fld, NumP, IntP]
        simp only at q0 q1 q2 q3 q4 q5
        omega
theorem cod_DAn (op : Int) (h : partsL op = [68, 65, 110]) (h0 : 0 ≤ op) (h1 : op ≤ 23) (h19 : op ≠ 19) : Cod (pLets [68, 65, 110] (opIns op) ([68, 65, 110] : List Int).length) (fun y => ([68, 65, 110] : List Int).flatMap (letL y)) (fun y => InsP y ∧ y.f0 = op) := by
  refine (cod_lets [68, 65, 110] (opIns op) ([68, 65, 110] : List Int).length (fun j hj => ?_) (fun j hj y hy => ?_)).congr (fun y _ => ?_) (fun y => ?_)
  · obtain rfl | rfl | rfl : j = 0 ∨ j = 1 ∨ j = 2 := by simp at hj; omega
    all_goals first | (simp at hj; done) | decide
  · obtain ⟨f0, f1, f2, f3, f4, f5, f6⟩ := y
    obtain rfl | rfl | rfl : j = 0 ∨ j = 1 ∨ j = 2 := by simp at hj; omega
    all_goals first | (simp at hj; done) | (simp [unL, clr, rd, opIns] at hy ⊢; simp [hy]; done) | (simp [unL, clr, rd, opIns] at hy ⊢; done)
  · obtain ⟨f0, f1, f2, f3, f4, f5, f6⟩ := y
    simp [sL, letL, clr, rd, fld]
  · obtain ⟨f0, f1, f2, f3, f4, f5, f6⟩ := y
    constructor
    · rintro ⟨h2, h3⟩
      simp [unL, clr, rd, opIns] at h2
      simp [okL, okLet, clr, rd, fld, NumP, IntP] at h3
      obtain ⟨rfl, h2⟩ := h2
      refine ⟨⟨⟨?_, ?_, ?_, ?_, ?_, ?_, ?_, ?_⟩, ?_, ?_⟩, rfl⟩
      all_goals first | (dsimp only; omega) | (simp [h2]; done) | skip
      · unfold insBad bareB bareL
        simp [h, letBad, fld, negB, clr, h2]
        first | done | omega
      · simp [longB]; omega
    · rintro ⟨⟨h2, h3, h4⟩, h5⟩
      dsimp only at h5
      subst h5
      have q0 := h2.f0
      have q1 := h2.f1
      have q2 := h2.f2
      have q3 := h2.f3
      have q4 := h2.f4
      have q5 := h2.f5
      unfold insBad bareB bareL at h3
      simp [h, letBad, fld, negB, clr] at h3
      refine ⟨?_, ?_⟩
      · simp [unL, clr, rd, opIns]
        simp_all
      · simp [okL, okLet, clr, rd, fld, NumP, IntP]
        simp only at q0 q1 q2 q3 q4 q5
        omega
theorem cod_AB (op : Int) (h : partsL op = [65, 66]) (h0 : 0 ≤ op) (h1 : op ≤ 23) (h19 : op ≠ 19) : Cod (pLets [65, 66] (opIns op) ([65, 66] : List Int).length) (fun y => ([65, 66] : List Int).flatMap (letL y)) (fun y => InsP y ∧ y.f0 = op) := by
  refine (cod_lets [65, 66] (opIns op) ([65, 66] : List Int).length (fun j hj => ?_) (fun j hj y hy => ?_)).congr (fun y _ => ?_) (fun y => ?_)
  · obtain rfl | rfl | rfl : j = 0 ∨ j = 1 ∨ j = 2 := by simp at hj; omega
    all_goals first | (simp at hj; done) | decide
  · obtain ⟨f0, f1, f2, f3, f4, f5, f6⟩ := y
    obtain rfl | rfl | rfl : j = 0 ∨ j = 1 ∨ j = 2 := by simp at hj; omega
    all_goals first | (simp at hj; done) | (simp [unL, clr, rd, opIns] at hy ⊢; simp [hy]; done) | (simp [unL, clr, rd, opIns] at hy ⊢; done)
  · obtain ⟨f0, f1, f2, f3, f4, f5, f6⟩ := y
    simp [sL, letL, clr, rd, fld]
  · obtain ⟨f0, f1, f2, f3, f4, f5, f6⟩ := y
    constructor
    · rintro ⟨h2, h3⟩
      simp [unL, clr, rd, opIns] at h2
      simp [okL, okLet, clr, rd, fld, NumP, IntP] at h3
      obtain ⟨rfl, h2⟩ := h2
      refine ⟨⟨⟨?_, ?_, ?_, ?_, ?_, ?_, ?_, ?_⟩, ?_, ?_⟩, rfl⟩
      all_goals first | (dsimp only; omega) | (simp [h2]; done) | skip
      · unfold insBad bareB bareL
        simp [h, letBad, fld, negB, clr, h2]
        first | done | omega
      · simp [longB]; omega
    · rintro ⟨⟨h2, h3, h4⟩, h5⟩
      dsimp only at h5
      subst h5
      have q0 := h2.f0
      have q1 := h2.f1
      have q2 := h2.f2
      have q3 := h2.f3
      have q4 := h2.f4
      have q5 := h2.f5
      unfold insBad bareB bareL at h3
      simp [h, letBad, fld, negB, clr] at h3
      refine ⟨?_, ?_⟩
      · simp [unL, clr, rd, opIns]
        simp_all
      · simp [okL, okLet, clr, rd, fld, NumP, IntP]
        simp only at q0 q1 q2 q3 q4 q5
        omega
theorem cod_A (op : Int) (h : partsL op = [65]) (h0 : 0 ≤ op) (h1 : op ≤ 23) (h19 : op ≠ 19) : Cod (pLets [65] (opIns op) ([65] : List Int).length) (fun y => ([65] : List Int).flatMap (letL y)) (fun y => InsP y ∧ y.f0 = op) := by
  refine (cod_lets [65] (opIns op) ([65] : List Int).length (fun j hj => ?_) (fun j hj y hy => ?_)).congr (fun y _ => ?_) (fun y => ?_)
  · obtain rfl | rfl | rfl : j = 0 ∨ j = 1 ∨ j = 2 := by simp at hj; omega
    all_goals first | (simp at hj; done) | decide
  · obtain ⟨f0, f1, f2, f3, f4, f5, f6⟩ := y
    obtain rfl | rfl | rfl : j = 0 ∨ j = 1 ∨ j = 2 := by simp at hj; omega
    all_goals first | (simp at hj; done) | (simp [unL, clr, rd, opIns] at hy ⊢; simp [hy]; done) | (simp [unL, clr, rd, opIns] at hy ⊢; done)
  · obtain ⟨f0, f1, f2, f3, f4, f5, f6⟩ := y
    simp [sL, letL, clr, rd, fld]
  · obtain ⟨f0, f1, f2, f3, f4, f5, f6⟩ := y
    constructor
    · rintro ⟨h2, h3⟩
      simp [unL, clr, rd, opIns] at h2
      simp [okL, okLet, clr, rd, fld, NumP, IntP] at h3
      obtain ⟨rfl, h2⟩ := h2
      refine ⟨⟨⟨?_, ?_, ?_, ?_, ?_, ?_, ?_, ?_⟩, ?_, ?_⟩, rfl⟩
      all_goals first | (dsimp only; omega) | (simp [h2]; done) | skip
      · unfold insBad bareB bareL
        simp [h, letBad, fld, negB, clr, h2]
        first | done | omega
      · simp [longB]; omega
    · rintro ⟨⟨h2, h3, h4⟩, h5⟩
      dsimp only at h5
      subst h5
      have q0 := h2.f0
      have q1 := h2.f1
      have q2 := h2.f2
      have q3 := h2.f3
      have q4 := h2.f4
      have q5 := h2.f5
      unfold insBad bareB bareL at h3
      simp [h, letBad, fld, negB, clr] at h3
      refine ⟨?_, ?_⟩
      · simp [unL, clr, rd, opIns]
        simp_all
      · simp [okL, okLet, clr, rd, fld, NumP, IntP]
        simp only at q0 q1 q2 q3 q4 q5
        omega
theorem cod_N (op : Int) (h : partsL op = [78]) (h0 : 0 ≤ op) (h1 : op ≤ 23) (h19 : op ≠ 19) : Cod (pLets [78] (opIns op) ([78] : List Int).length) (fun y => ([78] : List Int).flatMap (letL y)) (fun y => InsP y ∧ y.f0 = op) := by
  refine (cod_lets [78] (opIns op) ([78] : List Int).length (fun j hj => ?_) (fun j hj y hy => ?_)).congr (fun y _ => ?_) (fun y => ?_)
  · obtain rfl | rfl | rfl : j = 0 ∨ j = 1 ∨ j = 2 := by simp at hj; omega
    all_goals first | (simp at hj; done) | decide
  · obtain ⟨f0, f1, f2, f3, f4, f5, f6⟩ := y
    obtain rfl | rfl | rfl : j = 0 ∨ j = 1 ∨ j = 2 := by simp at hj; omega
    all_goals first | (simp at hj; done) | (simp [unL, clr, rd, opIns] at hy ⊢; simp [hy]; done) | (simp [unL, clr, rd, opIns] at hy ⊢; done)
  · obtain ⟨f0, f1, f2, f3, f4, f5, f6⟩ := y
    simp [sL, letL, clr, rd, fld]
  · obtain ⟨f0, f1, f2, f3, f4, f5, f6⟩ := y
    constructor
    · rintro ⟨h2, h3⟩
      simp [unL, clr, rd, opIns] at h2
      simp [okL, okLet, clr, rd, fld, NumP, IntP] at h3
      obtain ⟨rfl, h2⟩ := h2
      refine ⟨⟨⟨?_, ?_, ?_, ?_, ?_, ?_, ?_, ?_⟩, ?_, ?_⟩, rfl⟩
      all_goals first | (dsimp only; omega) | (simp [h2]; done) | skip
      · unfold insBad bareB bareL
        simp [h, letBad, fld, negB, clr, h2]
        first | done | omega
      · simp [longB]; omega
    · rintro ⟨⟨h2, h3, h4⟩, h5⟩
      dsimp only at h5
      subst h5
      have q0 := h2.f0
      have q1 := h2.f1
      have q2 := h2.f2
      have q3 := h2.f3
      have q4 := h2.f4
      have q5 := h2.f5
      unfold insBad bareB bareL at h3
      simp [h, letBad, fld, negB, clr] at h3
      refine ⟨?_, ?_⟩
      · simp [unL, clr, rd, opIns]
        simp_all
      · simp [okL, okLet, clr, rd, fld, NumP, IntP]
        simp only at q0 q1 q2 q3 q4 q5
        omega
theorem cod_ANM (op : Int) (h : partsL op = [65, 78, 77]) (h0 : 0 ≤ op) (h1 : op ≤ 23) (h19 : op ≠ 19) : Cod (pLets [65, 78, 77] (opIns op) ([65, 78, 77] : List Int).length) (fun y => ([65, 78, 77] : List Int).flatMap (letL y)) (fun y => InsP y ∧ y.f0 = op) := by
  refine (cod_lets [65, 78, 77] (opIns op) ([65, 78, 77] : List Int).length (fun j hj => ?_) (fun j hj y hy => ?_)).congr (fun y _ => ?_) (fun y => ?_)
  · obtain rfl | rfl | rfl : j = 0 ∨ j = 1 ∨ j = 2 := by simp at hj; omega
    all_goals first | (simp at hj; done) | decide
  · obtain ⟨f0, f1, f2, f3, f4, f5, f6⟩ := y
    obtain rfl | rfl | rfl : j = 0 ∨ j = 1 ∨ j = 2 := by simp at hj; omega
    all_goals first | (simp at hj; done) | (simp [unL, clr, rd, opIns] at hy ⊢; simp [hy]; done) | (simp [unL, clr, rd, opIns] at hy ⊢; done)
  · obtain ⟨f0, f1, f2, f3, f4, f5, f6⟩ := y
    simp [sL, letL, clr, rd, fld]
  · obtain ⟨f0, f1, f2, f3, f4, f5, f6⟩ := y
    constructor
    · rintro ⟨h2, h3⟩
      simp [unL, clr, rd, opIns] at h2
      simp [okL, okLet, clr, rd, fld, NumP, IntP] at h3
      obtain ⟨rfl, h2⟩ := h2
      refine ⟨⟨⟨?_, ?_, ?_, ?_, ?_, ?_, ?_, ?_⟩, ?_, ?_⟩, rfl⟩
      all_goals first | (dsimp only; omega) | (simp [h2]; done) | skip
      · unfold insBad bareB bareL
        simp [h, letBad, fld, negB, clr, h2]
        first | done | omega
      · simp [longB]; omega
    · rintro ⟨⟨h2, h3, h4⟩, h5⟩
      dsimp only at h5
      subst h5
      have q0 := h2.f0
      have q1 := h2.f1
      have q2 := h2.f2
      have q3 := h2.f3
      have q4 := h2.f4
      have q5 := h2.f5
      unfold insBad bareB bareL at h3
      simp [h, letBad, fld, negB, clr] at h3
      refine ⟨?_, ?_⟩
      · simp [unL, clr, rd, opIns]
        simp_all
      · simp [okL, okLet, clr, rd, fld, NumP, IntP]
        simp only at q0 q1 q2 q3 q4 q5
        omega
theorem cod_call : Cod (pLets (partsL 19) (opIns 19) (partsL 19).length) (fun y => (partsL 19).flatMap (letL y)) (fun y => InsP y ∧ y.f0 = 19) := by
  have h : partsL 19 = [68, 78, 76] := by decide +kernel
  rw [h]
  refine (cod_lets [68, 78, 76] (opIns 19) 3 (fun j hj => ?_) (fun j hj y hy => ?_)).congr (fun y _ => ?_) (fun y => ?_)
  · obtain rfl | rfl | rfl : j = 0 ∨ j = 1 ∨ j = 2 := by omega
    all_goals decide
  · obtain ⟨f0, f1, f2, f3, f4, f5, f6⟩ := y
    obtain rfl | rfl | rfl : j = 0 ∨ j = 1 ∨ j = 2 := by omega
    all_goals first | (simp [unL, clr, rd, opIns] at hy ⊢; simp [hy]; done) | (simp [unL, clr, rd, opIns] at hy ⊢; done)
  · obtain ⟨f0, f1, f2, f3, f4, f5, f6⟩ := y
    simp [sL, letL, clr, rd, fld]
  · obtain ⟨f0, f1, f2, f3, f4, f5, f6⟩ := y
    constructor
    · rintro ⟨h2, h3⟩
      simp [unL, clr, rd, opIns] at h2
      simp [okL, okLet, clr, rd, fld] at h3
      obtain ⟨rfl, h2⟩ := h2
      obtain ⟨⟨h4, h5⟩, h6, h7⟩ := h3
      have h4 := h4
      have h5 := h5
      unfold NumP at h4 h5
      refine ⟨⟨⟨?_, ?_, ?_, ?_, ?_, ?_, fun a ha => ?_, ?_⟩, ?_, ?_⟩, rfl⟩
      all_goals first | (dsimp only; omega) | (simp [h2]; done) | skip
      · have := h7 a ha; unfold NumP at this; omega
      · unfold insBad bareB bareL
        simp [h, letBad, fld, negB, clr]
        refine ⟨h2, by omega, by omega, fun a ha => (h7 a ha).1⟩
      · simp [longB]; omega
    · rintro ⟨⟨h2, h3, h4⟩, h5⟩
      dsimp only at h5
      subst h5
      have q1 := h2.f1
      have q4 := h2.f4
      have q6 := h2.f6
      unfold insBad bareB bareL at h3
      simp [h, letBad, fld, negB, clr] at h3
      simp [longB] at h4
      refine ⟨?_, ?_⟩
      · simp [unL, clr, rd, opIns]
        simp_all
      · simp [okL, okLet, clr, rd, fld, NumP]
        simp only at q1 q4 q6
        refine ⟨⟨by omega, by omega⟩, by omega, fun a ha => ⟨?_, (q6 a ha).2⟩⟩
        exact h3.2.2.2 a ha
end Go.Proofs.YtijdmnjkiiemlaaDoor.H
