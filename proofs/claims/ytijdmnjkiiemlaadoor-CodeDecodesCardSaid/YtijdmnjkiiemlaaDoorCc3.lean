/- Plain: a program is taken off as it was laid, and nothing else. -/
import Derived.Test.YtijdmnjkiiemlaaDoorCc2
namespace Go.Proofs.YtijdmnjkiiemlaaDoor.H
open Go.RowKit Go.Proofs.YtijdmnjkiiemlaaDoorW.PrintWords
set_option linter.unusedVariables false
set_option linter.unusedSimpArgs false

theorem Cod.bind' {α β : Type} {p : List Int → PR α} {s : α → List Int} {P : α → Prop} {f : α → List Int → PR β} {t : α → β → List Int} {Q : α → β → Prop} (h : Cod p s P) (π : β → α) (hπ : ∀ x y, P x → Q x y → π y = x) (hf : ∀ x, P x → Cod (f x) (t x) (Q x)) :
    Cod (pBind p f) (fun y => s (π y) ++ t (π y) y) (fun y => P (π y) ∧ Q (π y) y) :=
  h.bind π (fun x hx => (hf x hx).congr (fun _ _ => rfl) (fun y => ⟨fun hy => ⟨hy, hπ x y hx hy⟩, fun hy => hy.1⟩))

theorem parts_cases (op : Int) : partsL op = [] ∨ (0 ≤ op ∧ op ≤ 23 ∧ ((op ≠ 19 ∧ (partsL op = [68, 110] ∨ partsL op = [68, 65] ∨ partsL op = [68, 65, 66] ∨ partsL op = [68] ∨ partsL op = [68, 78, 77] ∨ partsL op = [68, 65, 78] ∨ partsL op = [65, 78, 66] ∨ partsL op = [68, 65, 110] ∨ partsL op = [65, 66] ∨ partsL op = [65] ∨ partsL op = [78] ∨ partsL op = [65, 78, 77])) ∨ op = 19)) := by
  by_cases h : 0 ≤ op ∧ op < 24
  · obtain ⟨n, rfl⟩ := Int.eq_ofNat_of_zero_le h.1
    have e : ∀ i : Fin 24, partsL (i.val : Int) = [] ∨ (((i.val : Int) ≠ 19 ∧ (partsL (i.val : Int) = [68, 110] ∨ partsL (i.val : Int) = [68, 65] ∨ partsL (i.val : Int) = [68, 65, 66] ∨ partsL (i.val : Int) = [68] ∨ partsL (i.val : Int) = [68, 78, 77] ∨ partsL (i.val : Int) = [68, 65, 78] ∨ partsL (i.val : Int) = [65, 78, 66] ∨ partsL (i.val : Int) = [68, 65, 110] ∨ partsL (i.val : Int) = [65, 66] ∨ partsL (i.val : Int) = [65] ∨ partsL (i.val : Int) = [78] ∨ partsL (i.val : Int) = [65, 78, 77])) ∨ (i.val : Int) = 19) := by decide +kernel
    rcases e ⟨n, by omega⟩ with h1 | h1
    · exact .inl h1
    · exact .inr ⟨by omega, by omega, h1⟩
  · left; unfold partsL; rw [if_neg h]
theorem cod_lets_op (op : Int) (hp : partsL op ≠ []) : Cod (pLets (partsL op) (opIns op) (partsL op).length) (fun y => (partsL op).flatMap (letL y)) (fun y => InsP y ∧ y.f0 = op) := by
  rcases parts_cases op with h | ⟨h0, h1, ⟨h19, h | h | h | h | h | h | h | h | h | h | h | h⟩ | rfl⟩
  · exact absurd h hp
  · rw [h]; exact cod_Dn op h h0 h1 h19
  · rw [h]; exact cod_DA op h h0 h1 h19
  · rw [h]; exact cod_DAB op h h0 h1 h19
  · rw [h]; exact cod_D op h h0 h1 h19
  · rw [h]; exact cod_DNM op h h0 h1 h19
  · rw [h]; exact cod_DAN op h h0 h1 h19
  · rw [h]; exact cod_ANB op h h0 h1 h19
  · rw [h]; exact cod_DAn op h h0 h1 h19
  · rw [h]; exact cod_AB op h h0 h1 h19
  · rw [h]; exact cod_A op h h0 h1 h19
  · rw [h]; exact cod_N op h h0 h1 h19
  · rw [h]; exact cod_ANM op h h0 h1 h19
  · exact cod_call
theorem cod_op (op : Int) : Cod (pOp op) (fun y => (partsL op).flatMap (letL y)) (fun y => InsP y ∧ y.f0 = op) := by
  by_cases hp : partsL op = []
  · have hno : ∀ y, ¬ (InsP y ∧ y.f0 = op) := fun y hy => by
      have := hy.1.bad
      unfold insBad at this
      rw [hy.2, hp] at this
      simp at this
    refine ⟨fun y hy => absurd hy (hno y), fun l _ y r h => ?_, fun y hy => absurd hy (hno y)⟩
    unfold pOp pBind pOp0 at h
    rw [if_pos hp] at h
    injection h
  · refine (cod_lets_op op hp).imp (fun l => ?_)
    unfold pOp
    rw [pBind]
    unfold pOp0
    rw [if_neg hp]
theorem cod_ins : Cod pIns insL InsP := by
  refine ((cod_num.bind' (f := pOp) (t := fun op y => (partsL op).flatMap (letL y)) (Q := fun op y => InsP y ∧ y.f0 = op) (fun y => y.f0) (fun x y _ h => h.2) (fun op _ => cod_op op)).imp (fun l => rfl)).congr (fun y _ => rfl) (fun y => ⟨fun h => h.2.1, fun h => ⟨⟨?_, h.ok.f0.2⟩, h, rfl⟩⟩)
  have := h.bad
  unfold insBad negB at this
  simp at this
  omega
def KindP (a : Int × Int) : Prop := (NumP a.1 ∧ a.1 ≤ 2) ∧ (if a.1 = 2 then NumP a.2 else a.2 = -1)
theorem cod_kind : Cod pKind (fun a => kbL a.1 a.2) KindP := by
  refine (((cod_up 2 5).bind' (β := Int × Int) (f := fun k => if k = 2 then pBind pNum fun b => pRet (k, b) else pRet (k, -1)) (t := fun k y => if k = 2 then putL y.2 else []) (Q := fun k y => y.1 = k ∧ (if k = 2 then NumP y.2 else y.2 = -1)) Prod.fst (fun x y _ h => h.1) (fun k hk => ?_)).imp (fun l => rfl)).congr (fun y _ => rfl) (fun y => ⟨fun h => ⟨h.1, h.2.2⟩, fun h => ⟨h.1, rfl, h.2⟩⟩)
  by_cases h : k = 2
  · simp only [if_pos h]
    exact (cod_num.map (fun b => (k, b)) Prod.snd (fun _ _ => rfl)).congr (fun _ _ => rfl) (fun y => ⟨fun q => ⟨by rw [q.2], q.1⟩, fun q => ⟨q.2, by rw [← q.1]⟩⟩)
  · simp only [if_neg h]
    exact (Cod.ret (k, (-1 : Int))).congr (fun _ _ => rfl) (fun y => ⟨fun q => by rw [q]; exact ⟨rfl, rfl⟩, fun q => by rw [← q.1, ← q.2]⟩)
def BlockP (b : SBlock) : Prop := b.f0.length ≤ 40 ∧ ∀ x ∈ b.f0, InsP x
theorem numP_len {n m : Nat} (h : n ≤ m) (hm : (m : Int) ≤ 9223372036854775807) : NumP (n : Int) ∧ (n : Int) ≤ m := ⟨⟨by omega, by omega⟩, by omega⟩
theorem cod_block : Cod pBlock blockL BlockP := by
  have h1 := (cod_up 40 9).bind' (β := SBlock) (f := fun n => pBind (pRep pIns n.toNat) fun l => pRet ⟨l⟩) (t := fun n y => y.f0.flatMap insL) (Q := fun n y => NumP n ∧ y.f0.length = n.toNat ∧ ∀ x ∈ y.f0, InsP x) (fun y => (y.f0.length : Int)) (fun n y _ h => by have := h.1.1; rw [h.2.1]; omega) (fun n hn =>
    ((cod_ins.rep n.toNat).map (fun l => (⟨l⟩ : SBlock)) (fun y => y.f0) (fun _ _ => rfl)).congr (fun _ _ => rfl) (fun y => ⟨fun q => ⟨hn.1, q.1⟩, fun q => ⟨q.2, rfl⟩⟩))
  refine (h1.imp (fun l => rfl)).congr (fun y _ => rfl) (fun y => ⟨fun h => ?_, fun h => ?_⟩)
  · obtain ⟨⟨_, h2⟩, _, _, h3⟩ := h
    exact ⟨by omega, h3⟩
  · have h2 := numP_len h.1 (by decide)
    exact ⟨h2, h2.1, by simp, h.2⟩
/-- a function that may be laid, and is taken off -/
structure FnP (f : SFunc) : Prop where
  len : f.f1.length = f.f0.length
  l0 : f.f0.length ≤ 48
  ks : ∀ a ∈ f.f0.zip f.f1, KindP a
  f2 : NumP f.f2
  f3 : NumP f.f3
  l4 : f.f4.length ≤ 40
  bl : ∀ b ∈ f.f4, BlockP b
theorem zip_lists (a b : List Int) (h : b.length = a.length) : (a.zip b).map Prod.fst = a ∧ (a.zip b).map Prod.snd = b ∧ (a.zip b).length = a.length := by
  refine ⟨List.map_fst_zip (by omega), List.map_snd_zip (by omega), by rw [List.length_zip]; omega⟩
theorem kbsL_zip (a b : List Int) (h : b.length = a.length) : kbsL a b a.length = (a.zip b).flatMap fun x => kbL x.1 x.2 := by
  have : ∀ n, n ≤ a.length → kbsL a b n = ((a.zip b).take n).flatMap fun x => kbL x.1 x.2 := by
    intro n
    induction n with
    | zero => intro _; simp [kbsL]
    | succ n ih =>
      intro hn
      have hz : n < (a.zip b).length := by rw [(zip_lists a b h).2.2]; omega
      rw [kbsL_snoc, ih (by omega), List.take_succ_eq_append_getElem hz, List.flatMap_append]
      congr 1
      simp only [List.flatMap_cons, List.flatMap_nil, List.append_nil, List.getElem_zip]
      have e0 : rd a (n : Int) = a[n] := by simp [rd, List.getD_eq_getElem?_getD, List.getElem?_eq_getElem (show n < a.length by omega)]
      have e1 : rd b (n : Int) = b[n] := by simp [rd, List.getD_eq_getElem?_getD, List.getElem?_eq_getElem (show n < b.length by omega)]
      rw [e0, e1]
  rw [this a.length (Nat.le_refl _), List.take_of_length_le (by rw [(zip_lists a b h).2.2]; exact Nat.le_refl _)]
theorem cod_fn : Cod pFn fnL FnP := by
  have hF : ∀ (ks : List (Int × Int)) (p q m : Int), 0 ≤ m → Cod (pBind (pRep pBlock m.toNat) fun bl => pRet (⟨ks.map Prod.fst, ks.map Prod.snd, p, q, bl⟩ : SFunc)) (fun y => y.f4.flatMap blockL) (fun y => y.f0 = ks.map Prod.fst ∧ y.f1 = ks.map Prod.snd ∧ y.f2 = p ∧ y.f3 = q ∧ (y.f4.length : Int) = m ∧ ∀ b ∈ y.f4, BlockP b) := fun ks p q m hm =>
    ((cod_block.rep m.toNat).map (fun bl => (⟨ks.map Prod.fst, ks.map Prod.snd, p, q, bl⟩ : SFunc)) (fun y => y.f4) (fun _ _ => rfl)).congr (fun _ _ => rfl) (fun y => ⟨fun h => by
      obtain ⟨⟨h1, h2⟩, h3⟩ := h
      rw [h3]
      exact ⟨rfl, rfl, rfl, rfl, by show ((y.f4.length : Nat) : Int) = m; omega, h2⟩, fun h => by
      obtain ⟨h1, h2, h3, h4, h5, h6⟩ := h
      exact ⟨⟨by omega, h6⟩, by rw [← h1, ← h2, ← h3, ← h4]⟩⟩)
  have hE : ∀ (ks : List (Int × Int)) (p q : Int), Cod (pBind (pUp 40 9) fun m => pBind (pRep pBlock m.toNat) fun bl => pRet (⟨ks.map Prod.fst, ks.map Prod.snd, p, q, bl⟩ : SFunc)) (fun y => putL (y.f4.length : Int) ++ y.f4.flatMap blockL) (fun y => y.f0 = ks.map Prod.fst ∧ y.f1 = ks.map Prod.snd ∧ y.f2 = p ∧ y.f3 = q ∧ y.f4.length ≤ 40 ∧ ∀ b ∈ y.f4, BlockP b) := fun ks p q =>
    ((cod_up 40 9).bind' (fun y : SFunc => (y.f4.length : Int)) (fun m y _ h => h.2.2.2.2.1) (fun m hm => hF ks p q m hm.1.1)).congr (fun _ _ => rfl) (fun y => ⟨fun h => ⟨h.2.1, h.2.2.1, h.2.2.2.1, h.2.2.2.2.1, by have := h.1.2; omega, h.2.2.2.2.2.2⟩, fun h => ⟨⟨⟨by omega, by have := h.2.2.2.2.1; omega⟩, by have := h.2.2.2.2.1; omega⟩, h.1, h.2.1, h.2.2.1, h.2.2.2.1, rfl, h.2.2.2.2.2⟩⟩)
  have hD : ∀ (ks : List (Int × Int)) (p : Int), Cod (pBind pNum fun q => pBind (pUp 40 9) fun m => pBind (pRep pBlock m.toNat) fun bl => pRet (⟨ks.map Prod.fst, ks.map Prod.snd, p, q, bl⟩ : SFunc)) (fun y => putL y.f3 ++ (putL (y.f4.length : Int) ++ y.f4.flatMap blockL)) (fun y => NumP y.f3 ∧ y.f0 = ks.map Prod.fst ∧ y.f1 = ks.map Prod.snd ∧ y.f2 = p ∧ y.f4.length ≤ 40 ∧ ∀ b ∈ y.f4, BlockP b) := fun ks p =>
    (cod_num.bind' (fun y : SFunc => y.f3) (fun q y _ h => h.2.2.2.1) (fun q _ => hE ks p q)).congr (fun _ _ => rfl) (fun y => ⟨fun h => ⟨h.1, h.2.1, h.2.2.1, h.2.2.2.1, h.2.2.2.2.2⟩, fun h => ⟨h.1, h.2.1, h.2.2.1, h.2.2.2.1, rfl, h.2.2.2.2⟩⟩)
  have hC : ∀ (ks : List (Int × Int)), Cod (pBind pNum fun p => pBind pNum fun q => pBind (pUp 40 9) fun m => pBind (pRep pBlock m.toNat) fun bl => pRet (⟨ks.map Prod.fst, ks.map Prod.snd, p, q, bl⟩ : SFunc)) (fun y => putL y.f2 ++ (putL y.f3 ++ (putL (y.f4.length : Int) ++ y.f4.flatMap blockL))) (fun y => NumP y.f2 ∧ NumP y.f3 ∧ y.f0 = ks.map Prod.fst ∧ y.f1 = ks.map Prod.snd ∧ y.f4.length ≤ 40 ∧ ∀ b ∈ y.f4, BlockP b) := fun ks =>
    (cod_num.bind' (fun y : SFunc => y.f2) (fun q y _ h => h.2.2.2.1) (fun p _ => hD ks p)).congr (fun _ _ => rfl) (fun y => ⟨fun h => ⟨h.1, h.2.1, h.2.2.1, h.2.2.2.1, h.2.2.2.2.2⟩, fun h => ⟨h.1, h.2.1, h.2.2.1, h.2.2.2.1, rfl, h.2.2.2.2⟩⟩)
  have hB : ∀ n : Int, 0 ≤ n → Cod (pBind (pRep pKind n.toNat) fun ks => pBind pNum fun p => pBind pNum fun q => pBind (pUp 40 9) fun m => pBind (pRep pBlock m.toNat) fun bl => pRet (⟨ks.map Prod.fst, ks.map Prod.snd, p, q, bl⟩ : SFunc)) (fun y => (y.f0.zip y.f1).flatMap (fun a => kbL a.1 a.2) ++ (putL y.f2 ++ (putL y.f3 ++ (putL (y.f4.length : Int) ++ y.f4.flatMap blockL)))) (fun y => ((y.f0.length : Int) = n ∧ y.f1.length = y.f0.length ∧ ∀ a ∈ y.f0.zip y.f1, KindP a) ∧ NumP y.f2 ∧ NumP y.f3 ∧ y.f4.length ≤ 40 ∧ ∀ b ∈ y.f4, BlockP b) := fun n hn =>
    ((cod_kind.rep n.toNat).bind' (fun y : SFunc => y.f0.zip y.f1) (fun ks y _ h => by rw [h.2.2.1, h.2.2.2.1]; simp [List.zip_map_left, List.zip_map_right, List.zip_eq_zipWith, List.zipWith_map]) (fun ks _ => hC ks)).congr (fun _ _ => rfl) (fun y => ⟨fun h => by
      obtain ⟨⟨h1, h2⟩, h3, h4, h5, h6, h7, h8⟩ := h
      have e0 := congrArg List.length h5
      have e1 := congrArg List.length h6
      simp only [List.length_map] at e0 e1
      exact ⟨⟨by omega, by omega, h2⟩, h3, h4, h7, h8⟩, fun h => by
      obtain ⟨⟨h1, h2, h3⟩, h4, h5, h6, h7⟩ := h
      obtain ⟨z1, z2, z3⟩ := zip_lists y.f0 y.f1 h2
      exact ⟨⟨by omega, h3⟩, h4, h5, z1.symm, z2.symm, h6, h7⟩⟩)
  refine (((cod_up 48 9).bind' (fun y : SFunc => (y.f0.length : Int)) (fun n y _ h => h.1.1) (fun n hn => hB n hn.1.1)).imp (p' := pFn) (fun l => rfl)).congr (fun y hy => ?_) (fun y => ⟨fun h => ?_, fun h => ?_⟩)
  · unfold fnL headL listL
    rw [kbsL_zip y.f0 y.f1 hy.len]
    simp [List.append_assoc]
  · obtain ⟨h1, ⟨h2, h3, h4⟩, h5, h6, h7, h8⟩ := h
    exact ⟨h3, by have := h1.2; omega, h4, h5, h6, h7, h8⟩
  · exact ⟨⟨⟨by omega, by have := h.l0; omega⟩, by have := h.l0; omega⟩, ⟨rfl, h.len, h.ks⟩, h.f2, h.f3, h.l4, h.bl⟩
/-- a program that may be laid, and is taken off -/
def ProgP (l : List SFunc) : Prop := (1 ≤ l.length ∧ l.length ≤ 8) ∧ ∀ f ∈ l, FnP f
def pProg0 : List Int → PR (List SFunc) := pBind (pUp 8 9) fun n => pBind (pChk (n == 0) 9) fun _ => pRep pFn n.toNat
def progL (l : List SFunc) : List Int := putL (l.length : Int) ++ l.flatMap fnL
theorem cod_progN (n : Int) (hn : NumP n ∧ n ≤ 8) : Cod (pBind (pChk (n == 0) 9) fun _ => pRep pFn n.toNat) (fun y => y.flatMap fnL) (fun y => n ≠ 0 ∧ (y.length : Int) = n ∧ ∀ f ∈ y, FnP f) := by
  by_cases h0 : n = 0
  · subst h0
    refine ⟨fun y hy => absurd rfl hy.1, fun l _ y r hp => ?_, fun y hy => absurd rfl hy.1⟩
    unfold pBind pChk at hp
    rw [if_pos (by rfl)] at hp
    injection hp
  · refine ((cod_fn.rep n.toNat).imp (fun l => ?_)).congr (fun _ _ => rfl) (fun y => ⟨fun h => ⟨h0, by have := h.1; have := hn.1.1; omega, h.2⟩, fun h => ⟨by have := h.2.1; omega, h.2.2⟩⟩)
    unfold pBind pChk
    rw [if_neg (by simpa using h0)]
theorem cod_prog : Cod pProg0 progL ProgP := by
  have h1 := (cod_up 8 9).bind' (f := fun n => pBind (pChk (n == 0) 9) fun _ => pRep pFn n.toNat) (t := fun n y => y.flatMap fnL) (Q := fun n y => n ≠ 0 ∧ (y.length : Int) = n ∧ ∀ f ∈ y, FnP f) (fun y : List SFunc => (y.length : Int)) (fun n y _ h => h.2.1) cod_progN
  refine (h1.imp (fun l => rfl)).congr (fun y _ => rfl) (fun y => ⟨fun h => ?_, fun h => ?_⟩)
  · obtain ⟨⟨_, h2⟩, h3, _, h4⟩ := h
    exact ⟨⟨by omega, by omega⟩, h4⟩
  · have h2 := numP_len h.1.2 (by decide)
    exact ⟨h2, by have := h.1.1; omega, rfl, h.2⟩
theorem pProg_eq (l : List Int) : pProg l = match pProg0 l with | .ok (fs, []) => .ok (fs, []) | .ok (_, _ :: _) => .error 11 | .error q => .error q := by
  unfold pProg pProg0 pBind
  cases pUp 8 9 l with
  | error q => rfl
  | ok z =>
    obtain ⟨n, r⟩ := z
    simp only [pBind]
    cases pChk (n == 0) 9 r with
    | error q => rfl
    | ok z =>
      obtain ⟨_, r⟩ := z
      simp only
      cases pRep pFn n.toNat r with
      | error q => rfl
      | ok z =>
        obtain ⟨fs, r⟩ := z
        cases r with
        | nil => rfl
        | cons a r => rfl
theorem prog_back {l : List SFunc} (h : ProgP l) : decE (progL l) = 0 ∧ decL (progL l) = l := by
  have e : pProg (progL l) = .ok (l, []) := by
    rw [pProg_eq]
    have := cod_prog.fwd l h []
    rw [List.append_nil] at this
    rw [this]
  unfold decE decL
  rw [e]
  exact ⟨rfl, rfl⟩
theorem prog_tail {l : List SFunc} (h : ProgP l) (m : List Int) (hm : m ≠ []) : decE (progL l ++ m) = 11 := by
  have e : pProg (progL l ++ m) = .error 11 := by
    rw [pProg_eq, cod_prog.fwd l h m]
    cases m with
    | nil => exact absurd rfl hm
    | cons a m => rfl
  unfold decE
  rw [e]
theorem prog_cut {l : List SFunc} (h : ProgP l) (c t : List Int) (hc : progL l = c ++ t) (ht : t ≠ []) : decE c = 2 := by
  have e : pProg c = .error 2 := by rw [pProg_eq, cod_prog.cut l h c t hc ht]
  unfold decE
  rw [e]
/-- no error is 0 -/
def NZ {α : Type} (p : List Int → PR α) : Prop := ∀ l q, p l = .error q → q ≠ 0
theorem NZ.bind {α β : Type} {p : List Int → PR α} {f : α → List Int → PR β} (h : NZ p) (hf : ∀ x, NZ (f x)) : NZ (pBind p f) := by
  intro l q hp
  unfold pBind at hp
  cases hpl : p l with
  | error q' => rw [hpl] at hp; injection hp with hp; subst hp; exact h l _ hpl
  | ok z => obtain ⟨x, r⟩ := z; rw [hpl] at hp; exact hf x r q hp
theorem NZ.ret {α : Type} (x : α) : NZ (pRet x) := fun l q hp => by unfold pRet at hp; injection hp
theorem NZ.rep {α : Type} {p : List Int → PR α} (h : NZ p) (n : Nat) : NZ (pRep p n) := by
  induction n with
  | zero => exact fun l q hp => by unfold pRep at hp; injection hp
  | succ n ih => exact ih.bind fun xs => h.bind fun x => NZ.ret _
theorem nz_num : NZ pNum := fun l q hp => by
  unfold pNum at hp
  split at hp
  · injection hp
  · rename_i h; injection hp with hp; exact hp ▸ h
theorem nz_sig : NZ pSig := fun l q hp => by
  unfold pSig at hp
  split at hp
  · injection hp
  · rename_i h; injection hp with hp; exact hp ▸ h
theorem nz_up (most er : Int) (h : er ≠ 0) : NZ (pUp most er) := nz_num.bind fun n l q hp => by
  split at hp
  · injection hp with hp; exact hp ▸ h
  · injection hp
theorem nz_let (c : Int) (x : SIns) : NZ (pLet c x) := by
  unfold pLet
  (repeat' split)
  · exact nz_sig.bind fun _ => NZ.ret _
  · exact (nz_up 4 9 (by decide)).bind fun n => (nz_num.rep _).bind fun _ => NZ.ret _
  · exact nz_num.bind fun _ => NZ.ret _
theorem nz_lets (ls : List Int) (x : SIns) (k : Nat) : NZ (pLets ls x k) := by
  induction k with
  | zero => exact NZ.ret x
  | succ k ih => exact ih.bind fun y => nz_let _ y
theorem nz_ins : NZ pIns := nz_num.bind fun op => NZ.bind (fun l q hp => by
  unfold pOp0 at hp
  split at hp
  · injection hp with hp; rw [← hp]; decide
  · injection hp) fun x => nz_lets _ _ _
theorem nz_kind : NZ pKind := (nz_up 2 5 (by decide)).bind fun k => by
  split
  · exact nz_num.bind fun _ => NZ.ret _
  · exact NZ.ret _
theorem nz_block : NZ pBlock := (nz_up 40 9 (by decide)).bind fun n => (nz_ins.rep _).bind fun _ => NZ.ret _
theorem nz_fn : NZ pFn := (nz_up 48 9 (by decide)).bind fun n => (nz_kind.rep _).bind fun _ => nz_num.bind fun _ => nz_num.bind fun _ => (nz_up 40 9 (by decide)).bind fun _ => (nz_block.rep _).bind fun _ => NZ.ret _
theorem nz_prog : NZ pProg0 := (nz_up 8 9 (by decide)).bind fun n => NZ.bind (fun l q hp => by
  unfold pChk at hp
  split at hp
  · injection hp with hp; rw [← hp]; decide
  · injection hp) fun _ => nz_fn.rep _
theorem prog_just {b : List Int} (hb : ByL b) (h : decE b = 0) : ProgP (decL b) ∧ progL (decL b) = b := by
  unfold decE at h
  unfold decL
  cases hp : pProg b with
  | error q =>
    rw [hp] at h
    rw [pProg_eq] at hp
    cases hq : pProg0 b with
    | error q' =>
      rw [hq] at hp
      injection hp with hp
      subst hp
      exfalso
      exact nz_prog b _ hq h
    | ok z =>
      obtain ⟨fs, r⟩ := z
      rw [hq] at hp
      cases r with
      | nil => injection hp
      | cons a r => injection hp with hp; subst hp; exact absurd h (by decide)
  | ok z =>
    obtain ⟨fs, r⟩ := z
    rw [pProg_eq] at hp
    cases hq : pProg0 b with
    | error q' => rw [hq] at hp; injection hp
    | ok z =>
      obtain ⟨fs', r'⟩ := z
      rw [hq] at hp
      cases r' with
      | cons a r' => injection hp
      | nil =>
        injection hp with hp
        injection hp with h1 h2
        subst h1
        obtain ⟨h3, h4⟩ := cod_prog.bwd b hb _ _ hq
        exact ⟨h3, by rw [List.append_nil] at h4; exact h4.symm⟩
end Go.Proofs.YtijdmnjkiiemlaaDoor.H
