/- Texts of this work, joined: Qc, Vi, Vq2, Qd. Conditions: each stands with its theorem. -/
import Derived.Test.YtceibabhmomfiaaDoorX12
import Derived.Test.YtceibabhmomfiaaDoorX04
import Derived.Lib.Strings
import Derived.Lib.Slices
import Derived.Lib.Small
import Derived.Lib.Walk
import Derived.Lib.BitFns
import Derived.Test.YtceibabhmomfiaaDoorX02
/- Plain: the bytes of pairs and charts. -/
namespace Go.Proofs.YtceibabhmomfiaaDoor.H
open Go.RowKit
set_option linter.unusedVariables false
set_option linter.unusedSimpArgs false

/-- pairs that rise, each of a place that is no reference and one that is -/
structure DersP (rs : List SLoc) (ds : List SPair) : Prop where
  rise : Rise (fun x y => befL x.f0 y.f0 = true) ds
  may : ∀ d ∈ ds, mayL d.f0 = true ∧ d.f0 ∉ rs ∧ d.f1 ∈ rs
structure ChartP (c : SChart) : Prop where
  addr : 1 ≤ c.f0
  refs : RefsP c.f1
  ders : DersP c.f1 c.f2
structure RightP (l : List SChart) : Prop where
  few : l.length ≤ 2000
  rise : Rise (fun x y => x.f0 < y.f0) l
  all : ∀ c ∈ l, ChartP c
def pairS (d : SPair) : List Int := putL (nOf d.f0) ++ putL (nOf d.f1)
def dersS (ds : List SPair) : List Int := putL ds.length ++ ds.flatMap pairS
def chartS (last : Int) (c : SChart) : List Int := putL (c.f0 - last) ++ (refsS c.f1 ++ dersS c.f2)
def chartsS (l : List SChart) : List Int := growS (fun xs c => chartS (lastA xs) c) [] l
def encC (l : List SChart) : List Int := putL l.length ++ chartsS l
theorem growS_flat {α : Type} (s : α → List Int) (l : List α) : ∀ pre, growS (fun _ x => s x) pre l = l.flatMap s := by
  induction l with
  | nil => intro pre; rfl
  | cons x xs ih => intro pre; simp only [growS, ih, List.flatMap_cons]
theorem pair_any {xs : List SPair} {b : SLoc} : (xs.getLast?.any fun y => !befL y.f0 b) = false ↔ ∀ y, xs.getLast? = some y → befL y.f0 b = true := by
  cases xs.getLast? with
  | none => simp
  | some y => simp
theorem cod_pair (rs : List SLoc) (xs : List SPair) (hm : ∀ x ∈ rs, mayL x = true) : Cod (pPair rs xs) pairS (fun d => (mayL d.f0 = true ∧ d.f0 ∉ rs ∧ d.f1 ∈ rs) ∧ ∀ y, xs.getLast? = some y → befL y.f0 d.f0 = true) := by
  have h := cod_loc.bind' (f := fun b => pBind (pChk (decide (b ∈ rs)) 5) fun _ => pBind (pChk (xs.getLast?.any fun y => !befL y.f0 b) 10) fun _ => pBind pLoc fun d => pBind (pChk (!decide (d ∈ rs)) 5) fun _ => pRet (SPair.mk b d)) (t := fun _ d => putL (nOf d.f1)) (Q := fun b d => d.f0 = b ∧ b ∉ rs ∧ (∀ y, xs.getLast? = some y → befL y.f0 b = true) ∧ mayL d.f1 = true ∧ d.f1 ∈ rs) SPair.f0
    (fun b d _ hd => hd.1)
    (fun b hb => (Cod.chk (fun _ => Cod.chk (fun _ => cod_loc.bind' (f := fun d => pBind (pChk (!decide (d ∈ rs)) 5) fun _ => pRet (SPair.mk b d)) (t := fun _ _ => []) (Q := fun d p => d ∈ rs ∧ p = SPair.mk b d) SPair.f1 (fun d p _ hp => by rw [hp.2]) (fun d hd => (Cod.chk (fun _ => Cod.ret (SPair.mk b d))).congr (fun _ _ => rfl) (fun p => by simp))))).congr (fun _ _ => by simp) (fun p => by
      simp only [decide_eq_false_iff_not, pair_any]
      constructor
      · rintro ⟨h1, h2, h3, h4, h5⟩
        exact ⟨by rw [h5], h1, h2, h3, h4⟩
      · rintro ⟨h1, h2, h3, h4, h5⟩
        refine ⟨h2, h3, h4, h5, ?_⟩
        rw [← h1]))
  refine (h.imp (fun l => rfl)).congr (fun _ _ => rfl) (fun d => ⟨fun hd => ?_, fun hd => ?_⟩)
  · obtain ⟨h1, _, h2, h3, _, h4⟩ := hd
    exact ⟨⟨h1, h2, h4⟩, h3⟩
  · obtain ⟨⟨h1, h2, h3⟩, h4⟩ := hd
    exact ⟨h1, rfl, h2, h4, hm _ h3, h3⟩
theorem ders_grow {rs : List SLoc} {ds : List SPair} : growP (fun xs d => (mayL d.f0 = true ∧ d.f0 ∉ rs ∧ d.f1 ∈ rs) ∧ ∀ y, xs.getLast? = some y → befL y.f0 d.f0 = true) [] ds ↔ DersP rs ds := by
  rw [growP_and, growP_all]
  exact ⟨fun h => ⟨Rise.grows h.2, h.1⟩, fun h => ⟨h.may, grows_of_rise h.rise⟩⟩
/-- a place's rank among all -/
def rankL (x : SLoc) : Int := if x.f0 = 1 then x.f1 else 32 + x.f1
theorem rank_ok {x : SLoc} (h : mayL x = true) : 0 ≤ rankL x ∧ rankL x < 192 := by
  unfold rankL
  rcases may_cases h with ⟨h1, h2, h3⟩ | ⟨h1, h2, h3⟩ <;> simp [h1] <;> omega
theorem rank_lt {x y : SLoc} (hx : mayL x = true) (hy : mayL y = true) (h : befL x y = true) : rankL x < rankL y := by
  rw [bef_iff] at h
  unfold rankL
  rcases may_cases hx with ⟨h1, h2, h3⟩ | ⟨h1, h2, h3⟩ <;> rcases may_cases hy with ⟨h4, h5, h6⟩ | ⟨h4, h5, h6⟩ <;> simp [h1, h4] at h ⊢ <;> omega
theorem DersP.few {rs : List SLoc} {ds : List SPair} (h : DersP rs ds) : ds.length ≤ 192 := by
  have h1 : Rise (· < ·) (ds.map fun d => rankL d.f0) := h.rise.map (fun x hx y hy hxy => rank_lt (h.may x hx).1 (h.may y hy).1 hxy)
  have h2 := rise_len h1 0 192 (by decide) (fun x hx => by obtain ⟨d, hd, rfl⟩ := List.mem_map.1 hx; exact (rank_ok (h.may d hd).1).1) (fun x hx => by obtain ⟨d, hd, rfl⟩ := List.mem_map.1 hx; exact (rank_ok (h.may d hd).1).2)
  rw [List.length_map] at h2
  omega
theorem RefsP.few {rs : List SLoc} (h : RefsP rs) : rs.length ≤ 192 := by
  have h1 : Rise (· < ·) (rs.map rankL) := h.rise.map (fun x hx y hy hxy => rank_lt (h.may x hx) (h.may y hy) hxy)
  have h2 := rise_len h1 0 192 (by decide) (fun x hx => by obtain ⟨d, hd, rfl⟩ := List.mem_map.1 hx; exact (rank_ok (h.may d hd)).1) (fun x hx => by obtain ⟨d, hd, rfl⟩ := List.mem_map.1 hx; exact (rank_ok (h.may d hd)).2)
  rw [List.length_map] at h2
  omega
theorem numP_of {n : Nat} {m : Int} (h : (n : Int) ≤ m) (hm : m ≤ 9223372036854775807) : NumP (n : Int) ∧ (n : Int) ≤ m := ⟨⟨by omega, by omega⟩, h⟩
theorem cod_ders (rs : List SLoc) (hm : ∀ x ∈ rs, mayL x = true) : Cod (pDers rs) dersS (DersP rs) := by
  have h := (cod_up 192 9).bind' (f := fun n => pGrow (pPair rs) n.toNat) (t := fun _ ds => ds.flatMap pairS) (Q := fun n ds => ds.length = n.toNat ∧ DersP rs ds) (fun ds => (ds.length : Int))
    (fun n ds hn hd => by have := hn.1.1; rw [hd.1]; omega)
    (fun n hn => (Cod.grow (s := fun _ => pairS) (fun xs _ => cod_pair rs xs hm) n.toNat).congr (fun ds _ => growS_flat pairS ds []) (fun ds => by rw [ders_grow]))
  refine (h.imp (fun l => rfl)).congr (fun _ _ => rfl) (fun ds => ⟨fun hd => hd.2.2, fun hd => ⟨numP_of (by have := hd.few; omega) (by decide), by simp, hd⟩⟩)
/-- charts whose addresses are at most top -/
def pChartT (top last : Int) : List Int → PR SChart := pBind (pAbove last top) fun a => pBind pRefs fun rs => pBind (pDers rs) fun ds => pRet ⟨a, rs, ds⟩
theorem pChart_T (last : Int) : pChart last = pChartT 1099511627776 last := rfl
theorem cod_chart (top last : Int) (h0 : 0 ≤ last) (h1 : last ≤ top) (h2 : top ≤ mx) : Cod (pChartT top last) (chartS last) (fun c => (last < c.f0 ∧ c.f0 ≤ top) ∧ RefsP c.f1 ∧ DersP c.f1 c.f2) := by
  have h := (cod_above last top (by omega) h1 h2 (by omega)).bind' (f := fun a => pBind pRefs fun rs => pBind (pDers rs) fun ds => pRet (SChart.mk a rs ds)) (t := fun _ c => refsS c.f1 ++ dersS c.f2) (Q := fun a c => RefsP c.f1 ∧ DersP c.f1 c.f2 ∧ c.f0 = a) SChart.f0
    (fun a c _ hc => hc.2.2)
    (fun a ha => (cod_refs.bind' (f := fun rs => pBind (pDers rs) fun ds => pRet (SChart.mk a rs ds)) (t := fun _ c => dersS c.f2) (Q := fun rs c => DersP rs c.f2 ∧ c.f0 = a ∧ c.f1 = rs) SChart.f1 (fun rs c _ hc => hc.2.2)
      (fun rs hrs => ((cod_ders rs hrs.may).map (fun ds => SChart.mk a rs ds) SChart.f2 (fun ds _ => rfl)).congr (fun _ _ => rfl) (fun c => ⟨fun hc => ⟨hc.1, by rw [hc.2], by rw [hc.2]⟩, fun hc => ⟨hc.1, by obtain ⟨x, y, z⟩ := c; obtain ⟨_, h3, h4⟩ := hc; simp only at h3 h4; rw [h3, h4]⟩⟩))).congr (fun _ _ => rfl) (fun c => ⟨fun hc => ⟨hc.1, hc.2.1, hc.2.2.1⟩, fun hc => ⟨hc.1, hc.2.1, hc.2.2, rfl⟩⟩))
  exact (h.imp (fun l => rfl)).congr (fun _ _ => rfl) (fun c => ⟨fun hc => ⟨hc.1, hc.2.1, hc.2.2.1⟩, fun hc => ⟨hc.1, hc.2.1, hc.2.2, rfl⟩⟩)
theorem lastA_of {xs : List SChart} {y : SChart} (h : xs.getLast? = some y) : lastA xs = y.f0 := by unfold lastA; rw [h]; rfl
theorem lastA_ge {xs : List SChart} {top : Int} (h0 : 0 ≤ top) (h : ∀ x ∈ xs, 1 ≤ x.f0 ∧ x.f0 ≤ top) : 0 ≤ lastA xs ∧ lastA xs ≤ top := by
  rcases List.eq_nil_or_concat xs with rfl | ⟨zs, z, rfl⟩
  · exact ⟨by decide, h0⟩
  · have : lastA (zs.concat z) = z.f0 := lastA_of (by simp)
    rw [this]; have := h z (by simp); omega
theorem charts_grow {top : Int} (h0 : 0 ≤ top) {l : List SChart} : growP (fun xs c => (lastA xs < c.f0 ∧ c.f0 ≤ top) ∧ RefsP c.f1 ∧ DersP c.f1 c.f2) [] l ↔ (Rise (fun x y => x.f0 < y.f0) l ∧ ∀ c ∈ l, ChartP c) ∧ ∀ c ∈ l, c.f0 ≤ top := by
  induction l using snocRec with
  | h0 => exact ⟨fun _ => ⟨⟨Rise.nil _, by simp⟩, by simp⟩, fun _ => trivial⟩
  | h1 xs x ih =>
    rw [growP_snoc, ih, Rise.snoc]
    constructor
    · rintro ⟨⟨⟨h1, h2⟩, h3⟩, ⟨h4, h5⟩, h6, h7⟩
      simp only [List.nil_append] at h4
      have h8 := lastA_ge h0 (xs := xs) (fun y hy => ⟨(h2 y hy).addr, h3 y hy⟩)
      refine ⟨⟨⟨h1, fun y hy => by rw [← lastA_of hy]; exact h4⟩, fun c hc => ?_⟩, fun c hc => ?_⟩
      · rcases List.mem_append.1 hc with hc | hc
        · exact h2 c hc
        · rw [List.mem_singleton.1 hc]; exact ⟨by omega, h6, h7⟩
      · rcases List.mem_append.1 hc with hc | hc
        · exact h3 c hc
        · rw [List.mem_singleton.1 hc]; exact h5
    · rintro ⟨⟨⟨h1, h2⟩, h3⟩, h4⟩
      have hx := h3 x (by simp)
      refine ⟨⟨⟨h1, fun c hc => h3 c (List.mem_append_left _ hc)⟩, fun c hc => h4 c (List.mem_append_left _ hc)⟩, ⟨?_, h4 x (by simp)⟩, hx.refs, hx.ders⟩
      simp only [List.nil_append]
      cases hl : xs.getLast? with
      | none =>
        have : xs = [] := List.getLast?_eq_none_iff.1 hl
        subst this
        have := hx.addr
        show (0 : Int) < x.f0
        omega
      | some y => rw [lastA_of hl]; exact h2 y hl
def pAllT (top : Int) : List Int → PR (List SChart) := pBind (pUp 2000 9) fun n => pGrow (fun xs => pChartT top (lastA xs)) n.toNat
theorem cod_all (top : Int) (h0 : 0 ≤ top) (h2 : top ≤ mx) : Cod (pAllT top) encC (fun l => RightP l ∧ ∀ c ∈ l, c.f0 ≤ top) := by
  have h := (cod_up 2000 9).bind' (f := fun n => pGrow (fun xs => pChartT top (lastA xs)) n.toNat) (t := fun _ l => chartsS l) (Q := fun n l => l.length = n.toNat ∧ ((Rise (fun x y => x.f0 < y.f0) l ∧ ∀ c ∈ l, ChartP c) ∧ ∀ c ∈ l, c.f0 ≤ top)) (fun l => (l.length : Int))
    (fun n l hn hl => by have := hn.1.1; rw [hl.1]; omega)
    (fun n hn => (Cod.grow (s := fun xs c => chartS (lastA xs) c) (P := fun xs c => (lastA xs < c.f0 ∧ c.f0 ≤ top) ∧ RefsP c.f1 ∧ DersP c.f1 c.f2) (fun xs hxs => by
      obtain ⟨⟨_, h3⟩, h4⟩ := (charts_grow h0).1 hxs
      have h5 := lastA_ge h0 (xs := xs) (fun y hy => ⟨(h3 y hy).addr, h4 y hy⟩)
      exact cod_chart top (lastA xs) h5.1 h5.2 h2) n.toNat).congr (fun _ _ => rfl) (fun l => by rw [charts_grow h0]))
  refine (h.imp (fun l => rfl)).congr (fun _ _ => rfl) (fun l => ⟨fun hl => ?_, fun hl => ?_⟩)
  · obtain ⟨⟨h1, h3⟩, _, ⟨h4, h5⟩, h6⟩ := hl
    exact ⟨⟨by omega, h4, h5⟩, h6⟩
  · obtain ⟨⟨h1, h3, h4⟩, h5⟩ := hl
    exact ⟨numP_of (by omega) (by decide), by simp, ⟨h3, h4⟩, h5⟩
abbrev farA : Int := 1099511627776
theorem pCharts_eq (l : List Int) : pCharts l = match pAllT farA l with | .ok (cs, []) => .ok (cs, []) | .ok (_, _ :: _) => .error 11 | .error q => .error q := by
  have e : pCharts l = pBind (pAllT farA) (fun cs => pBind pEnd fun _ => pRet cs) l := by
    unfold pCharts pAllT
    simp only [pBind, pChart_T]
    cases pUp 2000 9 l with
    | error q => rfl
    | ok z => rfl
  rw [e]
  unfold pBind
  cases pAllT farA l with
  | error q => rfl
  | ok z =>
    obtain ⟨cs, r⟩ := z
    cases r with
    | nil => rfl
    | cons a b => rfl
/-- all addresses are near enough -/
def Near (l : List SChart) : Prop := ∀ c ∈ l, c.f0 ≤ farA
theorem dec_enc {l : List SChart} (h : RightP l) (hn : Near l) : dcE (encC l) = 0 ∧ dcL (encC l) = l := by
  have h1 := (cod_all farA (by decide) (by decide)).fwd l ⟨h, hn⟩ []
  rw [List.append_nil] at h1
  unfold dcE dcL
  rw [pCharts_eq, h1]
  exact ⟨rfl, rfl⟩
theorem dec_tail {l : List SChart} (h : RightP l) (hn : Near l) (m : List Int) (hm : m ≠ []) : dcE (encC l ++ m) = 11 := by
  have h1 := (cod_all farA (by decide) (by decide)).fwd l ⟨h, hn⟩ m
  unfold dcE
  rw [pCharts_eq, h1]
  cases m with
  | nil => exact absurd rfl hm
  | cons a b => rfl
theorem dec_cut {l : List SChart} (h : RightP l) (hn : Near l) (c t : List Int) (hc : encC l = c ++ t) (ht : t ≠ []) : dcE c = 2 := by
  have h1 := (cod_all farA (by decide) (by decide)).cut l ⟨h, hn⟩ c t hc ht
  unfold dcE
  rw [pCharts_eq, h1]
theorem enc_inj {l m : List SChart} (h : RightP l) (k : RightP m) (hl : ∀ c ∈ l, c.f0 ≤ mx) (hm : ∀ c ∈ m, c.f0 ≤ mx) : encC l = encC m ↔ l = m := by
  refine ⟨fun e => ?_, fun e => by rw [e]⟩
  have h1 := (cod_all mx (by decide) (by decide)).fwd l ⟨h, hl⟩ []
  have h2 := (cod_all mx (by decide) (by decide)).fwd m ⟨k, hm⟩ []
  rw [e, h2] at h1
  injection h1 with h1
  injection h1 with h1
  exact h1.symm
theorem nz_all : NZ (pAllT farA) := by
  have hc : ∀ b er, er ≠ 0 → NZ (pChk b er) := fun b er h l q hp => by
    unfold pChk at hp
    split at hp
    · injection hp with hp; exact hp ▸ h
    · injection hp
  have hg : ∀ {α : Type} {p : List α → List Int → PR α}, (∀ xs, NZ (p xs)) → ∀ n, NZ (pGrow p n) := fun h n => by
    induction n with
    | zero => exact fun l q hp => by unfold pGrow at hp; injection hp
    | succ n ih => exact ih.bind fun xs => (h xs).bind fun x => NZ.ret _
  have ha : ∀ a b, NZ (pAbove a b) := fun a b => (nz_up _ _ (by decide)).bind fun n => (hc _ _ (by decide)).bind fun _ => (hc _ _ (by decide)).bind fun _ => NZ.ret _
  have hl : NZ pLoc := (nz_up _ _ (by decide)).bind fun n => (hc _ _ (by decide)).bind fun _ => NZ.ret _
  exact (nz_up _ _ (by decide)).bind fun n => hg (fun xs => (ha _ _).bind fun a => ((nz_up _ _ (by decide)).bind fun m => (nz_up _ _ (by decide)).bind fun n => (hg (fun _ => ha _ _) _).bind fun _ => NZ.ret _).bind fun rs => ((nz_up _ _ (by decide)).bind fun n => hg (fun xs => hl.bind fun _ => (hc _ _ (by decide)).bind fun _ => (hc _ _ (by decide)).bind fun _ => hl.bind fun _ => (hc _ _ (by decide)).bind fun _ => NZ.ret _) _).bind fun _ => NZ.ret _) _
theorem dec_just {b : List Int} (hb : ByL b) (h : dcE b = 0) : RightP (dcL b) ∧ encC (dcL b) = b ∧ Near (dcL b) := by
  unfold dcE at h
  unfold dcL
  rw [pCharts_eq] at h ⊢
  cases hp : pAllT farA b with
  | error q =>
    rw [hp] at h
    exact absurd h (nz_all b q hp)
  | ok z =>
    obtain ⟨cs, r⟩ := z
    rw [hp] at h
    cases r with
    | cons a t => exact absurd h (by simp)
    | nil =>
      obtain ⟨⟨h1, h2⟩, h3⟩ := (cod_all farA (by decide) (by decide)).bwd b hb cs [] hp
      exact ⟨h1, by simpa using h3.symm, h2⟩
theorem dec_none {b : List Int} (h : dcE b ≠ 0) : dcL b = [] := by
  unfold dcE at h
  unfold dcL
  cases hp : pCharts b with
  | ok z => rw [hp] at h; exact absurd rfl h
  | error q => rfl
end Go.Proofs.YtceibabhmomfiaaDoor.H

/- Layer 1, more walks: sizes, lists. -/
namespace Go.Proofs.YtceibabhmomfiaaDoor.H
open Go.RowKit Go.Proofs.YtceibabhmomfiaaDoorW.PrintWords
set_option linter.unusedVariables false
set_option linter.unusedSimpArgs false

/-- numbers' bytes, one behind the other -/
def listL (l : List Int) : List Int := (l.map putL).flatten
theorem listL_snoc (l : List Int) (n : Int) : listL (l ++ [n]) = listL l ++ putL n := by simp [listL]
theorem putL_len (n : Int) : (putL n).length ≤ 10 := by
  unfold putL
  split
  · simp
  · exact (digs_len 9 n).2
theorem listL_len (l : List Int) : (listL l).length ≤ 10 * l.length := by
  induction l with
  | nil => simp [listL]
  | cons x r ih => have := putL_len x; simp [listL] at ih ⊢; omega
theorem take_snoc (l : List Int) (k : Nat) (h : k < l.length) : l.take (k + 1) = l.take k ++ [rd l (k : Int)] := by
  rw [List.take_succ_eq_append_getElem h, rd, List.getD_eq_getElem?_getD, List.getElem?_eq_getElem (by simpa using h)]; rfl
/-- ints -/
abbrev IntsOk (l : List Int) : Prop := Aside0 (∀ x ∈ l, -9223372036854775808 ≤ x ∧ x ≤ 9223372036854775807)
theorem IntsOk.at_ {l : List Int} (h : IntsOk l) (k : Nat) (h1 : k < l.length) : -9223372036854775808 ≤ rd l (k : Int) ∧ rd l (k : Int) ≤ 9223372036854775807 := by
  refine h.out _ ?_
  rw [rd, List.getD_eq_getElem?_getD, List.getElem?_eq_getElem (by simpa using h1)]
  exact List.getElem_mem _

set_option maxHeartbeats 1000000 in
theorem List_any (A : Option Addr) (c : Nat) (l : List Int) (w : World) (HR : RdI w A l) (hok : IntsOk l) (hl : l.length ≤ 10000000000000) :
    Calls Tryd.prog 39 #[.slice A l.length c] w fun e w' => ∃ v : Value, e = .returned v ∧ OwnB w w' v (listL l) ∧ Bel w w' := by
  go_enter Tryd.func39, Tryd.ntmps39
  go_wp2
  go_loopw [3, 8] (fun v i W => ∃ k : Nat, k ≤ l.length ∧ i = .int .i64 k ∧ OwnB w W v (listL (l.take k)) ∧ Bel w W) (fun _ i _ => l.length - (intOf i).toNat)
  case atStart => exact ⟨0, by omega, rfl, by simpa [listL] using Own.nil _ _ _ _, Bel.refl _⟩
  case round =>
    obtain ⟨k, hk, rfl, hR, hB⟩ := hrel
    by_cases hlt : k < l.length
    · obtain ⟨ad, rfl, hcell⟩ := rd_atN (HR.step hB) k hlt
      have hx := hok.at_ k hlt
      have hts := Aside0.mk (take_snoc l k hlt)
      have hlen := Aside0.mk (listL_len (l.take k))
      obtain ⟨A2, c2, rfl, hc2, hRd⟩ := hR.reads
      go_wp2_with (go_at_call 68; refine (Put_any A2 c2 (listL (l.take k)) _ wr hc2 hRd.nil_of hRd (by have := hlen.out; rw [List.length_take] at this; omega) hx.2).mono ?_; rintro e w' ⟨v2, rfl, hR2, hB2⟩)
      go_roundw
      case rel => exact ⟨k + 1, by omega, by go_num, by rw [hts.out, listL_snoc]; exact hR2.lower hB, hB.trans hB2⟩
      case measure => simp [intOf]; omega
    · have hts := Aside0.mk (List.take_of_length_le (show l.length ≤ k by omega))
      go_wp2
      go_ret
      exact ⟨_, rfl, by rw [hts.out] at hR; exact hR, hB⟩

/-- bytes' numbers -/
def splitGo : Nat → List Int → List Int → List Int × Int
  | 0, _, _ => ([], 0)
  | f + 1, l, out => if l = [] then (out, 0) else if (getL 9 l).2.2 ≠ 0 then ([], (getL 9 l).2.2) else splitGo f (l.drop (getL 9 l).2.1.toNat) (out ++ [(getL 9 l).1])

end Go.Proofs.YtceibabhmomfiaaDoor.H

/- The plain side of layer 1: lists. -/
namespace Go.Proofs.YtceibabhmomfiaaDoor.H
open Go Go.RowKit Go.Proofs.YtceibabhmomfiaaDoorW.PrintWords
set_option linter.unusedVariables false

theorem digs_bytes (n : Nat) : ∀ u : Int, 0 ≤ u → u < 128 ^ (n + 1) → ∀ x ∈ digs n u, 0 ≤ x ∧ x ≤ 255 := by
  induction n with
  | zero => intro u h0 h1 x hx; simp [digs] at hx; omega
  | succ n ih =>
    intro u h0 h1 x hx
    by_cases h : 128 ≤ u
    · rw [digs_great n u h] at hx
      rcases List.mem_cons.1 hx with rfl | hx
      · omega
      · exact ih (u / 128) (by omega) (by rw [Int.pow_succ] at h1; omega) x hx
    · rw [digs_small _ u (by omega)] at hx
      simp at hx
      omega
theorem putL_bytes (n : Int) (h : n ≤ 9223372036854775807) : ∀ x ∈ putL n, 0 ≤ x ∧ x ≤ 255 := by
  unfold putL
  split
  · simp
  · exact digs_bytes 9 n (by omega) (by omega)
theorem listL_bytes (l : List Int) (h : ∀ x ∈ l, -9223372036854775808 ≤ x ∧ x ≤ 9223372036854775807) : ∀ x ∈ listL l, 0 ≤ x ∧ x ≤ 255 := by
  intro x hx
  obtain ⟨y, hy, hxy⟩ := List.mem_flatten.1 hx
  obtain ⟨n, hn, rfl⟩ := List.mem_map.1 hy
  exact putL_bytes n (h n hn).2 x hxy
theorem listL_cons (x : Int) (r : List Int) : listL (x :: r) = putL x ++ listL r := by simp [listL]
theorem split_list (l : List Int) : ∀ (f : Nat) (out : List Int), (∀ x ∈ l, -9223372036854775808 ≤ x ∧ x ≤ 9223372036854775807) → (listL l).length < f → splitGo f (listL l) out = (out ++ l.filter (fun x => decide (0 ≤ x)), 0) := by
  induction l with
  | nil =>
    intro f out _ hf
    obtain ⟨f, rfl⟩ : ∃ g, f = g + 1 := ⟨f - 1, by omega⟩
    simp [listL, splitGo]
  | cons x r ih =>
    intro f out h hf
    have hx := h x List.mem_cons_self
    have hr := fun y hy => h y (List.mem_cons_of_mem x hy)
    rw [listL_cons] at hf ⊢
    by_cases h0 : 0 ≤ x
    · have e : putL x = digs 9 x := if_neg (by omega)
      have hd := (digs_len 9 x).1
      rw [e, List.length_append] at hf
      obtain ⟨f, rfl⟩ : ∃ g, f = g + 1 := ⟨f - 1, by omega⟩
      rw [e, splitGo, if_neg (fun c => by rw [List.append_eq_nil_iff] at c; rw [c.1] at hd; simp at hd), get_put x (listL r) h0 hx.2]
      simp only [ne_eq, not_true_eq_false, if_false, Int.toNat_natCast]
      rw [List.drop_left, ih f _ hr (by omega), List.filter_cons, if_pos (by simpa using h0)]
      simp
    · rw [show putL x = [] from if_pos (by omega), List.nil_append] at hf ⊢
      rw [ih f out hr hf, List.filter_cons, if_neg (by simpa using h0)]
end Go.Proofs.YtceibabhmomfiaaDoor.H

/- Plain: how long charts' bytes are, and that they are bytes. -/
namespace Go.Proofs.YtceibabhmomfiaaDoor.H
open Go.RowKit
set_option linter.unusedVariables false
set_option linter.unusedSimpArgs false

theorem growS_len {α : Type} {s : List α → α → List Int} {K : Nat} {l : List α} : ∀ pre, (∀ xs, ∀ x ∈ l, (s xs x).length ≤ K) → (growS s pre l).length ≤ K * l.length := by
  induction l with
  | nil => intro pre _; simp [growS]
  | cons x xs ih =>
    intro pre h
    have h1 := h pre x (by simp)
    have h2 := ih (pre ++ [x]) (fun ys y hy => h ys y (List.mem_cons_of_mem _ hy))
    simp only [growS, List.length_append, List.length_cons, Nat.mul_add]
    omega
theorem slots_len (rs : List SLoc) : (slotsOf rs).length ≤ rs.length := by
  induction rs with
  | nil => simp [slotsOf]
  | cons x xs ih => unfold slotsOf; split <;> simp <;> omega
theorem refsS_len (rs : List SLoc) : (refsS rs).length ≤ 20 + 10 * rs.length := by
  have h1 := putL_len (maskOf rs)
  have h2 := putL_len (slotsOf rs).length
  have h3 := growS_len (s := fun xs k => putL (k - lastI xs)) (K := 10) (l := slotsOf rs) [] (fun xs x _ => putL_len _)
  have h4 := slots_len rs
  unfold refsS stepsL
  simp only [List.length_append]
  omega
theorem flat_len {α : Type} {s : α → List Int} {K : Nat} {l : List α} (h : ∀ x ∈ l, (s x).length ≤ K) : (l.flatMap s).length ≤ K * l.length := by
  rw [← growS_flat s l []]
  exact growS_len [] (fun _ => h)
theorem dersS_len (ds : List SPair) : (dersS ds).length ≤ 10 + 20 * ds.length := by
  have h1 := putL_len ds.length
  have h2 := flat_len (s := pairS) (K := 20) (l := ds) (fun d _ => by have h1 := putL_len (nOf d.f0); have h2 := putL_len (nOf d.f1); unfold pairS; simp only [List.length_append]; omega)
  unfold dersS
  simp only [List.length_append]
  omega
theorem chartS_len {c : SChart} (h : ChartP c) (last : Int) : (chartS last c).length ≤ 6000 := by
  have h1 := putL_len (c.f0 - last)
  have h2 := refsS_len c.f1
  have h3 := dersS_len c.f2
  have h4 := h.refs.few
  have h5 := h.ders.few
  unfold chartS
  simp only [List.length_append]
  omega
theorem encC_len {l : List SChart} (h : RightP l) : (encC l).length ≤ 12000010 := by
  have h1 := putL_len l.length
  have h2 := growS_len (s := fun xs c => chartS (lastA xs) c) (K := 6000) (l := l) [] (fun xs c hc => chartS_len (h.all c hc) _)
  have h3 := h.few
  unfold encC chartsS
  simp only [List.length_append]
  omega
theorem by_put {n : Int} (h : n ≤ 9223372036854775807) : ByL (putL n) := fun x hx => putL_bytes n h x hx
theorem growS_by {α : Type} {s : List α → α → List Int} {P : List α → α → Prop} {l : List α} (h : ∀ xs x, P xs x → ByL (s xs x)) : ∀ pre, growP P pre l → ByL (growS s pre l) := by
  induction l with
  | nil => intro pre _ x hx; cases hx
  | cons x xs ih => intro pre hp; exact (h _ _ hp.1).app (ih _ hp.2)
theorem mask_ok {rs : List SLoc} (h : RefsP rs) : 0 ≤ maskOf rs ∧ maskOf rs < 4294967296 := by
  obtain ⟨ns, ks, rfl, h1, h2, h3, h4⟩ := h.split
  obtain ⟨h5, h6⟩ := regs_bits ns 32 h1 h2
  rw [maskOf_app, (mask_slots ks).1, (mask_regs ns).1]
  obtain ⟨S, hS⟩ : ∃ S, (ns.map fun i => 2 ^ i).sum = S := ⟨_, rfl⟩
  rw [hS] at h5 ⊢
  omega
theorem slots_ok {rs : List SLoc} (h : RefsP rs) : Rise (· < ·) (slotsOf rs) ∧ ∀ k ∈ slotsOf rs, 0 ≤ k ∧ k < 160 := by
  obtain ⟨ns, ks, rfl, h1, h2, h3, h4⟩ := h.split
  have e : slotsOf ((ns.map fun (i : Nat) => (⟨1, (i : Int)⟩ : SLoc)) ++ ks.map (fun k => ⟨2, k⟩)) = ks := by rw [slotsOf_app, (mask_slots ks).2, (mask_regs ns).2]; rfl
  rw [e]
  exact ⟨h3, h4⟩
theorem grow_near {l : List Int} (h : Rise (· < ·) l ∧ ∀ k ∈ l, 0 ≤ k ∧ k < 160) : growP (fun ys y => y - lastI ys ≤ 9223372036854775807) [] l := by
  refine growP_mono (P := fun ys y => (∀ z, ys.getLast? = some z → 0 ≤ z) ∧ y < 160) (fun ys y hy => ?_) [] ?_
  · have : -1 ≤ lastI ys := by
      cases hl : ys.getLast? with
      | none => unfold lastI; rw [hl]; decide
      | some z => rw [lastI_of hl]; have := hy.1 z hl; omega
    have := hy.2
    omega
  · refine (growP_and []).2 ⟨grows_of_rise (R := fun z _ => 0 ≤ z) (fun i hi => (h.2 _ (List.getElem_mem _)).1), (growP_all []).2 fun x hx => (h.2 x hx).2⟩
theorem refsS_by {rs : List SLoc} (h : RefsP rs) : ByL (refsS rs) := by
  have h1 := mask_ok h
  have h2 := h.few
  have h3 := slots_len rs
  exact (by_put (by omega)).app ((by_put (by omega)).app (growS_by (fun xs x hx => by_put hx) [] (grow_near (slots_ok h))))
theorem dersS_by {rs : List SLoc} {ds : List SPair} (hr : RefsP rs) (h : DersP rs ds) : ByL (dersS ds) := by
  have h1 := h.few
  refine (by_put (by omega)).app (ByL.flat fun d hd => ?_)
  have h2 := h.may d hd
  exact (by_put (locN_nOf h2.1).2.1.2).app (by_put (locN_nOf (hr.may _ h2.2.2)).2.1.2)
theorem encC_by {l : List SChart} (h : RightP l) (hm : ∀ c ∈ l, c.f0 ≤ mx) : ByL (encC l) := by
  have h1 := h.few
  have hr : Rise (fun (z _ : SChart) => 0 ≤ z.f0) l := fun i hi => by
    have h8 : 1 ≤ (l[i]'(by omega)).f0 := ChartP.addr (h.all _ (List.getElem_mem _))
    exact Int.le_trans (by decide) h8
  refine (by_put (by omega)).app ?_
  refine growS_by (P := fun xs c => (∀ z, xs.getLast? = some z → 0 ≤ z.f0) ∧ (ChartP c ∧ c.f0 ≤ mx)) (fun xs c hc => ?_) [] ((growP_and []).2 ⟨grows_of_rise hr, (growP_all []).2 fun x hx => ⟨h.all x hx, hm x hx⟩⟩)
  have : 0 ≤ lastA xs := by
    cases hl : xs.getLast? with
    | none => unfold lastA; rw [hl]; decide
    | some z => rw [lastA_of hl]; exact hc.1 z hl
  have h2 := hc.2.2
  unfold mx at h2
  exact (by_put (by omega)).app ((refsS_by hc.2.1.refs).app (dersS_by hc.2.1.refs hc.2.1.ders))
theorem encC_pos {l : List SChart} : 0 < (encC l).length := by
  have : 1 ≤ (putL (l.length : Int)).length := by rw [putL_pos (by omega)]; exact (digs_len 9 _).1
  unfold encC
  rw [List.length_append]
  omega
end Go.Proofs.YtceibabhmomfiaaDoor.H
