/- Plain: the bytes of pairs and charts. -/
import Derived.Test.YtceibabhmomfiaaDoorQb
namespace Go.Proofs.YtceibabhmomfiaaDoor.H
open Go.RowKit
set_option linter.unusedVariables false
set_option linter.unusedSimpArgs false

/-- pairs that rise, each of a place that is no reference and one that is -/
structure DersP (rs : List SLoc) (ds : List SPair) : Prop where
  rise : Rise (fun x y => befL x.f0 y.f0 = true) ds
  may : ∀ d ∈ ds, mayL d.f0 = true ∧ d.f0 ∉ rs ∧ d.f1 ∈ rs
structure ChartP (c : SChart) : Prop where
  addr : 1 ≤ c.f0
  refs : RefsP c.f1
  ders : DersP c.f1 c.f2
structure RightP (l : List SChart) : Prop where
  few : l.length ≤ 2000
  rise : Rise (fun x y => x.f0 < y.f0) l
  all : ∀ c ∈ l, ChartP c
def pairS (d : SPair) : List Int := putL (nOf d.f0) ++ putL (nOf d.f1)
def dersS (ds : List SPair) : List Int := putL ds.length ++ ds.flatMap pairS
def chartS (last : Int) (c : SChart) : List Int := putL (c.f0 - last) ++ (refsS c.f1 ++ dersS c.f2)
def chartsS (l : List SChart) : List Int := growS (fun xs c => chartS (lastA xs) c) [] l
def encC (l : List SChart) : List Int := putL l.length ++ chartsS l
theorem growS_flat {α : Type} (s : α → List Int) (l : List α) : ∀ pre, growS (fun _ x => s x) pre l = l.flatMap s := by
  induction l with
  | nil => intro pre; rfl
  | cons x xs ih => intro pre; simp only [growS, ih, List.flatMap_cons]
theorem pair_any {xs : List SPair} {b : SLoc} : (xs.getLast?.any fun y => !befL y.f0 b) = false ↔ ∀ y, xs.getLast? = some y → befL y.f0 b = true := by
  cases xs.getLast? with
  | none => simp
  | some y => simp
theorem cod_pair (rs : List SLoc) (xs : List SPair) (hm : ∀ x ∈ rs, mayL x = true) : Cod (pPair rs xs) pairS (fun d => (mayL d.f0 = true ∧ d.f0 ∉ rs ∧ d.f1 ∈ rs) ∧ ∀ y, xs.getLast? = some y → befL y.f0 d.f0 = true) := by
  have h := cod_loc.bind' (f := fun b => pBind (pChk (decide (b ∈ rs)) 5) fun _ => pBind (pChk (xs.getLast?.any fun y => !befL y.f0 b) 10) fun _ => pBind pLoc fun d => pBind (pChk (!decide (d ∈ rs)) 5) fun _ => pRet (SPair.mk b d)) (t := fun _ d => putL (nOf d.f1)) (Q := fun b d => d.f0 = b ∧ b ∉ rs ∧ (∀ y, xs.getLast? = some y → befL y.f0 b = true) ∧ mayL d.f1 = true ∧ d.f1 ∈ rs) SPair.f0
    (fun b d _ hd => hd.1)
    (fun b hb => (Cod.chk (fun _ => Cod.chk (fun _ => cod_loc.bind' (f := fun d => pBind (pChk (!decide (d ∈ rs)) 5) fun _ => pRet (SPair.mk b d)) (t := fun _ _ => []) (Q := fun d p => d ∈ rs ∧ p = SPair.mk b d) SPair.f1 (fun d p _ hp => by rw [hp.2]) (fun d hd => (Cod.chk (fun _ => Cod.ret (SPair.mk b d))).congr (fun _ _ => rfl) (fun p => by simp))))).congr (fun _ _ => by simp) (fun p => by
      simp only [decide_eq_false_iff_not, pair_any]
      constructor
      · rintro ⟨h1, h2, h3, h4, h5⟩
        exact ⟨by rw [h5], h1, h2, h3, h4⟩
      · rintro ⟨h1, h2, h3, h4, h5⟩
        refine ⟨h2, h3, h4, h5, ?_⟩
        rw [← h1]))
  refine (h.imp (fun l => rfl)).congr (fun _ _ => rfl) (fun d => ⟨fun hd => ?_, fun hd => ?_⟩)
  · obtain ⟨h1, _, h2, h3, _, h4⟩ := hd
    exact ⟨⟨h1, h2, h4⟩, h3⟩
  · obtain ⟨⟨h1, h2, h3⟩, h4⟩ := hd
    exact ⟨h1, rfl, h2, h4, hm _ h3, h3⟩
theorem ders_grow {rs : List SLoc} {ds : List SPair} : growP (fun xs d => (mayL d.f0 = true ∧ d.f0 ∉ rs ∧ d.f1 ∈ rs) ∧ ∀ y, xs.getLast? = some y → befL y.f0 d.f0 = true) [] ds ↔ DersP rs ds := by
  rw [growP_and, growP_all]
  exact ⟨fun h => ⟨Rise.grows h.2, h.1⟩, fun h => ⟨h.may, grows_of_rise h.rise⟩⟩
/-- a place's rank among all -/
def rankL (x : SLoc) : Int := if x.f0 = 1 then x.f1 else 32 + x.f1
theorem rank_ok {x : SLoc} (h : mayL x = true) : 0 ≤ rankL x ∧ rankL x < 192 := by
  unfold rankL
  rcases may_cases h with ⟨h1, h2, h3⟩ | ⟨h1, h2, h3⟩ <;> simp [h1] <;> omega
theorem rank_lt {x y : SLoc} (hx : mayL x = true) (hy : mayL y = true) (h : befL x y = true) : rankL x < rankL y := by
  rw [bef_iff] at h
  unfold rankL
  rcases may_cases hx with ⟨h1, h2, h3⟩ | ⟨h1, h2, h3⟩ <;> rcases may_cases hy with ⟨h4, h5, h6⟩ | ⟨h4, h5, h6⟩ <;> simp [h1, h4] at h ⊢ <;> omega
theorem DersP.few {rs : List SLoc} {ds : List SPair} (h : DersP rs ds) : ds.length ≤ 192 := by
  have h1 : Rise (· < ·) (ds.map fun d => rankL d.f0) := h.rise.map (fun x hx y hy hxy => rank_lt (h.may x hx).1 (h.may y hy).1 hxy)
  have h2 := rise_len h1 0 192 (by decide) (fun x hx => by obtain ⟨d, hd, rfl⟩ := List.mem_map.1 hx; exact (rank_ok (h.may d hd).1).1) (fun x hx => by obtain ⟨d, hd, rfl⟩ := List.mem_map.1 hx; exact (rank_ok (h.may d hd).1).2)
  rw [List.length_map] at h2
  omega
theorem RefsP.few {rs : List SLoc} (h : RefsP rs) : rs.length ≤ 192 := by
  have h1 : Rise (· < ·) (rs.map rankL) := h.rise.map (fun x hx y hy hxy => rank_lt (h.may x hx) (h.may y hy) hxy)
  have h2 := rise_len h1 0 192 (by decide) (fun x hx => by obtain ⟨d, hd, rfl⟩ := List.mem_map.1 hx; exact (rank_ok (h.may d hd)).1) (fun x hx => by obtain ⟨d, hd, rfl⟩ := List.mem_map.1 hx; exact (rank_ok (h.may d hd)).2)
  rw [List.length_map] at h2
  omega
theorem numP_of {n : Nat} {m : Int} (h : (n : Int) ≤ m) (hm : m ≤ 9223372036854775807) : NumP (n : Int) ∧ (n : Int) ≤ m := ⟨⟨by omega, by omega⟩, h⟩
theorem cod_ders (rs : List SLoc) (hm : ∀ x ∈ rs, mayL x = true) : Cod (pDers rs) dersS (DersP rs) := by
  have h := (cod_up 192 9).bind' (f := fun n => pGrow (pPair rs) n.toNat) (t := fun _ ds => ds.flatMap pairS) (Q := fun n ds => ds.length = n.toNat ∧ DersP rs ds) (fun ds => (ds.length : Int))
    (fun n ds hn hd => by have := hn.1.1; rw [hd.1]; omega)
    (fun n hn => (Cod.grow (s := fun _ => pairS) (fun xs _ => cod_pair rs xs hm) n.toNat).congr (fun ds _ => growS_flat pairS ds []) (fun ds => by rw [ders_grow]))
  refine (h.imp (fun l => rfl)).congr (fun _ _ => rfl) (fun ds => ⟨fun hd => hd.2.2, fun hd => ⟨numP_of (by have := hd.few; omega) (by decide), by simp, hd⟩⟩)
/-- charts whose addresses are at most top -/
def pChartT (top last : Int) : List Int → PR SChart := pBind (pAbove last top) fun a => pBind pRefs fun rs => pBind (pDers rs) fun ds => pRet ⟨a, rs, ds⟩
theorem pChart_T (last : Int) : pChart last = pChartT 1099511627776 last := rfl
theorem cod_chart (top last : Int) (h0 : 0 ≤ last) (h1 : last ≤ top) (h2 : top ≤ mx) : Cod (pChartT top last) (chartS last) (fun c => (last < c.f0 ∧ c.f0 ≤ top) ∧ RefsP c.f1 ∧ DersP c.f1 c.f2) := by
  have h := (cod_above last top (by omega) h1 h2 (by omega)).bind' (f := fun a => pBind pRefs fun rs => pBind (pDers rs) fun ds => pRet (SChart.mk a rs ds)) (t := fun _ c => refsS c.f1 ++ dersS c.f2) (Q := fun a c => RefsP c.f1 ∧ DersP c.f1 c.f2 ∧ c.f0 = a) SChart.f0
    (fun a c _ hc => hc.2.2)
    (fun a ha => (cod_refs.bind' (f := fun rs => pBind (pDers rs) fun ds => pRet (SChart.mk a rs ds)) (t := fun _ c => dersS c.f2) (Q := fun rs c => DersP rs c.f2 ∧ c.f0 = a ∧ c.f1 = rs) SChart.f1 (fun rs c _ hc => hc.2.2)
      (fun rs hrs => ((cod_ders rs hrs.may).map (fun ds => SChart.mk a rs ds) SChart.f2 (fun ds _ => rfl)).congr (fun _ _ => rfl) (fun c => ⟨fun hc => ⟨hc.1, by rw [hc.2], by rw [hc.2]⟩, fun hc => ⟨hc.1, by obtain ⟨x, y, z⟩ := c; obtain ⟨_, h3, h4⟩ := hc; simp only at h3 h4; rw [h3, h4]⟩⟩))).congr (fun _ _ => rfl) (fun c => ⟨fun hc => ⟨hc.1, hc.2.1, hc.2.2.1⟩, fun hc => ⟨hc.1, hc.2.1, hc.2.2, rfl⟩⟩))
  exact (h.imp (fun l => rfl)).congr (fun _ _ => rfl) (fun c => ⟨fun hc => ⟨hc.1, hc.2.1, hc.2.2.1⟩, fun hc => ⟨hc.1, hc.2.1, hc.2.2, rfl⟩⟩)
theorem lastA_of {xs : List SChart} {y : SChart} (h : xs.getLast? = some y) : lastA xs = y.f0 := by unfold lastA; rw [h]; rfl
theorem lastA_ge {xs : List SChart} {top : Int} (h0 : 0 ≤ top) (h : ∀ x ∈ xs, 1 ≤ x.f0 ∧ x.f0 ≤ top) : 0 ≤ lastA xs ∧ lastA xs ≤ top := by
  rcases List.eq_nil_or_concat xs with rfl | ⟨zs, z, rfl⟩
  · exact ⟨by decide, h0⟩
  · have : lastA (zs.concat z) = z.f0 := lastA_of (by simp)
    rw [this]; have := h z (by simp); omega
theorem charts_grow {top : Int} (h0 : 0 ≤ top) {l : List SChart} : growP (fun xs c => (lastA xs < c.f0 ∧ c.f0 ≤ top) ∧ RefsP c.f1 ∧ DersP c.f1 c.f2) [] l ↔ (Rise (fun x y => x.f0 < y.f0) l ∧ ∀ c ∈ l, ChartP c) ∧ ∀ c ∈ l, c.f0 ≤ top := by
  induction l using snocRec with
  | h0 => exact ⟨fun _ => ⟨⟨Rise.nil _, by simp⟩, by simp⟩, fun _ => trivial⟩
  | h1 xs x ih =>
    rw [growP_snoc, ih, Rise.snoc]
    constructor
    · rintro ⟨⟨⟨h1, h2⟩, h3⟩, ⟨h4, h5⟩, h6, h7⟩
      simp only [List.nil_append] at h4
      have h8 := lastA_ge h0 (xs := xs) (fun y hy => ⟨(h2 y hy).addr, h3 y hy⟩)
      refine ⟨⟨⟨h1, fun y hy => by rw [← lastA_of hy]; exact h4⟩, fun c hc => ?_⟩, fun c hc => ?_⟩
      · rcases List.mem_append.1 hc with hc | hc
        · exact h2 c hc
        · rw [List.mem_singleton.1 hc]; exact ⟨by omega, h6, h7⟩
      · rcases List.mem_append.1 hc with hc | hc
        · exact h3 c hc
        · rw [List.mem_singleton.1 hc]; exact h5
    · rintro ⟨⟨⟨h1, h2⟩, h3⟩, h4⟩
      have hx := h3 x (by simp)
      refine ⟨⟨⟨h1, fun c hc => h3 c (List.mem_append_left _ hc)⟩, fun c hc => h4 c (List.mem_append_left _ hc)⟩, ⟨?_, h4 x (by simp)⟩, hx.refs, hx.ders⟩
      simp only [List.nil_append]
      cases hl : xs.getLast? with
      | none =>
        have : xs = [] := List.getLast?_eq_none_iff.1 hl
        subst this
        have := hx.addr
        show (0 : Int) < x.f0
        omega
      | some y => rw [lastA_of hl]; exact h2 y hl
def pAllT (top : Int) : List Int → PR (List SChart) := pBind (pUp 2000 9) fun n => pGrow (fun xs => pChartT top (lastA xs)) n.toNat
theorem cod_all (top : Int) (h0 : 0 ≤ top) (h2 : top ≤ mx) : Cod (pAllT top) encC (fun l => RightP l ∧ ∀ c ∈ l, c.f0 ≤ top) := by
  have h := (cod_up 2000 9).bind' (f := fun n => pGrow (fun xs => pChartT top (lastA xs)) n.toNat) (t := fun _ l => chartsS l) (Q := fun n l => l.length = n.toNat ∧ ((Rise (fun x y => x.f0 < y.f0) l ∧ ∀ c ∈ l, ChartP c) ∧ ∀ c ∈ l, c.f0 ≤ top)) (fun l => (l.length : Int))
    (fun n l hn hl => by have := hn.1.1; rw [hl.1]; omega)
    (fun n hn => (Cod.grow (s := fun xs c => chartS (lastA xs) c) (P := fun xs c => (lastA xs < c.f0 ∧ c.f0 ≤ top) ∧ RefsP c.f1 ∧ DersP c.f1 c.f2) (fun xs hxs => by
      obtain ⟨⟨_, h3⟩, h4⟩ := (charts_grow h0).1 hxs
      have h5 := lastA_ge h0 (xs := xs) (fun y hy => ⟨(h3 y hy).addr, h4 y hy⟩)
      exact cod_chart top (lastA xs) h5.1 h5.2 h2) n.toNat).congr (fun _ _ => rfl) (fun l => by rw [charts_grow h0]))
  refine (h.imp (fun l => rfl)).congr (fun _ _ => rfl) (fun l => ⟨fun hl => ?_, fun hl => ?_⟩)
  · obtain ⟨⟨h1, h3⟩, _, ⟨h4, h5⟩, h6⟩ := hl
    exact ⟨⟨by omega, h4, h5⟩, h6⟩
  · obtain ⟨⟨h1, h3, h4⟩, h5⟩ := hl
    exact ⟨numP_of (by omega) (by decide), by simp, ⟨h3, h4⟩, h5⟩
abbrev farA : Int := 1099511627776
theorem pCharts_eq (l : List Int) : pCharts l = match pAllT farA l with | .ok (cs, []) => .ok (cs, []) | .ok (_, _ :: _) => .error 11 | .error q => .error q := by
  have e : pCharts l = pBind (pAllT farA) (fun cs => pBind pEnd fun _ => pRet cs) l := by
    unfold pCharts pAllT
    simp only [pBind, pChart_T]
    cases pUp 2000 9 l with
    | error q => rfl
    | ok z => rfl
  rw [e]
  unfold pBind
  cases pAllT farA l with
  | error q => rfl
  | ok z =>
    obtain ⟨cs, r⟩ := z
    cases r with
    | nil => rfl
    | cons a b => rfl
/-- all addresses are near enough -/
def Near (l : List SChart) : Prop := ∀ c ∈ l, c.f0 ≤ farA
theorem dec_enc {l : List SChart} (h : RightP l) (hn : Near l) : dcE (encC l) = 0 ∧ dcL (encC l) = l := by
  have h1 := (cod_all farA (by decide) (by decide)).fwd l ⟨h, hn⟩ []
  rw [List.append_nil] at h1
  unfold dcE dcL
  rw [pCharts_eq, h1]
  exact ⟨rfl, rfl⟩
theorem dec_tail {l : List SChart} (h : RightP l) (hn : Near l) (m : List Int) (hm : m ≠ []) : dcE (encC l ++ m) = 11 := by
  have h1 := (cod_all farA (by decide) (by decide)).fwd l ⟨h, hn⟩ m
  unfold dcE
  rw [pCharts_eq, h1]
  cases m with
  | nil => exact absurd rfl hm
  | cons a b => rfl
theorem dec_cut {l : List SChart} (h : RightP l) (hn : Near l) (c t : List Int) (hc : encC l = c ++ t) (ht : t ≠ []) : dcE c = 2 := by
  have h1 := (cod_all farA (by decide) (by decide)).cut l ⟨h, hn⟩ c t hc ht
  unfold dcE
  rw [pCharts_eq, h1]
theorem enc_inj {l m : List SChart} (h : RightP l) (k : RightP m) (hl : ∀ c ∈ l, c.f0 ≤ mx) (hm : ∀ c ∈ m, c.f0 ≤ mx) : encC l = encC m ↔ l = m := by
  refine ⟨fun e => ?_, fun e => by rw [e]⟩
  have h1 := (cod_all mx (by decide) (by decide)).fwd l ⟨h, hl⟩ []
  have h2 := (cod_all mx (by decide) (by decide)).fwd m ⟨k, hm⟩ []
  rw [e, h2] at h1
  injection h1 with h1
  injection h1 with h1
  exact h1.symm
theorem nz_all : NZ (pAllT farA) := by
  have hc : ∀ b er, er ≠ 0 → NZ (pChk b er) := fun b er h l q hp => by
    unfold pChk at hp
    split at hp
    · injection hp with hp; exact hp ▸ h
    · injection hp
  have hg : ∀ {α : Type} {p : List α → List Int → PR α}, (∀ xs, NZ (p xs)) → ∀ n, NZ (pGrow p n) := fun h n => by
    induction n with
    | zero => exact fun l q hp => by unfold pGrow at hp; injection hp
    | succ n ih => exact ih.bind fun xs => (h xs).bind fun x => NZ.ret _
  have ha : ∀ a b, NZ (pAbove a b) := fun a b => (nz_up _ _ (by decide)).bind fun n => (hc _ _ (by decide)).bind fun _ => (hc _ _ (by decide)).bind fun _ => NZ.ret _
  have hl : NZ pLoc := (nz_up _ _ (by decide)).bind fun n => (hc _ _ (by decide)).bind fun _ => NZ.ret _
  exact (nz_up _ _ (by decide)).bind fun n => hg (fun xs => (ha _ _).bind fun a => ((nz_up _ _ (by decide)).bind fun m => (nz_up _ _ (by decide)).bind fun n => (hg (fun _ => ha _ _) _).bind fun _ => NZ.ret _).bind fun rs => ((nz_up _ _ (by decide)).bind fun n => hg (fun xs => hl.bind fun _ => (hc _ _ (by decide)).bind fun _ => (hc _ _ (by decide)).bind fun _ => hl.bind fun _ => (hc _ _ (by decide)).bind fun _ => NZ.ret _) _).bind fun _ => NZ.ret _) _
theorem dec_just {b : List Int} (hb : ByL b) (h : dcE b = 0) : RightP (dcL b) ∧ encC (dcL b) = b ∧ Near (dcL b) := by
  unfold dcE at h
  unfold dcL
  rw [pCharts_eq] at h ⊢
  cases hp : pAllT farA b with
  | error q =>
    rw [hp] at h
    exact absurd h (nz_all b q hp)
  | ok z =>
    obtain ⟨cs, r⟩ := z
    rw [hp] at h
    cases r with
    | cons a t => exact absurd h (by simp)
    | nil =>
      obtain ⟨⟨h1, h2⟩, h3⟩ := (cod_all farA (by decide) (by decide)).bwd b hb cs [] hp
      exact ⟨h1, by simpa using h3.symm, h2⟩
theorem dec_none {b : List Int} (h : dcE b ≠ 0) : dcL b = [] := by
  unfold dcE at h
  unfold dcL
  cases hp : pCharts b with
  | ok z => rw [hp] at h; exact absurd rfl h
  | error q => rfl
end Go.Proofs.YtceibabhmomfiaaDoor.H
