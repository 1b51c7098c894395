/- Layer 3, walks: bytes' program. -/
import Derived.Test.YtijdmnjkiiemlaaDoorCd
import Derived.Laws.ResultCell
import Derived.StillTailTactics
namespace Go.Proofs.YtijdmnjkiiemlaaDoor.H
open Go.RowKit Go.Proofs.YtijdmnjkiiemlaaDoorW.PrintWords Go.Proofs.YtijdmnjkiiemlaaDoorW.PrintLast
set_option linter.unusedVariables false
set_option linter.unusedSimpArgs false

theorem results_cell_row2 {P : Program} {fn : Func} {p u : Tmp} {ty : TypeId} (h : fn.results = #[.cell p ty, .tmp u]) (tmps : Array Value) (w : World) (g : Nat) (t : TypeId) (cs : Array Value) (fr : Nat × Nat) (d : TypeDesc)
    (hp : tmps.getD p undef = .pointer (some ⟨g, 0, none⟩)) (hg : w.heap[g]? = some (.cells cs t fr))
    (hu : P.underlying ty = some d) (hd : (match d with | .struct _ | .array _ _ => true | _ => false) = true) (hi : (P.info? ty).map (·.size) = some cs.size) :
    (results fn tmps).run P w = .ok (.tuple #[.agg cs, tmps.getD u undef]) w := by
  rw [results_cell_tmp h, hp]
  simp [asAddr, run_loadVar_row w g t ty cs fr d hg hu hd hi, Result.andThen]
set_option maxHeartbeats 4000000 in
theorem Decode_any (A : Option Addr) (c : Nat) (l : List Int) (w : World) (hG : GlobA w.heap.size w) (hc : l.length ≤ c) (HR : RdB w A l) (hby : Bytes l) (hl : l.length ≤ 10000000000000) :
    Calls Tryd.prog 15 #[.slice A l.length c] w fun ex w' => ∃ v, ex = .returned (.tuple #[.agg #[v], .int .i64 (decE l)]) ∧ Own kFunc 43 w w' v (decL l) ∧ Bel w w' ∧ Aside0 (∀ f ∈ decL l, FuncOk f) := by
  have hB0 : Bel w ((((w.alloc (.cells #[.slice none 0 0] 24)).alloc (.cells #[.slice A l.length c, .int .i64 0] 69)).alloc (.cells #[.slice none 0 0] 24))) := (((Bel.refl w).alloc _).alloc _).alloc _
  go_enter Tryd.func15, Tryd.ntmps15
  go_upto_region 3 with (fail)
  have hr0 : (((w.alloc (.cells #[.slice none 0 0] 24)).alloc (.cells #[.slice A l.length c, .int .i64 0] 69)).alloc (.cells #[.slice none 0 0] 24)).heap[w.heap.size]? = some (.cells #[.slice none 0 0] 24 (0, 0)) := bel_blk (heap_alloc_new w _) (((Bel.refl _).alloc _).alloc _)
  have hg0 : (((w.alloc (.cells #[.slice none 0 0] 24)).alloc (.cells #[.slice A l.length c, .int .i64 0] 69)).alloc (.cells #[.slice none 0 0] 24)).heap[w.heap.size + 1]? = some (.cells #[.slice A l.length c, .int .i64 0] 69 (0, 0)) := bel_blk (heap_new' (by simp)) ((Bel.refl _).alloc _)
  have hh0 : (((w.alloc (.cells #[.slice none 0 0] 24)).alloc (.cells #[.slice A l.length c, .int .i64 0] 69)).alloc (.cells #[.slice none 0 0] 24)).heap[w.heap.size + 1 + 1]? = some (.cells #[.slice none 0 0] 24 (0, 0)) := heap_new' (by simp)
  generalize ((w.alloc (.cells #[.slice none 0 0] 24)).alloc (.cells #[.slice A l.length c, .int .i64 0] 69)).alloc (.cells #[.slice none 0 0] 24) = wa at hB0 hr0 hg0 hh0 ⊢
  have hbr := hB0.size
  have hRa : IsRA 69 w.heap.size wa (w.heap.size + 1) l 0 := ⟨⟨A, c, ⟨Nat.le_succ _, hbr, hg0, hc, RdK.came HR hB0.out RT, hby, hl⟩⟩⟩
  obtain ⟨r, hr⟩ : ∃ r, w.heap.size = r := ⟨_, rfl⟩
  obtain ⟨g, hg⟩ : ∃ g, w.heap.size + 1 = g := ⟨_, rfl⟩
  obtain ⟨h, hh⟩ : ∃ h, w.heap.size + 1 + 1 = h := ⟨_, rfl⟩
  rw [hg] at hRa
  rw [hh, hg, hr]
  rw [hr] at hr0
  rw [hh] at hh0
  have hlt1 : r < h := by omega
  replace hr := Aside0.mk hr
  replace hg := Aside0.mk hg
  replace hh := Aside0.mk hh
  replace hr0 := Aside0.mk hr0
  replace hh0 := Aside0.mk hh0
  have hcall := Aside0.mk (within_any 8 9 (by decide) (by decide) (by decide) (by decide) (by decide) w.heap.size g l 0 wa hRa)
  go_upto_region 4 with (go_at_call 35; ((with_reducible refine hcall.out.mono ?_); rintro ex w' ⟨n, rfl, hT, hn8⟩))
  obtain ⟨l1, e1, hran1, hR1, hz1⟩ := hT.ran
  have hK1 := Aside0.mk hT.kt
  obtain ⟨A1, c1, hr1⟩ := hR1.out
  have y1 : w'.cell? ⟨g, 1, none⟩ = some (.int .i64 e1) := blk_cell hr1.blk 1
  have g1 := blk_frozen hr1.blk 1
  replace hr1 := Aside0.mk hr1
  clear hT hcall hR1
  go_cut [20] (fun t W => ∃ b, t = .bool b ∧ Aside0 (b = decide (n = 0 ∧ e1 = 0)) ∧ w' = W)
  case first =>
    by_cases hn0 : n = 0
    · have b0 : (n == 0) = true := by simpa using hn0
      by_cases he : e1 = 0
      · have b1 : (e1 == 0) = true := by simpa using he
        have hb : Aside0 (decide (n = 0 ∧ e1 = 0) = true) := ⟨decide_eq_true ⟨hn0, he⟩⟩
        replace he := Aside0.mk he
        replace hn0 := Aside0.mk hn0
        go_wp2
        go_meet
        case rel => exact ⟨_, rfl, ⟨hb.out.symm⟩, rfl⟩
      · have b1 : (e1 == 0) = false := by simpa using he
        have hb : Aside0 (decide (n = 0 ∧ e1 = 0) = false) := ⟨decide_eq_false (fun q => he q.2)⟩
        replace he := Aside0.mk he
        replace hn0 := Aside0.mk hn0
        go_wp2
        go_meet
        case rel => exact ⟨_, rfl, ⟨hb.out.symm⟩, rfl⟩
    · have b0 : (n == 0) = false := by simpa using hn0
      have hb : Aside0 (decide (n = 0 ∧ e1 = 0) = false) := ⟨decide_eq_false (fun q => hn0 q.1)⟩
      replace hn0 := Aside0.mk hn0
      go_wp2
      go_meet
      case rel => exact ⟨_, rfl, ⟨hb.out.symm⟩, rfl⟩
  case rest =>
    obtain ⟨b, rfl, hb, rfl⟩ := hcut
    go_upto_if 20 with (fail)
    go_cut [21] (fun _ W => Aside0 (IsR 69 r W g l1 (if (n == 0) = true ∧ e1 = 0 then 9 else e1) A1 c1 ∧ KT ST r w W ∧ W.heap[r]? = some (.cells #[.slice none 0 0] 24 (0, 0)) ∧ W.heap[h]? = some (.cells #[.slice none 0 0] 24 (0, 0))))
    case first =>
      have hbase := hr.out
      have hKw := (KT.of_bel hB0 (Nat.le_refl _) ST).trans hK1.out.out
      rw [hbase] at hr1 hKw
      have hrw := hK1.out.out.blk hr0.out (by decide)
      have hhw := hK1.out.out.blk hh0.out (by decide)
      cases b with
      | true =>
        have hc := Aside0.mk (of_decide_eq_true hb.out.symm)
        have hs := Aside0.mk (hr1.out.setE (by decide) 9)
        replace hKw := Aside0.mk hKw
        replace hrw := Aside0.mk hrw
        replace hhw := Aside0.mk hhw
        go_wp2
        go_meet
        case rel => exact ⟨by rw [if_pos ⟨by simpa using hc.out.1, hc.out.2⟩]; exact hs.out.1, hKw.out.trans hs.out.2, hs.out.2.blk hrw.out (by decide), hs.out.2.blk hhw.out (by decide)⟩
      | false =>
        have hc := Aside0.mk (of_decide_eq_false hb.out.symm)
        replace hKw := Aside0.mk hKw
        replace hrw := Aside0.mk hrw
        replace hhw := Aside0.mk hhw
        go_wp2
        go_meet
        case rel => exact ⟨by rw [if_neg (fun q => hc.out ⟨by simpa using q.1, q.2⟩)]; exact hr1.out, hKw.out, hrw.out, hhw.out⟩
    case rest =>
      obtain ⟨hrc, hKc, hrs, hhs⟩ := hcut.out
      have hch := Aside0.mk (Ran.chk (n == 0) (er := 9) (by decide) l1 e1)
      obtain ⟨e2, he2⟩ : ∃ e2, (if (n == 0) = true ∧ e1 = 0 then 9 else e1) = e2 := ⟨_, rfl⟩
      rw [he2] at hrc hch
      clear hcut he2 hb y1 g1 hr1 hz1 b
      have hbw : r ≤ w.heap.size := Nat.le_of_eq hr.out.symm
      replace hrs := Aside0.mk hrs
      replace hhs := Aside0.mk hhs
      replace hKc := Aside0.mk hKc
      replace hrc := Aside0.mk hrc
      go_wp2
      go_loopw [25] (fun i W => ∃ (k : Nat) (fs : List SFunc) (v : Value) (lk : List Int) (ek : Int), k ≤ n.toNat ∧ i = .int .i64 k ∧ Aside0 (Ran (pRep pFn k) l1 e2 fs lk ek) ∧ IsRA 69 r W g lk ek ∧ Aside0 (W.heap[h]? = some (.cells #[v] 24 (0, 0)) ∧ OwnAt kFunc 43 h W v fs ∧ KT ST r w W ∧ W.heap[r]? = some (.cells #[.slice none 0 0] 24 (0, 0))) ∧ Aside0 ((∀ f ∈ fs, FuncOk f) ∧ fs.length = k)) (fun i _ => n.toNat - (intOf i).toNat)
      case atStart => exact ⟨0, [], .slice none 0 0, l1, e2, by omega, rfl, ⟨Ran.rep0 _ _ _⟩, ⟨_, _, hrc.out⟩, ⟨hhs.out, OwnAt.nil _ _ _ _, hKc.out, hrs.out⟩, ⟨by simp, rfl⟩⟩
      case round =>
        clear hrc hKc hrs hhs
        obtain ⟨k, fs, v, lk, ek, hk, rfl, hran, hRk, hC, hfs⟩ := hrel
        by_cases hlt : (k : Int) < n
        · have hhr : h ≤ wr.heap.size := Nat.le_of_lt (blk_lt hC.out.1)
          have hfl : fs.length ≤ 1000 := by rw [hfs.out.2]; omega
          have hrr : r ≤ wr.heap.size := by omega
          obtain ⟨A5, c5, rfl, _, _⟩ := hC.out.2.1.reads
          have cz : wr.cell? ⟨h, 0, none⟩ = some (.slice A5 fs.length c5) := blk_cell hC.out.1 0
          have hfn := Aside0.mk (fun (W : World) (z : Bel wr W) => fn_any r g lk ek W (by have := hG.out.below ((hC.out.2.2.1.trans (KT.of_bel z hrr ST)).below.mono (Nat.le_of_eq hr.out)); rw [hr.out] at this; exact ⟨this⟩) (by obtain ⟨A4, c4, hr4⟩ := hRk.out; exact ⟨⟨A4, c4, hr4.step z⟩⟩))
          go_upto_region 8 with (fail)
          go_region_law (first | (refine goes_ (f := 36) Tryd.func36 (by kernel_rfl) rfl #[.pointer (some ⟨g, 0, none⟩)] rfl rfl rfl (by simp only [List.map_toArray, List.map_cons, List.map_nil]; rfl) ?_; refine (hfn.out _ ((Bel.refl wr).drewN 1)).mono ?_; rintro ex w' ⟨f, u0, u1, u4, rfl, hGF⟩; obtain ⟨A0, c0, rfl, _, _⟩ := hGF.two.out.rv.reads; obtain ⟨A1, c1, rfl, _, _⟩ := hGF.two.out.ru.reads; obtain ⟨A6, c6, rfl, _, _⟩ := hGF.bl.reads; refine ⟨_, rfl, ?_⟩; have hbk := hGF.kt.out.blk (bel_blk hC.out.1 ((Bel.refl wr).drewN 1)) (by decide); have cz' : w'.cell? ⟨h, 0, none⟩ = some (.slice A5 fs.length c5) := blk_cell hbk 0; have cl' : h < w'.heap.size := blk_lt hbk; have cz3 := blk_cell (bel_blk hbk ((Bel.refl w').alloc (.cells #[.slice A0 f.f0.length c0, .slice A1 f.f1.length c1, .int .i64 f.f2, .int .i64 f.f3, .slice A6 f.f4.length c6] 43))) 0) | (refine app_func_at (xs := fs) f [.slice A0 f.f0.length c0, .slice A1 f.f1.length c1, .int .i64 f.f2, .int .i64 f.f3, .slice A6 f.f4.length c6] ((hC.out.2.1.step ((Bel.refl wr).drewN 1)).keep hGF.kt.out (by decide)) ⟨kFunc_mkM _ _ _ f (Kd.R_lower hGF.two.out.rv.out hhr) (Kd.R_lower hGF.two.out.ru.out hhr) (Kd.R_lower hGF.bl.out hhr)⟩ (Nat.le_trans hhr hGF.kt.out.size) rfl _ _ rfl ?_ rfl rfl ?_; (omega); intro v1 w1 hO hK1; obtain ⟨A7, c7, rfl, _, _⟩ := hO.reads; have hbk1 := hK1.blk hbk (by decide); have fz' : w1.frozen? ⟨h, 0, none⟩ = false := blk_frozen hbk1 0; have cz'' : w1.cell? ⟨h, 0, none⟩ = some (.slice A5 fs.length c5) := blk_cell hbk1 0))
          all_goals
            have hs1 := blk_put (cs' := #[.slice A7 (fs ++ [f]).length c7]) hbk1 0 (.slice A7 (fs ++ [f]).length c7) rfl
            have ks1 : KT [24] h w1 (w1.setCell ⟨h, 0, none⟩ (.slice A7 (fs ++ [f]).length c7)) := KT.set hbk1 (by decide) (Nat.le_refl _) 0 _
            have hKT : KT [43, 24] h w' (w1.setCell ⟨h, 0, none⟩ (.slice A7 (fs ++ [f]).length c7)) := (hK1.mono (Nat.le_refl _) (by decide)).trans (ks1.mono (Nat.le_refl _) (by decide))
            have hrw := hKT.below.block r (by omega)
            have hs := And.intro hs1 (And.intro (hO.keep ks1 (by decide)) (And.intro hKT hrw))
            clear hs1 ks1 hKT hrw
            simp only [List.length_append, List.length_cons, List.length_nil, Nat.zero_add] at hs
            replace hs := Aside0.mk hs
            go_wp2
            go_roundw
            case rel =>
              obtain ⟨l7, e7, hran7, hR7⟩ := hGF.ran
              obtain ⟨A8, c8, hr8⟩ := hR7.out
              refine ⟨k + 1, fs ++ [f], .slice A7 (fs.length + 1) c7, l7, e7, by omega, by go_num, ⟨hran.out.rep1 hran7.out⟩, ⟨_, _, hr8.keep (hs.out.2.2.1.mono (Nat.le_of_lt hlt1) (fun _ z => z)) (by decide) (by decide)⟩, ⟨hs.out.1, hs.out.2.1, ((hC.out.2.2.1.trans (KT.of_bel ((Bel.refl wr).drewN 1) hrr ST)).trans hGF.kt.out).after (hs.out.2.2.1.below.mono (by rw [hr.out]; exact Nat.le_of_lt hlt1)) hbw, hs.out.2.2.2.trans (hGF.kt.out.blk (bel_blk hC.out.2.2.2 ((Bel.refl wr).drewN 1)) (by decide))⟩, ⟨fun z hz => ?_, by rw [List.length_append, hfs.out.2]; rfl⟩⟩
              rcases List.mem_append.1 hz with hz | hz
              · exact hfs.out.1 z hz
              · rw [List.mem_singleton.1 hz]
                exact hGF.ok.out
            case measure => simp [intOf]; omega
        · have hkn : Aside0 (k = n.toNat) := ⟨by omega⟩
          obtain ⟨A4, c4, hr4⟩ := hRk.out
          have hfin := Aside0.mk (Ran.fin lk ek)
          have hpos := hr4.len
          have y0 : wr.cell? ⟨g, 0, none⟩ = some (.slice A4 lk.length c4) := blk_cell hr4.blk 0
          have y1 : wr.cell? ⟨g, 1, none⟩ = some (.int .i64 ek) := blk_cell hr4.blk 1
          have g1 := blk_frozen hr4.blk 1
          replace hr4 := Aside0.mk hr4
          go_upto_region 10 with (fail)
          go_cut [47] (fun t W => ∃ b, t = .bool b ∧ Aside0 (b = decide (ek = 0 ∧ 0 < lk.length)) ∧ wr = W)
          case first =>
            by_cases he : ek = 0
            · have b1 : (ek == 0) = true := by simpa using he
              by_cases hp : 0 < lk.length
              · have hb : Aside0 (decide (ek = 0 ∧ 0 < lk.length) = true) := ⟨decide_eq_true ⟨he, hp⟩⟩
                replace he := Aside0.mk he
                go_wp2
                go_meet
                case rel => exact ⟨_, rfl, ⟨hb.out.symm⟩, rfl⟩
              · have hb : Aside0 (decide (ek = 0 ∧ 0 < lk.length) = false) := ⟨decide_eq_false (fun q => hp q.2)⟩
                replace he := Aside0.mk he
                go_wp2
                go_meet
                case rel => exact ⟨_, rfl, ⟨hb.out.symm⟩, rfl⟩
            · have b1 : (ek == 0) = false := by simpa using he
              have hb : Aside0 (decide (ek = 0 ∧ 0 < lk.length) = false) := ⟨decide_eq_false (fun q => he q.1)⟩
              replace he := Aside0.mk he
              go_wp2
              go_meet
              case rel => exact ⟨_, rfl, ⟨hb.out.symm⟩, rfl⟩
          case rest =>
            obtain ⟨b, rfl, hb, rfl⟩ := hcut
            go_upto_if 47 with (fail)
            go_cut [48] (fun _ W => Aside0 (IsR 69 r W g lk (if ek = 0 ∧ 0 < lk.length then 11 else ek) A4 c4 ∧ KT ST r wr W))
            case first =>
              cases b with
              | true =>
                have hc := Aside0.mk (of_decide_eq_true hb.out.symm)
                have hs := Aside0.mk (hr4.out.setE (by decide) 11)
                go_wp2
                go_meet
                case rel => exact ⟨by rw [if_pos hc.out]; exact hs.out.1, hs.out.2⟩
              | false =>
                have hc := Aside0.mk (of_decide_eq_false hb.out.symm)
                go_wp2
                go_meet
                case rel => exact ⟨by rw [if_neg hc.out]; exact hr4.out, KT.refl _ _ _⟩
            case rest =>
              obtain ⟨hr5, hK5⟩ := hcut.out
              obtain ⟨e5, he5⟩ : ∃ e5, (if ek = 0 ∧ 0 < lk.length then 11 else ek) = e5 := ⟨_, rfl⟩
              rw [he5] at hr5 hfin
              rw [hkn.out] at hran
              have hall := (hran1.out.bind (hch.out.bind (hran.out.bind (hfin.out.bind (Ran.ret fs lk e5))))).imp (p' := pProg) rfl
              have hw5 := hall.whole
              have hbk := hK5.blk hC.out.1 (by decide)
              have hbr5 := hK5.blk hC.out.2.2.2 (by decide)
              have hown := hC.out.2.1.keep hK5 (by decide)
              have hkt := hC.out.2.2.1.trans hK5
              obtain ⟨A6, c6, rfl, _, _⟩ := hown.reads
              have z0 : wc.cell? ⟨h, 0, none⟩ = some (.slice A6 fs.length c6) := blk_cell hbk 0
              have z1 : wc.cell? ⟨g, 1, none⟩ = some (.int .i64 e5) := blk_cell hr5.blk 1
              have z2 := blk_frozen hbr5 0
              have z3 : wc.cell? ⟨r, 0, none⟩ = some (.slice none 0 0) := blk_cell hbr5 0
              have zl := blk_lt hbr5
              have hfs1 := Aside0.mk hfs.out.1
              clear hcut he5 hfin hran hC hRk hfs hr4 y0 y1 g1 hpos hall hb b hch hran1 hK1
              have hB5 : Bel w wc := ⟨by have := hkt.below; rwa [← hr.out] at this⟩
              have hput := fun u => blk_put (cs' := #[u]) hbr5 0 u rfl
              have hbel := Aside0.mk (fun u => (⟨hB5.out.setCell (p := ⟨r, 0, none⟩) (Nat.le_of_eq hr.out) u⟩ : Bel w (wc.setCell ⟨r, 0, none⟩ u)))
              have ksl := Aside0.mk (fun u => KT.set (ts := [24]) (base := r) hbr5 (by decide) (Nat.le_refl _) 0 u)
              replace hput := Aside0.mk hput
              replace hown := Aside0.mk hown
              replace hw5 := Aside0.mk hw5
              replace hkt := Aside0.mk hkt
              replace hbk := Aside0.mk hbk
              replace hbr5 := Aside0.mk hbr5
              replace hr5 := Aside0.mk hr5
              replace hK5 := Aside0.mk hK5
              by_cases h5 : e5 = 0
              · have b1 : (e5 != 0) = false := by simp [h5]
                replace h5 := Aside0.mk h5
                go_wp2
                refine bodyPost_ret (results_cell_row2 rfl _ _ r 24 #[.slice A6 fs.length c6] (0, 0) _ rfl (hput.out _) Tryd.underlying24 rfl (by kernel_rfl)) rfl ?_
                have he := hw5.out.1
                have hfs := hw5.out.2.1 h5.out
                refine ⟨.slice A6 fs.length c6, ?_, ⟨Kd.R_lower ?_ (show w.heap.size ≤ h by rw [← hh.out]; omega)⟩, hbel.out _, ⟨fun f hf => hfs1.out f (by rw [hfs]; exact hf)⟩⟩
                · rw [← he, h5.out]; rfl
                · rw [← hfs]
                  exact (hown.out.keep (ksl.out _) (by decide)).out
              · have b1 : (e5 != 0) = true := by simpa using h5
                replace h5 := Aside0.mk h5
                go_upto_region 13 with (fail)
                go_region_law (fail)
                all_goals
                  go_wp2
                  refine bodyPost_ret (results_cell_row2 rfl _ _ r 24 #[.slice none 0 0] (0, 0) _ rfl (hput.out _) Tryd.underlying24 rfl (by kernel_rfl)) rfl ?_
                  have he := hw5.out.1
                  have hfs := hw5.out.2.2 h5.out
                  refine ⟨.slice none 0 0, ?_, ⟨?_⟩, ?_, ⟨fun f hf => ?_⟩⟩
                  · rw [← he]; rfl
                  · rw [hfs]
                    exact (Own.nil _ _ _ _).out
                  · first | exact hbel.out _ | exact Bel.drewN (hbel.out _) 1
                  · rw [hfs] at hf; cases hf
end Go.Proofs.YtijdmnjkiiemlaaDoor.H
