/- gram: what the rows' lists give; what the laws' Cut answers. -/
import Derived.Test.YteonnadhdmcloaaDoorGramS4
import Derived.Test.YteonnadhdmcloaaDoorGxD
import Derived.Test.YteonnadhdmcloaaDoorRows
import Derived.Lib.LaidTab
namespace Go.Proofs.YteonnadhdmcloaaDoor.G
open Go.RowKit Go.Proofs.YteonnadhdmcloaaDoorW.PrintWords Go.Proofs.YteonnadhdmcloaaDoorW.PrintLast Go.Proofs.YteonnadhdmcloaaDoorW.PrintMore
set_option linter.unusedVariables false
set_option linter.unusedSimpArgs false
theorem may_f {l : List S35} {st : ByteArray} {ex : Int} {rs : List S39} (h : sizeB l rs = true) : gram_May.f l st ex rs = some (mayB l st ex rs) := by unfold gram_May.f; rw [if_pos h]
theorem text_f {l : List S35} {st : ByteArray} {ex : Int} {rs : List S39} (h : sizeB l rs = true) : gram_Text.f l st ex rs = some (mkS (textL l st ex rs)) := by unfold gram_Text.f; rw [if_pos h]
theorem rmay_f {l : List S35} {st : ByteArray} {ex : Int} {rs : List S39} (h : sizeB l rs = true) (hn : nameSizeB l st rs = true) : donatusref4_May.f l st ex rs = some (mayB l st ex rs) := by unfold donatusref4_May.f; rw [if_pos h, if_pos hn, may_eq]
theorem rtext_f {l : List S35} {st : ByteArray} {ex : Int} {rs : List S39} (h : sizeB l rs = true) (hn : nameSizeB l st rs = true) : donatusref4_Text.f l st ex rs = some (mkS (textL l st ex rs)) := by unfold donatusref4_Text.f; rw [if_pos h, if_pos hn]
theorem gTab : Tryd.prog.globalNamed "internal/strconv.uint64pow10" = some 0 := by kernel_rfl
theorem gTabType : (Tryd.prog.globals[0]?).map (·.type) = some 100 := by kernel_rfl
theorem cellsTab : Tryd.prog.cellsOf 100 = 20 := by kernel_rfl
theorem cellsNum : Tryd.prog.cellsOf 88 = 1 := by kernel_rfl
theorem tabDatum : (Rows.laid_internal_strconv_uint64pow10 : DataW Unit) = Lib.tabData .u64 Lib.pow10Tab := by kernel_rfl
/-- What the rows' list gives: strconv's table. -/
theorem tab_of {W : World} (h : laidMetH Tryd.prog Rows.gramLevelsRow.laid W) : Tab W := by
  have h2 : laidMet Tryd.prog [("math/bits.deBruijn32tab", Rows.laid_math_bits_deBruijn32tab), ("math/bits.deBruijn64tab", Rows.laid_math_bits_deBruijn64tab), ("internal/strconv.uint64pow10", Rows.laid_internal_strconv_uint64pow10)] W := h
  obtain ⟨ps, ⟨_, _, _, _, _, q1, _, _, _, _, ⟨_, _, _, _, _, q2, _, _, _, _, ⟨g', t', cs, fuel, p, q, hg', ht', hvar, hd, _, _⟩, _⟩, _⟩, _⟩ := h2
  obtain rfl := Option.some.inj (gTab.symm.trans hg')
  obtain rfl := Option.some.inj (gTabType.symm.trans ht')
  rw [tabDatum] at hd
  unfold Tab Lib.TabIs
  rw [hvar, ← Lib.cells_of_tab Tryd.underlying100 Tryd.underlying88 cellsNum cellsTab hd]
theorem cut1 (a : ByteArray) : ∃ b, donatuslaw1_Cut.f a 15 = some b ∧ b.size ≤ 15 := by
  unfold donatuslaw1_Cut.f
  by_cases h : (a.size : Int) > 15
  · rw [if_pos h, if_pos (by omega), if_pos (by omega)]
    exact ⟨_, rfl, by rw [ByteArray.size_extract, show (15 : Int).toNat = 15 from rfl]; omega⟩
  · rw [if_neg h]
    exact ⟨_, rfl, by omega⟩
def RGood (rs : List S39) : Prop := ∀ r ∈ rs, r.f0.size ≤ 15 ∧ r.f2.size ≤ 15 ∧ r.f1.length ≤ 22 ∧ ∀ s ∈ r.f1, s.size ≤ 15
def TGood (l : List S35) : Prop := ∀ t ∈ l, t.f0.size ≤ 15
theorem RGood.snoc {rs : List S39} {r : S39} (h : RGood rs) (hr : r.f0.size ≤ 15 ∧ r.f2.size ≤ 15 ∧ r.f1.length ≤ 22 ∧ ∀ s ∈ r.f1, s.size ≤ 15) : RGood (rs ++ [r]) := by
  intro x hx
  rcases List.mem_append.1 hx with hx | hx
  · exact h x hx
  · rw [List.mem_singleton.1 hx]; exact hr
theorem TGood.snoc {l : List S35} {t : S35} (h : TGood l) (ht : t.f0.size ≤ 15) : TGood (l ++ [t]) := by
  intro x hx
  rcases List.mem_append.1 hx with hx | hx
  · exact h x hx
  · rw [List.mem_singleton.1 hx]; exact ht
theorem cut_l2 (l : List S35) (st : ByteArray) (ex : Int) (rs : List S39) (l2 : List S35) (s2 : ByteArray) (e2 : Int) (i : Nat) (hi : i < rs.length) (hi2 : i < 105) (q : List S39) (hq : q.length = i) (hg : RGood q) (s p : ByteArray) (hs : s.size ≤ 15) (hp : p.size ≤ 15)
    (h : ∀ q' : List S39, q'.length = i + 1 → RGood q' → ∃ rs', Ev (fun k => donatuslaw5_Cut.l1 k ((i + 1 : Nat) : Int) l st ex rs l2 s2 e2 q') (l2, s2, e2, rs') ∧ rs'.length ≤ 105 ∧ RGood rs') (d : Nat) :
    ∀ (j : Nat) (xs : List ByteArray), j + d = 22 → xs.length = j → (∀ s ∈ xs, s.size ≤ 15) → ∃ rs', Ev (fun k => donatuslaw5_Cut.l2 k (i : Int) (j : Int) l st ex rs l2 s2 e2 q s xs p) (l2, s2, e2, rs') ∧ rs'.length ≤ 105 ∧ RGood rs' := by
  have hend : ∀ xs : List ByteArray, xs.length ≤ 22 → (∀ s ∈ xs, s.size ≤ 15) → ∃ rs', Ev (fun k => if q.length < 2513169434916 then donatuslaw5_Cut.l1 k (wrap64 ((i : Int) + 1)) l st ex rs l2 s2 e2 (q ++ [(⟨s, xs, p⟩ : S39)]) else none) (l2, s2, e2, rs') ∧ rs'.length ≤ 105 ∧ RGood rs' := by
    intro xs hx hs'
    obtain ⟨rs', h1, h2, h3⟩ := h (q ++ [(⟨s, xs, p⟩ : S39)]) (by simp [hq]) (hg.snoc ⟨hs, hp, hx, hs'⟩)
    refine ⟨rs', ev_pos (by omega) ?_, h2, h3⟩
    rw [wrap_one (by omega)]
    exact h1
  induction d with
  | zero =>
    intro j xs hj hx hs'
    obtain ⟨rs', h1, h2⟩ := hend xs (by omega) hs'
    by_cases c : (j : Int) < (((rd_T39 rs (i : Int)).f1).length : Int)
    · exact ⟨rs', Ev.step (fun k => by rw [donatuslaw5_Cut.l2]) (ev_pos (by omega) (ev_pos (by omega) (ev_pos c (ev_neg (by omega) h1)))), h2⟩
    · exact ⟨rs', Ev.step (fun k => by rw [donatuslaw5_Cut.l2]) (ev_pos (by omega) (ev_pos (by omega) (ev_neg c h1))), h2⟩
  | succ d ih =>
    intro j xs hj hx hs'
    by_cases c : (j : Int) < (((rd_T39 rs (i : Int)).f1).length : Int)
    · obtain ⟨b, hb, hb2⟩ := cut1 (rdOf ByteArray.empty ((rd_T39 rs (i : Int)).f1) (j : Int))
      obtain ⟨rs', h1, h2⟩ := ih (j + 1) (xs ++ [b]) (by omega) (by simp [hx]) (by
        intro x hx
        rcases List.mem_append.1 hx with hx | hx
        · exact hs' x hx
        · rw [List.mem_singleton.1 hx]; exact hb2)
      refine ⟨rs', Ev.step (fun k => by rw [donatuslaw5_Cut.l2]) (ev_pos (by omega) (ev_pos (by omega) (ev_pos c (ev_pos (by omega) (ev_pos (by omega) ?_))))), h2⟩
      rw [hb]
      simp only [Option.bind_some]
      refine ev_pos (by omega) ?_
      rw [wrap_one (by omega)]
      exact h1
    · obtain ⟨rs', h1, h2⟩ := hend xs (by omega) hs'
      exact ⟨rs', Ev.step (fun k => by rw [donatuslaw5_Cut.l2]) (ev_pos (by omega) (ev_pos (by omega) (ev_neg c h1))), h2⟩
theorem cut_l1 (l : List S35) (st : ByteArray) (ex : Int) (rs : List S39) (l2 : List S35) (s2 : ByteArray) (e2 : Int) (d : Nat) :
    ∀ (i : Nat) (q : List S39), i + d = 105 → q.length = i → RGood q → ∃ rs', Ev (fun k => donatuslaw5_Cut.l1 k (i : Int) l st ex rs l2 s2 e2 q) (l2, s2, e2, rs') ∧ rs'.length ≤ 105 ∧ RGood rs' := by
  induction d with
  | zero =>
    intro i q hi hq hg
    refine ⟨q, Ev.step (fun k => by rw [donatuslaw5_Cut.l1]) ?_, by omega, hg⟩
    by_cases c : (i : Int) < (rs.length : Int)
    · refine ev_pos c (Ev.step (fun k => by rw [donatuslaw5_Cut.j3]) ?_)
      rw [decide_eq_false (by omega)]
      exact ev_neg (by decide) (Ev.now _)
    · refine ev_neg c (Ev.step (fun k => by rw [donatuslaw5_Cut.j3]) ?_)
      exact ev_neg (by decide) (Ev.now _)
  | succ d ih =>
    intro i q hi hq hg
    by_cases c : (i : Int) < (rs.length : Int)
    · obtain ⟨b, hb, hb2⟩ := cut1 (rd_T39 rs (i : Int)).f0
      obtain ⟨b', hb', hb2'⟩ := cut1 (rd_T39 rs (i : Int)).f2
      obtain ⟨rs', h1, h2⟩ := cut_l2 l st ex rs l2 s2 e2 i (by omega) (by omega) q hq hg b b' hb2 hb2' (fun q' e g => ih (i + 1) q' (by omega) e g) 22 0 [] (by omega) rfl (fun _ h => by cases h)
      refine ⟨rs', Ev.step (fun k => by rw [donatuslaw5_Cut.l1]) (ev_pos c (Ev.step (fun k => by rw [donatuslaw5_Cut.j3]) ?_)), h2⟩
      rw [decide_eq_true (by omega)]
      refine ev_pos rfl (ev_pos (by omega) (ev_pos c ?_))
      rw [hb, hb']
      simp only [Option.bind_some]
      exact h1
    · refine ⟨q, Ev.step (fun k => by rw [donatuslaw5_Cut.l1]) (ev_neg c (Ev.step (fun k => by rw [donatuslaw5_Cut.j3]) ?_)), by omega, hg⟩
      exact ev_neg (by decide) (Ev.now _)
theorem cut_l0 (l : List S35) (st : ByteArray) (ex : Int) (rs : List S39) (s2 : ByteArray) (e2 : Int) (d : Nat) :
    ∀ (i : Nat) (q : List S35), i + d = 42 → q.length = i → TGood q → ∃ l' rs', Ev (fun k => donatuslaw5_Cut.l0 k (i : Int) l st ex rs q s2 e2) (l', s2, e2, rs') ∧ l'.length ≤ 42 ∧ TGood l' ∧ rs'.length ≤ 105 ∧ RGood rs' := by
  have hend : ∀ q : List S35, q.length ≤ 42 → TGood q → ∃ l' rs', Ev (fun k => donatuslaw5_Cut.j1 k l st ex rs q s2 e2) (l', s2, e2, rs') ∧ l'.length ≤ 42 ∧ TGood l' ∧ rs'.length ≤ 105 ∧ RGood rs' := by
    intro q hq hg
    obtain ⟨rs', h1, h2, h3⟩ := cut_l1 l st ex rs q s2 e2 105 0 [] (by omega) rfl (fun _ h => by cases h)
    exact ⟨q, rs', Ev.step (fun k => by rw [donatuslaw5_Cut.j1]; rfl) h1, hq, hg, h2, h3⟩
  induction d with
  | zero =>
    intro i q hi hq hg
    obtain ⟨l', rs', h1, h2⟩ := hend q (by omega) hg
    by_cases c : (i : Int) < (l.length : Int)
    · exact ⟨l', rs', Ev.step (fun k => by rw [donatuslaw5_Cut.l0]) (ev_pos c (ev_neg (by omega) h1)), h2⟩
    · exact ⟨l', rs', Ev.step (fun k => by rw [donatuslaw5_Cut.l0]) (ev_neg c h1), h2⟩
  | succ d ih =>
    intro i q hi hq hg
    by_cases c : (i : Int) < (l.length : Int)
    · obtain ⟨b, hb, hb2⟩ := cut1 (rd_T35 l (i : Int)).f0
      obtain ⟨l', rs', h1, h2⟩ := ih (i + 1) (q ++ [(⟨b, (rd_T35 l (i : Int)).f1, (rd_T35 l (i : Int)).f2⟩ : S35)]) (by omega) (by simp [hq]) (hg.snoc hb2)
      refine ⟨l', rs', Ev.step (fun k => by rw [donatuslaw5_Cut.l0]) (ev_pos c (ev_pos (by omega) (ev_pos (by omega) ?_))), h2⟩
      rw [hb]
      simp only [Option.bind_some]
      refine ev_pos (by omega) ?_
      rw [wrap_one (by omega)]
      exact h1
    · obtain ⟨l', rs', h1, h2⟩ := hend q (by omega) hg
      exact ⟨l', rs', Ev.step (fun k => by rw [donatuslaw5_Cut.l0]) (ev_neg c h1), h2⟩
/-- Cut answers, and what it answers is small. -/
theorem cut_ev (l : List S35) (st : ByteArray) (ex : Int) (rs : List S39) : ∃ l' st' ex' rs', Ev (fun k => donatuslaw5_Cut.f k l st ex rs) (l', st', ex', rs') ∧ sizeB l' rs' = true ∧ nameSizeB l' st' rs' = true := by
  obtain ⟨s2, hs2, hz⟩ := cut1 st
  obtain ⟨l', rs', h1, h2, h3, h4, h5⟩ := cut_l0 l st ex rs s2 ex 42 0 [] (by omega) rfl (fun _ h => by cases h)
  refine ⟨l', s2, ex, rs', ?_, ?_, ?_⟩
  · unfold donatuslaw5_Cut.f
    rw [hs2]
    simp only [Option.bind_some]
    exact h1
  · unfold sizeB
    simp only [Bool.and_eq_true, decide_eq_true_eq, List.all_eq_true]
    exact ⟨⟨by omega, by omega⟩, fun r hr => by have := (h5 r hr).2.2.1; omega⟩
  · unfold nameSizeB
    simp only [Bool.and_eq_true, decide_eq_true_eq, List.all_eq_true]
    exact ⟨⟨by omega, fun t ht => by have := h3 t ht; omega⟩, fun r hr => ⟨⟨by have := (h5 r hr).1; omega, by have := (h5 r hr).2.1; omega⟩, fun s hs => by have := (h5 r hr).2.2.2 s hs; omega⟩⟩
theorem req_f {l l2 : List S35} {st st2 : ByteArray} {ex ex2 : Int} {rs rs2 : List S39} (h : sizeB l rs = true) : donatusref4_Eq.f l st ex rs l2 st2 ex2 rs2 = some (geqB l st ex rs l2 st2 ex2 rs2) := by unfold donatusref4_Eq.f; rw [if_pos h]
end Go.Proofs.YteonnadhdmcloaaDoor.G
