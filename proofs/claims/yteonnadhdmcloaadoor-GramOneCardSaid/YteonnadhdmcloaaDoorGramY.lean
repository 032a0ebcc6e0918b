/- gram: begun; the law GramLevels answers true. -/
import Derived.Test.YteonnadhdmcloaaDoorGramS5
import Derived.Test.YteonnadhdmcloaaDoorGx8
import Derived.Test.YteonnadhdmcloaaDoorGx10
namespace Go.Proofs.YteonnadhdmcloaaDoor.G
open Go.RowKit Go.Proofs.YteonnadhdmcloaaDoorW.PrintWords Go.Proofs.YteonnadhdmcloaaDoorW.PrintLast Go.Proofs.YteonnadhdmcloaaDoorW.PrintMore
set_option linter.unusedVariables false
set_option linter.unusedSimpArgs false
theorem begun5 : donatuslaw5_begun.f 100 = some true := by decide +kernel
theorem begun5_ev : Ev (fun k => donatuslaw5_begun.f k) true := Ev.of (fun k => donatuslaw5_begun.mono k) begun5
theorem sums5 : ∃ l rs, donatuslaw5_Sums.f = some (l, ⟨#[]⟩, 0, rs) ∧ l.length = 3 ∧ (∀ t ∈ l, t.f0.size ≤ 1000) ∧ sizeB [] rs = true ∧ nameSizeB [] ⟨#[]⟩ rs = true := ⟨_, _, rfl, rfl, by decide, by decide, by decide⟩
theorem sizeB_mk {l : List S35} {rs : List S39} (hl : l.length ≤ 100000) (h : sizeB [] rs = true) : sizeB l rs = true := by
  unfold sizeB at h ⊢
  simp only [Bool.and_eq_true, decide_eq_true_eq] at h ⊢
  exact ⟨⟨hl, h.1.2⟩, h.2⟩
theorem nameSizeB_mk {l : List S35} {st : ByteArray} {rs : List S39} (hl : ∀ t ∈ l, t.f0.size ≤ 1000) (h : nameSizeB [] st rs = true) : nameSizeB l st rs = true := by
  unfold nameSizeB at h ⊢
  simp only [Bool.and_eq_true, decide_eq_true_eq, List.all_eq_true] at h ⊢
  exact ⟨⟨h.1.1, hl⟩, h.2⟩
theorem may_f {l : List S35} {st : ByteArray} {ex : Int} {rs : List S39} (h : sizeB l rs = true) : gram_May.f l st ex rs = some (mayB l st ex rs) := by unfold gram_May.f; rw [if_pos h]
theorem text_f {l : List S35} {st : ByteArray} {ex : Int} {rs : List S39} (h : sizeB l rs = true) : gram_Text.f l st ex rs = some (mkS (textL l st ex rs)) := by unfold gram_Text.f; rw [if_pos h]
theorem rmay_f {l : List S35} {st : ByteArray} {ex : Int} {rs : List S39} (h : sizeB l rs = true) (hn : nameSizeB l st rs = true) : donatusref4_May.f l st ex rs = some (mayB l st ex rs) := by unfold donatusref4_May.f; rw [if_pos h, if_pos hn, may_eq]
theorem rtext_f {l : List S35} {st : ByteArray} {ex : Int} {rs : List S39} (h : sizeB l rs = true) (hn : nameSizeB l st rs = true) : donatusref4_Text.f l st ex rs = some (mkS (textL l st ex rs)) := by unfold donatusref4_Text.f; rw [if_pos h, if_pos hn]
theorem levels_j1 {l : List S35} {st : ByteArray} {ex : Int} {rs : List S39} (h : sizeB l rs = true) (hn : nameSizeB l st rs = true) : Ev (fun k => donatuslaw5_GramLevels.j1 k l st ex rs) true := by
  refine Ev.step (fun k => by rw [donatuslaw5_GramLevels.j1]) ?_
  rw [may_f h, rmay_f h hn, text_f h, rtext_f h hn]
  simp only [Option.bind_some]
  cases mayB l st ex rs
  · exact ev_now (by simp)
  · exact ev_now (by simp)
theorem levels_l0 (x0 x1 : List Int) {st : ByteArray} {ex : Int} {rs : List S39} (h : sizeB [] rs = true) (hn : nameSizeB [] st rs = true) (d : Nat) : ∀ (i : Nat) (l : List S35), i + d = 8 → l.length = 3 + i → (∀ t ∈ l, t.f0.size ≤ 1000) → Ev (fun k => donatuslaw5_GramLevels.l0 k x0 x1 (i : Int) l st ex rs) true := by
  induction d with
  | zero =>
    intro i l hi hl hs
    have hj := levels_j1 (ex := ex) (sizeB_mk (l := l) (by omega) h) (nameSizeB_mk hs hn)
    refine Ev.step (fun k => by rw [donatuslaw5_GramLevels.l0]) ?_
    by_cases h1 : (i : Int) < (x0.length : Int)
    · refine ev_pos h1 ?_
      by_cases h2 : (i : Int) < (x1.length : Int)
      · exact ev_pos h2 (ev_neg (by omega) hj)
      · exact ev_neg h2 hj
    · exact ev_neg h1 hj
  | succ d ih =>
    intro i l hi hl hs
    have hj := levels_j1 (ex := ex) (sizeB_mk (l := l) (by omega) h) (nameSizeB_mk hs hn)
    refine Ev.step (fun k => by rw [donatuslaw5_GramLevels.l0]) ?_
    by_cases h1 : (i : Int) < (x0.length : Int)
    · refine ev_pos h1 ?_
      by_cases h2 : (i : Int) < (x1.length : Int)
      · refine ev_pos h2 (ev_pos (by omega) (ev_pos (by omega) (ev_pos (by omega) ?_)))
        rw [wrap_one (by omega)]
        refine ih (i + 1) _ (by omega) (by rw [List.length_append, hl]; simp; omega) fun t ht => ?_
        rcases List.mem_append.1 ht with ht | ht
        · exact hs t ht
        · rw [List.mem_singleton] at ht
          subst ht
          show (strOfNums _).size ≤ 1000
          rw [strOfNums_size]
          simp
      · exact ev_neg h2 hj
    · exact ev_neg h1 hj
theorem levels_ev (x0 x1 : List Int) : Ev (fun k => donatuslaw5_GramLevels.f k x0 x1) true := by
  unfold donatuslaw5_GramLevels.f
  refine Ev.bind begun5_ev (ev_pos rfl ?_)
  obtain ⟨l, rs, e, hl, hs, h, hn⟩ := sums5
  rw [e]
  simp only [Option.bind_some]
  exact levels_l0 x0 x1 h hn 8 0 l (by omega) (by omega) hs
end Go.Proofs.YteonnadhdmcloaaDoor.G
