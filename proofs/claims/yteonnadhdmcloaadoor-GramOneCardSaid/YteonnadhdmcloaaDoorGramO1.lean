/- gram: what the laws' Cut answers; the law GramOne answers true. -/
import Derived.Test.YteonnadhdmcloaaDoorGramZ
import Derived.Test.YteonnadhdmcloaaDoorGx13
namespace Go.Proofs.YteonnadhdmcloaaDoor.G
open Go.RowKit Go.Proofs.YteonnadhdmcloaaDoorW.PrintWords Go.Proofs.YteonnadhdmcloaaDoorW.PrintLast Go.Proofs.YteonnadhdmcloaaDoorW.PrintMore
set_option linter.unusedVariables false
set_option linter.unusedSimpArgs false
theorem cut1 (a : ByteArray) : ∃ b, donatuslaw1_Cut.f a 15 = some b ∧ b.size ≤ 15 := by
  unfold donatuslaw1_Cut.f
  by_cases h : (a.size : Int) > 15
  · rw [if_pos h, if_pos (by omega), if_pos (by omega)]
    exact ⟨_, rfl, by rw [ByteArray.size_extract, show (15 : Int).toNat = 15 from rfl]; omega⟩
  · rw [if_neg h]
    exact ⟨_, rfl, by omega⟩
def RGood (rs : List S39) : Prop := ∀ r ∈ rs, r.f0.size ≤ 15 ∧ r.f2.size ≤ 15 ∧ r.f1.length ≤ 22 ∧ ∀ s ∈ r.f1, s.size ≤ 15
def TGood (l : List S35) : Prop := ∀ t ∈ l, t.f0.size ≤ 15
theorem RGood.snoc {rs : List S39} {r : S39} (h : RGood rs) (hr : r.f0.size ≤ 15 ∧ r.f2.size ≤ 15 ∧ r.f1.length ≤ 22 ∧ ∀ s ∈ r.f1, s.size ≤ 15) : RGood (rs ++ [r]) := by
  intro x hx
  rcases List.mem_append.1 hx with hx | hx
  · exact h x hx
  · rw [List.mem_singleton.1 hx]; exact hr
theorem TGood.snoc {l : List S35} {t : S35} (h : TGood l) (ht : t.f0.size ≤ 15) : TGood (l ++ [t]) := by
  intro x hx
  rcases List.mem_append.1 hx with hx | hx
  · exact h x hx
  · rw [List.mem_singleton.1 hx]; exact ht
theorem cut_l2 (l : List S35) (st : ByteArray) (ex : Int) (rs : List S39) (l2 : List S35) (s2 : ByteArray) (e2 : Int) (i : Nat) (hi : i < rs.length) (hi2 : i < 105) (q : List S39) (hq : q.length = i) (hg : RGood q) (s p : ByteArray) (hs : s.size ≤ 15) (hp : p.size ≤ 15)
    (h : ∀ q' : List S39, q'.length = i + 1 → RGood q' → ∃ rs', Ev (fun k => donatuslaw5_Cut.l1 k ((i + 1 : Nat) : Int) l st ex rs l2 s2 e2 q') (l2, s2, e2, rs') ∧ rs'.length ≤ 105 ∧ RGood rs') (d : Nat) :
    ∀ (j : Nat) (xs : List ByteArray), j + d = 22 → xs.length = j → (∀ s ∈ xs, s.size ≤ 15) → ∃ rs', Ev (fun k => donatuslaw5_Cut.l2 k (i : Int) (j : Int) l st ex rs l2 s2 e2 q s xs p) (l2, s2, e2, rs') ∧ rs'.length ≤ 105 ∧ RGood rs' := by
  have hend : ∀ xs : List ByteArray, xs.length ≤ 22 → (∀ s ∈ xs, s.size ≤ 15) → ∃ rs', Ev (fun k => if q.length < 2513169434916 then donatuslaw5_Cut.l1 k (wrap64 ((i : Int) + 1)) l st ex rs l2 s2 e2 (q ++ [(⟨s, xs, p⟩ : S39)]) else none) (l2, s2, e2, rs') ∧ rs'.length ≤ 105 ∧ RGood rs' := by
    intro xs hx hs'
    obtain ⟨rs', h1, h2, h3⟩ := h (q ++ [(⟨s, xs, p⟩ : S39)]) (by simp [hq]) (hg.snoc ⟨hs, hp, hx, hs'⟩)
    refine ⟨rs', ev_pos (by omega) ?_, h2, h3⟩
    rw [wrap_one (by omega)]
    exact h1
  induction d with
  | zero =>
    intro j xs hj hx hs'
    obtain ⟨rs', h1, h2⟩ := hend xs (by omega) hs'
    by_cases c : (j : Int) < (((rd_T39 rs (i : Int)).f1).length : Int)
    · exact ⟨rs', Ev.step (fun k => by rw [donatuslaw5_Cut.l2]) (ev_pos (by omega) (ev_pos (by omega) (ev_pos c (ev_neg (by omega) h1)))), h2⟩
    · exact ⟨rs', Ev.step (fun k => by rw [donatuslaw5_Cut.l2]) (ev_pos (by omega) (ev_pos (by omega) (ev_neg c h1))), h2⟩
  | succ d ih =>
    intro j xs hj hx hs'
    by_cases c : (j : Int) < (((rd_T39 rs (i : Int)).f1).length : Int)
    · obtain ⟨b, hb, hb2⟩ := cut1 (rdOf ByteArray.empty ((rd_T39 rs (i : Int)).f1) (j : Int))
      obtain ⟨rs', h1, h2⟩ := ih (j + 1) (xs ++ [b]) (by omega) (by simp [hx]) (by
        intro x hx
        rcases List.mem_append.1 hx with hx | hx
        · exact hs' x hx
        · rw [List.mem_singleton.1 hx]; exact hb2)
      refine ⟨rs', Ev.step (fun k => by rw [donatuslaw5_Cut.l2]) (ev_pos (by omega) (ev_pos (by omega) (ev_pos c (ev_pos (by omega) (ev_pos (by omega) ?_))))), h2⟩
      rw [hb]
      simp only [Option.bind_some]
      refine ev_pos (by omega) ?_
      rw [wrap_one (by omega)]
      exact h1
    · obtain ⟨rs', h1, h2⟩ := hend xs (by omega) hs'
      exact ⟨rs', Ev.step (fun k => by rw [donatuslaw5_Cut.l2]) (ev_pos (by omega) (ev_pos (by omega) (ev_neg c h1))), h2⟩
theorem cut_l1 (l : List S35) (st : ByteArray) (ex : Int) (rs : List S39) (l2 : List S35) (s2 : ByteArray) (e2 : Int) (d : Nat) :
    ∀ (i : Nat) (q : List S39), i + d = 105 → q.length = i → RGood q → ∃ rs', Ev (fun k => donatuslaw5_Cut.l1 k (i : Int) l st ex rs l2 s2 e2 q) (l2, s2, e2, rs') ∧ rs'.length ≤ 105 ∧ RGood rs' := by
  induction d with
  | zero =>
    intro i q hi hq hg
    refine ⟨q, Ev.step (fun k => by rw [donatuslaw5_Cut.l1]) ?_, by omega, hg⟩
    by_cases c : (i : Int) < (rs.length : Int)
    · refine ev_pos c (Ev.step (fun k => by rw [donatuslaw5_Cut.j3]) ?_)
      rw [decide_eq_false (by omega)]
      exact ev_neg (by decide) (Ev.now _)
    · refine ev_neg c (Ev.step (fun k => by rw [donatuslaw5_Cut.j3]) ?_)
      exact ev_neg (by decide) (Ev.now _)
  | succ d ih =>
    intro i q hi hq hg
    by_cases c : (i : Int) < (rs.length : Int)
    · obtain ⟨b, hb, hb2⟩ := cut1 (rd_T39 rs (i : Int)).f0
      obtain ⟨b', hb', hb2'⟩ := cut1 (rd_T39 rs (i : Int)).f2
      obtain ⟨rs', h1, h2⟩ := cut_l2 l st ex rs l2 s2 e2 i (by omega) (by omega) q hq hg b b' hb2 hb2' (fun q' e g => ih (i + 1) q' (by omega) e g) 22 0 [] (by omega) rfl (fun _ h => by cases h)
      refine ⟨rs', Ev.step (fun k => by rw [donatuslaw5_Cut.l1]) (ev_pos c (Ev.step (fun k => by rw [donatuslaw5_Cut.j3]) ?_)), h2⟩
      rw [decide_eq_true (by omega)]
      refine ev_pos rfl (ev_pos (by omega) (ev_pos c ?_))
      rw [hb, hb']
      simp only [Option.bind_some]
      exact h1
    · refine ⟨q, Ev.step (fun k => by rw [donatuslaw5_Cut.l1]) (ev_neg c (Ev.step (fun k => by rw [donatuslaw5_Cut.j3]) ?_)), by omega, hg⟩
      exact ev_neg (by decide) (Ev.now _)
theorem cut_l0 (l : List S35) (st : ByteArray) (ex : Int) (rs : List S39) (s2 : ByteArray) (e2 : Int) (d : Nat) :
    ∀ (i : Nat) (q : List S35), i + d = 42 → q.length = i → TGood q → ∃ l' rs', Ev (fun k => donatuslaw5_Cut.l0 k (i : Int) l st ex rs q s2 e2) (l', s2, e2, rs') ∧ l'.length ≤ 42 ∧ TGood l' ∧ rs'.length ≤ 105 ∧ RGood rs' := by
  have hend : ∀ q : List S35, q.length ≤ 42 → TGood q → ∃ l' rs', Ev (fun k => donatuslaw5_Cut.j1 k l st ex rs q s2 e2) (l', s2, e2, rs') ∧ l'.length ≤ 42 ∧ TGood l' ∧ rs'.length ≤ 105 ∧ RGood rs' := by
    intro q hq hg
    obtain ⟨rs', h1, h2, h3⟩ := cut_l1 l st ex rs q s2 e2 105 0 [] (by omega) rfl (fun _ h => by cases h)
    exact ⟨q, rs', Ev.step (fun k => by rw [donatuslaw5_Cut.j1]; rfl) h1, hq, hg, h2, h3⟩
  induction d with
  | zero =>
    intro i q hi hq hg
    obtain ⟨l', rs', h1, h2⟩ := hend q (by omega) hg
    by_cases c : (i : Int) < (l.length : Int)
    · exact ⟨l', rs', Ev.step (fun k => by rw [donatuslaw5_Cut.l0]) (ev_pos c (ev_neg (by omega) h1)), h2⟩
    · exact ⟨l', rs', Ev.step (fun k => by rw [donatuslaw5_Cut.l0]) (ev_neg c h1), h2⟩
  | succ d ih =>
    intro i q hi hq hg
    by_cases c : (i : Int) < (l.length : Int)
    · obtain ⟨b, hb, hb2⟩ := cut1 (rd_T35 l (i : Int)).f0
      obtain ⟨l', rs', h1, h2⟩ := ih (i + 1) (q ++ [(⟨b, (rd_T35 l (i : Int)).f1, (rd_T35 l (i : Int)).f2⟩ : S35)]) (by omega) (by simp [hq]) (hg.snoc hb2)
      refine ⟨l', rs', Ev.step (fun k => by rw [donatuslaw5_Cut.l0]) (ev_pos c (ev_pos (by omega) (ev_pos (by omega) ?_))), h2⟩
      rw [hb]
      simp only [Option.bind_some]
      refine ev_pos (by omega) ?_
      rw [wrap_one (by omega)]
      exact h1
    · obtain ⟨l', rs', h1, h2⟩ := hend q (by omega) hg
      exact ⟨l', rs', Ev.step (fun k => by rw [donatuslaw5_Cut.l0]) (ev_neg c h1), h2⟩
/-- Cut answers, and what it answers is small. -/
theorem cut_ev (l : List S35) (st : ByteArray) (ex : Int) (rs : List S39) : ∃ l' st' ex' rs', Ev (fun k => donatuslaw5_Cut.f k l st ex rs) (l', st', ex', rs') ∧ sizeB l' rs' = true ∧ nameSizeB l' st' rs' = true := by
  obtain ⟨s2, hs2, hz⟩ := cut1 st
  obtain ⟨l', rs', h1, h2, h3, h4, h5⟩ := cut_l0 l st ex rs s2 ex 42 0 [] (by omega) rfl (fun _ h => by cases h)
  refine ⟨l', s2, ex, rs', ?_, ?_, ?_⟩
  · unfold donatuslaw5_Cut.f
    rw [hs2]
    simp only [Option.bind_some]
    exact h1
  · unfold sizeB
    simp only [Bool.and_eq_true, decide_eq_true_eq, List.all_eq_true]
    exact ⟨⟨by omega, by omega⟩, fun r hr => by have := (h5 r hr).2.2.1; omega⟩
  · unfold nameSizeB
    simp only [Bool.and_eq_true, decide_eq_true_eq, List.all_eq_true]
    exact ⟨⟨by omega, fun t ht => by have := h3 t ht; omega⟩, fun r hr => ⟨⟨by have := (h5 r hr).1; omega, by have := (h5 r hr).2.1; omega⟩, fun s hs => by have := (h5 r hr).2.2.2 s hs; omega⟩⟩
theorem req_f {l l2 : List S35} {st st2 : ByteArray} {ex ex2 : Int} {rs rs2 : List S39} (h : sizeB l rs = true) : donatusref4_Eq.f l st ex rs l2 st2 ex2 rs2 = some (geqB l st ex rs l2 st2 ex2 rs2) := by unfold donatusref4_Eq.f; rw [if_pos h]
theorem one_j0 {la lb : List S35} {sa sb : ByteArray} {ea eb : Int} {ra rb : List S39} (ha : sizeB la ra = true) (hb : sizeB lb rb = true) (x : Bool) (hx : x = false → mayB la sa ea ra = true ∧ mayB lb sb eb rb = true) : Ev (fun k => donatuslaw5_GramOne.j0 k x la sa ea ra lb sb eb rb) true := by
  refine Ev.step (fun k => by rw [donatuslaw5_GramOne.j0]) ?_
  cases x with
  | true => exact ev_pos rfl (Ev.now true)
  | false =>
    obtain ⟨m1, m2⟩ := hx rfl
    refine ev_neg (by decide) ?_
    rw [text_f ha, text_f hb, req_f ha]
    simp only [Option.bind_some]
    have e : ((mkS (textL la sa ea ra)).toList = (mkS (textL lb sb eb rb)).toList) = (la = lb ∧ sa = sb ∧ ea = eb ∧ ra = rb) := propext (by
      rw [Lib.toList_data, Lib.toList_data, mkS_list, mkS_list]
      constructor
      · exact text_inj m1 m2
      · rintro ⟨rfl, rfl, rfl, rfl⟩; rfl)
    by_cases h : la = lb ∧ sa = sb ∧ ea = eb ∧ ra = rb
    · refine ev_pos (e.mpr h) (ev_now ?_)
      obtain ⟨rfl, rfl, rfl, rfl⟩ := h
      simp [geqB]
    · refine ev_neg (fun hh => h (e.mp hh)) (ev_now ?_)
      have : geqB la sa ea ra lb sb eb rb = false := by
        cases hq : geqB la sa ea ra lb sb eb rb with
        | false => rfl
        | true =>
          unfold geqB at hq
          simp only [Bool.and_eq_true, decide_eq_true_eq] at hq
          exact absurd ⟨hq.2, hq.1.1.2, hq.1.2, hq.1.1.1⟩ h
      rw [this]
      rfl
theorem one_ev (l0 : List S35) (a1 : ByteArray) (a2 : Int) (l3 : List S39) (m0 : List S35) (b1 : ByteArray) (b2 : Int) (m3 : List S39) : Ev (fun k => donatuslaw5_GramOne.f k l0 a1 a2 l3 m0 b1 b2 m3) true := by
  obtain ⟨la, sa, ea, ra, ca, za, _⟩ := cut_ev l0 a1 a2 l3
  obtain ⟨lb, sb, eb, rb, cb, zb, _⟩ := cut_ev m0 b1 b2 m3
  unfold donatuslaw5_GramOne.f
  refine Ev.bind begun5_ev (ev_pos rfl (Ev.bind ca (Ev.bind cb ?_)))
  simp only []
  rw [may_f za, may_f zb]
  simp only [Option.bind_some]
  cases m1 : mayB la sa ea ra with
  | false => exact ev_neg (by decide) (one_j0 za zb true (fun h => by cases h))
  | true =>
    refine ev_pos rfl (one_j0 za zb _ fun h => ⟨m1, ?_⟩)
    simpa using h
theorem one_walk (w : World) (ht : Tab w) (A0 : Option Addr) (c0 : Nat) (A3 : Option Addr) (c3 : Nat) (x : S25) (r0 : k35.C w A0 x.f0.length x.f0) (e0 : x.f0.length ≤ c0) (r3 : k39.C w A3 x.f3.length x.f3) (e3 : x.f3.length ≤ c3) {ok : Prop} (hok : ok)
    (B0 : Option Addr) (d0 : Nat) (B3 : Option Addr) (d3 : Nat) (y : S25) (q0 : k35.C w B0 y.f0.length y.f0) (u0 : y.f0.length ≤ d0) (q3 : k39.C w B3 y.f3.length y.f3) (u3 : y.f3.length ≤ d3) {ok2 : Prop} (hok2 : ok2) :
    Calls Tryd.prog 4 #[.agg #[.slice A0 x.f0.length c0, .string x.f1, .int .i64 x.f2, .slice A3 x.f3.length c3], .agg #[.slice B0 y.f0.length d0, .string y.f1, .int .i64 y.f2, .slice B3 y.f3.length d3]] w fun e w' => e = .returned (.bool true) ∧ Below w.heap.size w w' := by
  obtain ⟨k, hk⟩ := (one_ev x.f0 x.f1 x.f2 x.f3 y.f0 y.f1 y.f2 y.f3).rounds
  exact donatuslaw5_GramOne.calls k A0 c0 x.f0 x.f1 x.f2 A3 c3 x.f3 B0 d0 y.f0 y.f1 y.f2 B3 d3 y.f3 true w ht ⟨rfl⟩ r0 e0 r3 e3 q0 u0 q3 u3 hk
end Go.Proofs.YteonnadhdmcloaaDoor.G
