/- gram: the law GramLimits answers true. -/
import Derived.Test.YteonnadhdmcloaaDoorGramZ
import Derived.Test.YteonnadhdmcloaaDoorGx15
namespace Go.Proofs.YteonnadhdmcloaaDoor.G
open Go.RowKit Go.Proofs.YteonnadhdmcloaaDoorW.PrintWords Go.Proofs.YteonnadhdmcloaaDoorW.PrintLast Go.Proofs.YteonnadhdmcloaaDoorW.PrintMore
set_option linter.unusedVariables false
set_option linter.unusedSimpArgs false
def tokOf (i : Nat) : S35 := ⟨strOfNums [84, ((97 + i / 10 : Nat) : Int), ((48 + i % 10 : Nat) : Int)], 0, 0⟩
def toksL (n : Nat) : List S35 := (List.range n).map tokOf
def ruleOf (m : Nat) : S39 := ⟨⟨#[115]⟩, List.replicate m ⟨#[115]⟩, ⟨#[]⟩⟩
theorem toks_succ (n : Nat) : toksL (n + 1) = toksL n ++ [tokOf n] := by
  unfold toksL
  rw [List.range_succ, List.map_append]
  rfl
theorem toks_length (n : Nat) : (toksL n).length = n := by simp [toksL]
theorem toks_ok : ∀ n : Fin 46, tokensB (toksL n.val) = decide (n.val ≤ 40) := by decide +kernel
theorem rule_ok : ∀ m : Fin 26, ruleBad (ruleOf m.val) = decide (20 < m.val) := by decide +kernel
theorem tok_eq (i : Nat) (h : i ≤ 45) : (⟨strOfNums ([84, (wrap64 (97 + (wrap64 (Int.tdiv (i : Int) 10)))) % 256, (wrap64 (48 + (Int.tmod (i : Int) 10))) % 256] : List Int), 0, 0⟩ : S35) = tokOf i := by
  have e1 : Int.tmod (i : Int) 10 = ((i % 10 : Nat) : Int) := by rw [Int.tmod_eq_emod_of_nonneg (by omega)]; omega
  have e2 : Int.tdiv (i : Int) 10 = ((i / 10 : Nat) : Int) := by rw [Int.tdiv_eq_ediv_of_nonneg (by omega)]; omega
  have e3 : wrap64 (48 + ((i % 10 : Nat) : Int)) % 256 = ((48 + i % 10 : Nat) : Int) := by unfold wrap64; omega
  have e4 : wrap64 ((i / 10 : Nat) : Int) = ((i / 10 : Nat) : Int) := by unfold wrap64; omega
  have e5 : wrap64 (97 + ((i / 10 : Nat) : Int)) % 256 = ((97 + i / 10 : Nat) : Int) := by unfold wrap64; omega
  rw [e1, e2, e3, e4, e5]
  rfl
theorem lim_may (n r m : Nat) (ex : Int) (hn : n ≤ 45) (hm : m ≤ 25) : mayB (toksL n) ⟨#[]⟩ ex (List.replicate r (ruleOf m)) = (decide (n ≤ 40) && decide (r ≤ 100) && (decide (m ≤ 20) || decide (r = 0)) && decide (0 ≤ ex) && decide (ex ≤ 9999)) := by
  have h1 := toks_ok ⟨n, by omega⟩
  have h2 := rule_ok ⟨m, by omega⟩
  have h3 : (List.replicate r (ruleOf m)).any ruleBad = (!(decide (m ≤ 20) || decide (r = 0))) := by
    rw [List.any_replicate]
    by_cases hr : r = 0
    · rw [if_pos hr, decide_eq_true hr]; simp
    · rw [if_neg hr, decide_eq_false hr, show ruleBad (ruleOf m) = decide (20 < m) from h2, Bool.or_false, ← decide_not]
      exact decide_eq_decide.2 (by omega)
  unfold mayB
  rw [h3, show tokensB (toksL n) = decide (n ≤ 40) from h1, List.length_replicate, show orB ⟨#[]⟩ = true from by decide]
  cases decide (n ≤ 40) <;> cases decide (r ≤ 100) <;> cases (decide (m ≤ 20) || decide (r = 0)) <;> cases decide (0 ≤ ex) <;> cases decide (ex ≤ 9999) <;> rfl
theorem text_some {l : List S35} {st : ByteArray} {ex : Int} {rs : List S39} : textL l st ex rs = [] ↔ mayB l st ex rs = false := by
  unfold textL
  cases mayB l st ex rs with
  | false => simp
  | true =>
    rw [if_pos rfl]
    constructor
    · intro h
      have := congrArg List.length h
      unfold headL at this
      rw [show lineL [sCut] = [37, 37, 10] from rfl] at this
      simp at this
    · intro h; cases h
theorem lim_exit (n r m : Nat) (ex : Int) (hn : n ≤ 45) (hr : r ≤ 105) (hm : m ≤ 25) : Ev (fun k => donatuslaw5_GramLimits.l1 k (n : Int) (r : Int) (m : Int) ex (r : Int) (toksL n) ⟨#[]⟩ ex (List.replicate r (ruleOf m))) true := by
  refine Ev.step (fun k => by rw [donatuslaw5_GramLimits.l1]) (ev_neg (by omega) ?_)
  have hs : sizeB (toksL n) (List.replicate r (ruleOf m)) = true := by
    unfold sizeB
    simp only [Bool.and_eq_true, decide_eq_true_eq, List.all_eq_true, toks_length, List.length_replicate]
    refine ⟨⟨by omega, by omega⟩, fun x hx => ?_⟩
    rw [(List.mem_replicate.1 hx).2]
    show (List.replicate m _).length ≤ 100000
    rw [List.length_replicate]
    omega
  have hT : (mkS (textL (toksL n) ⟨#[]⟩ ex (List.replicate r (ruleOf m)))).toList = [] ↔ mayB (toksL n) ⟨#[]⟩ ex (List.replicate r (ruleOf m)) = false := by
    rw [Lib.toList_data, mkS_list]
    exact text_some
  rw [may_f hs, text_f hs]
  simp only [Option.bind_some]
  generalize (mkS (textL (toksL n) ⟨#[]⟩ ex (List.replicate r (ruleOf m)))).toList = T at hT
  rw [lim_may n r m ex hn hm] at hT ⊢
  have e1 : ((n : Int) ≤ 40) = (n ≤ 40) := propext (by omega)
  have e2 : ((r : Int) ≤ 100) = (r ≤ 100) := propext (by omega)
  have e3 : ((m : Int) ≤ 20) = (m ≤ 20) := propext (by omega)
  have e4 : ((r : Int) = 0) = (r = 0) := propext (by omega)
  simp only [e1, e2, e3, e4, ge_iff_le]
  refine Ev.congr (fun _ => ?_) (Ev.now true)
  by_cases c1 : n ≤ 40 <;> by_cases c2 : r ≤ 100 <;> by_cases c3 : m ≤ 20 <;> by_cases c4 : r = 0 <;> by_cases c5 : 0 ≤ ex <;> by_cases c6 : ex ≤ 9999 <;> simp [c1, c2, c3, c4, c5, c6] at hT ⊢ <;> simp [hT]
theorem lim_l2 (n r m i : Nat) (ex : Int) (rs : List S39) (hm : m ≤ 25) (hi : i ≤ 105) (hrs : rs.length ≤ 105) (h : Ev (fun k => donatuslaw5_GramLimits.l1 k (n : Int) (r : Int) (m : Int) ex ((i + 1 : Nat) : Int) (toksL n) ⟨#[]⟩ ex (rs ++ [ruleOf m])) true) (d : Nat) : ∀ j : Nat, j + d = m → Ev (fun k => donatuslaw5_GramLimits.l2 k (n : Int) (r : Int) (m : Int) ex (i : Int) (j : Int) (toksL n) ⟨#[]⟩ ex rs ⟨#[115]⟩ (List.replicate j ⟨#[115]⟩) ⟨#[]⟩) true := by
  induction d with
  | zero =>
    intro j hj
    obtain rfl : j = m := by omega
    refine Ev.step (fun k => by rw [donatuslaw5_GramLimits.l2]) (ev_neg (by omega) (ev_pos (by omega) ?_))
    rw [wrap_one (by omega)]
    exact h
  | succ d ih =>
    intro j hj
    refine Ev.step (fun k => by rw [donatuslaw5_GramLimits.l2]) (ev_pos (by omega) (ev_pos (by rw [List.length_replicate]; omega) ?_))
    rw [wrap_one (by omega), ← List.replicate_succ']
    exact ih (j + 1) (by omega)
theorem lim_l1 (n r m : Nat) (ex : Int) (hn : n ≤ 45) (hr : r ≤ 105) (hm : m ≤ 25) (d : Nat) : ∀ i : Nat, i + d = r → Ev (fun k => donatuslaw5_GramLimits.l1 k (n : Int) (r : Int) (m : Int) ex (i : Int) (toksL n) ⟨#[]⟩ ex (List.replicate i (ruleOf m))) true := by
  induction d with
  | zero =>
    intro i hi
    obtain rfl : i = r := by omega
    exact lim_exit n i m ex hn hr hm
  | succ d ih =>
    intro i hi
    refine Ev.step (fun k => by rw [donatuslaw5_GramLimits.l1]) (ev_pos (by omega) ?_)
    have h := ih (i + 1) (by omega)
    rw [List.replicate_succ'] at h
    exact lim_l2 n r m i ex _ hm (by omega) (by rw [List.length_replicate]; omega) h m 0 (by omega)
theorem lim_l0 (n r m : Nat) (ex : Int) (hn : n ≤ 45) (hr : r ≤ 105) (hm : m ≤ 25) (d : Nat) : ∀ i : Nat, i + d = n → Ev (fun k => donatuslaw5_GramLimits.l0 k (n : Int) (r : Int) (m : Int) ex (i : Int) (toksL i) ⟨#[]⟩ ex) true := by
  induction d with
  | zero =>
    intro i hi
    obtain rfl : i = n := by omega
    refine Ev.step (fun k => by rw [donatuslaw5_GramLimits.l0]) (ev_neg (by omega) ?_)
    exact lim_l1 i r m ex hn hr hm r 0 (by omega)
  | succ d ih =>
    intro i hi
    refine Ev.step (fun k => by rw [donatuslaw5_GramLimits.l0]) (ev_pos (by omega) (ev_pos (by rw [toks_length]; omega) ?_))
    rw [wrap_one (by omega), tok_eq i (by omega), ← toks_succ]
    exact ih (i + 1) (by omega)
theorem lim_j0 (a0 a1 a2 a3 : Int) (b : Bool) (h : b = false → 0 ≤ a0 ∧ a0 ≤ 45 ∧ 0 ≤ a1 ∧ a1 ≤ 105 ∧ 0 ≤ a2 ∧ a2 ≤ 25) : Ev (fun k => donatuslaw5_GramLimits.j0 k a0 a1 a2 a3 b) true := by
  refine Ev.step (fun k => by rw [donatuslaw5_GramLimits.j0]) ?_
  cases b with
  | true => exact ev_pos rfl (Ev.now true)
  | false =>
    obtain ⟨h1, h2, h3, h4, h5, h6⟩ := h rfl
    refine ev_neg (by decide) ?_
    obtain ⟨n, rfl⟩ : ∃ n : Nat, a0 = (n : Int) := ⟨a0.toNat, by omega⟩
    obtain ⟨r, rfl⟩ : ∃ n : Nat, a1 = (n : Int) := ⟨a1.toNat, by omega⟩
    obtain ⟨m, rfl⟩ : ∃ n : Nat, a2 = (n : Int) := ⟨a2.toNat, by omega⟩
    exact lim_l0 n r m a3 (by omega) (by omega) (by omega) n 0 (by omega)
theorem limits_ev (a0 a1 a2 a3 : Int) : Ev (fun k => donatuslaw5_GramLimits.f k a0 a1 a2 a3) true := by
  unfold donatuslaw5_GramLimits.f
  refine Ev.bind begun5_ev (ev_pos rfl ?_)
  by_cases h1 : a0 < 0
  · exact ev_pos h1 (lim_j0 _ _ _ _ _ (fun h => by cases h))
  · refine ev_neg h1 ?_
    by_cases h2 : a0 > 45
    · exact ev_pos h2 (lim_j0 _ _ _ _ _ (fun h => by cases h))
    · refine ev_neg h2 ?_
      by_cases h3 : a1 < 0
      · exact ev_pos h3 (lim_j0 _ _ _ _ _ (fun h => by cases h))
      · refine ev_neg h3 ?_
        by_cases h4 : a1 > 105
        · exact ev_pos h4 (lim_j0 _ _ _ _ _ (fun h => by cases h))
        · refine ev_neg h4 ?_
          by_cases h5 : a2 < 0
          · exact ev_pos h5 (lim_j0 _ _ _ _ _ (fun h => by cases h))
          · exact ev_neg h5 (lim_j0 _ _ _ _ _ (fun h => by have := of_decide_eq_false h; omega))
theorem limits_walk (w : World) (ht : Tab w) (a0 : Int) (w0 : (Lit.int .i64 a0).wf = true) (a1 : Int) (w1 : (Lit.int .i64 a1).wf = true) (a2 : Int) (w2 : (Lit.int .i64 a2).wf = true) (a3 : Int) (w3 : (Lit.int .i64 a3).wf = true) :
    Calls Tryd.prog 6 #[.int .i64 a0, .int .i64 a1, .int .i64 a2, .int .i64 a3] w fun e w' => e = .returned (.bool true) ∧ Below w.heap.size w w' := by
  obtain ⟨k, hk⟩ := (limits_ev a0 a1 a2 a3).rounds
  exact donatuslaw5_GramLimits.calls k a0 a1 a2 a3 true w ht ⟨rfl⟩ hk
end Go.Proofs.YteonnadhdmcloaaDoor.G
