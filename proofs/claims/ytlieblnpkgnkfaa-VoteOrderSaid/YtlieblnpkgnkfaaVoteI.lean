/- donatuslaw22.one, and two votes beside one another. -/
import Derived.Test.YtlieblnpkgnkfaaVoteH
namespace Go.Proofs.Ytlieblnpkgnkfaa.V
set_option linter.unusedVariables false
open Go.RowKit Go.Proofs.YtlieblnpkgnkfaaW.PrintWords Go.Proofs.YtlieblnpkgnkfaaW.PrintLast Go.Proofs.YtlieblnpkgnkfaaW.PrintMore

def AfterV (w : World) (g : Nat) (F : Nat → Prop) (l yes no : List Int) (v : Value) (e : Ending) (w' : World) : Prop :=
  e = .returned v ∧ ∃ F', VSt w' g F' l yes no ∧ Same F w w' ∧ ∀ k, F' k → F k ∨ w.heap.size ≤ k
/-- Two votes, all of it new since w0. -/
def Pair (w0 w : World) (ga gb : Nat) (L ya na yb nb : List Int) : Prop :=
  ∃ Fa Fb : Nat → Prop, VSt w ga Fa L ya na ∧ VSt w gb Fb L yb nb ∧ (∀ k, Fa k → ¬ Fb k) ∧ (∀ k, Fa k → w0.heap.size ≤ k) ∧ (∀ k, Fb k → w0.heap.size ≤ k) ∧ Below w0.heap.size w0 w
section
variable {w0 w w' : World} {ga gb : Nat} {L ya na yb nb ya' na' yb' nb' : List Int}
theorem VSt.lt {g : Nat} {F : Nat → Prop} {l yes no : List Int} (h : VSt w g F l yes no) : ∀ k, F k → k < w.heap.size := by obtain ⟨_, _, _, _, _, hF, _⟩ := h; exact hF
theorem Pair.below (h : Pair w0 w ga gb L ya na yb nb) (hb : Below w.heap.size w w') : Pair w0 w' ga gb L ya na yb nb := by
  obtain ⟨Fa, Fb, h1, h2, h3, h4, h5, h6⟩ := h
  exact ⟨Fa, Fb, h1.below hb, h2.below hb, h3, h4, h5, h6.trans (hb.mono h6.size)⟩
theorem Pair.drewN (h : Pair w0 w ga gb L ya na yb nb) (n : Nat) : Pair w0 (w.drewN n) ga gb L ya na yb nb := h.below (pw_below_drewN (Below.refl _ _) n)
theorem Pair.swap (h : Pair w0 w ga gb L ya na yb nb) : Pair w0 w gb ga L yb nb ya na := by
  obtain ⟨Fa, Fb, h1, h2, h3, h4, h5, h6⟩ := h
  exact ⟨Fb, Fa, h2, h1, fun k hb ha => h3 k ha hb, h5, h4, h6⟩
theorem Pair.first {f : FuncId} {args : Array Value} {v : Value} (h : Pair w0 w ga gb L ya na yb nb) (hc : ∀ F, VSt w ga F L ya na → Calls Try.prog f args w (AfterV w ga F L ya' na' v)) :
    Calls Try.prog f args w fun e w' => e = .returned v ∧ Pair w0 w' ga gb L ya' na' yb nb := by
  obtain ⟨Fa, Fb, h1, h2, h3, h4, h5, h6⟩ := h
  refine (hc Fa h1).mono ?_
  rintro e w' ⟨rfl, F', hv, hs, hf⟩
  refine ⟨rfl, F', Fb, hv, h2.same hs (fun k hb ha => h3 k ha hb), fun k hk hb => ?_, fun k hk => (hf k hk).elim (h4 k) (fun hle => Nat.le_trans h6.size hle), h5, h6.trans (hs.below h6.size h4)⟩
  rcases hf k hk with h | h
  · exact h3 k h hb
  · have := h2.lt k hb
    omega
theorem Pair.second {f : FuncId} {args : Array Value} {v : Value} (h : Pair w0 w ga gb L ya na yb nb) (hc : ∀ F, VSt w gb F L yb nb → Calls Try.prog f args w (AfterV w gb F L yb' nb' v)) :
    Calls Try.prog f args w fun e w' => e = .returned v ∧ Pair w0 w' ga gb L ya na yb' nb' := (h.swap.first hc).mono fun e w' k => ⟨k.1, k.2.swap⟩
end
/-- What the i-th of some is told. -/
def told (ys : List Bool) (i : Nat) : Bool := decide (i < ys.length) && ys.getD i false
section
variable {l yes no : List Int} {g : Nat} {F : Nat → Prop} {w : World}
set_option maxHeartbeats 1000000 in
theorem one_go {ys : List Bool} {A : Option Addr} {c : Nat} {i : Nat} (h : VSt w g F l yes no) (hs : Small l yes no) (hi : i ≤ 100) (hm : mayB l yes no ((i : Int) + 1) = true) (hr : Kd.C Kd.bool w A ys.length ys) (hc : ys.length ≤ c) (hl : ys.length ≤ 140737488351232) :
    Calls Try.prog 15 #[.pointer (some ⟨g, 0, none⟩), .int .i64 (i : Int), .slice A ys.length c] w (AfterV w g F l (if told ys i = true then yes ++ [(i : Int) + 1] else yes) (if told ys i = true then no else no ++ [(i : Int) + 1]) (.tuple #[])) := by
  have HY := fun n => Aside0.mk (Yes_go (h.below (pw_below_drewN (Below.refl _ _) n)) hs hm)
  have HN := fun n => Aside0.mk (No_go (h.below (pw_below_drewN (Below.refl _ _) n)) hs hm)
  clear hm h
  unfold told
  by_cases hlt : i < ys.length
  · have t1 : decide ((i : Int) < (ys.length : Int)) = true := by simp; exact hlt
    obtain ⟨ad, cs, e1, hsz, hK, hcell⟩ := Kd.C_get hr false (i : Int) (by omega) (by omega)
    obtain rfl : cs = [.bool (ys.getD (i : Int).toNat false)] := hK
    have x0 := hcell 0 _ rfl
    rw [Int.toNat_natCast] at x0
    simp only [Kd.bool, Kd.scalar, Nat.mul_one, Nat.add_zero] at x0
    subst e1
    clear hcell hsz
    rw [decide_eq_true hlt, Bool.true_and]
    generalize ys.getD i false = b at x0 ⊢
    cases b with
    | true =>
      go_enter Try.func15, Try.ntmps15
      go_wp2_with (first | (go_at_call 10; refine (HY 0).out.mono ?_; rintro e w1 ⟨rfl, F1, hv, hs1, hf⟩))
      exact bodyPost_end (results_none rfl _ _ _) rfl ⟨rfl, F1, hv, hs1, hf⟩
    | false =>
      go_enter Try.func15, Try.ntmps15
      go_wp2_with (first | (go_at_call 11; refine (HN 0).out.mono ?_; rintro e w1 ⟨rfl, F1, hv, hs1, hf⟩))
      exact bodyPost_end (results_none rfl _ _ _) rfl ⟨rfl, F1, hv, hs1, hf⟩
  · have t1 : decide ((i : Int) < (ys.length : Int)) = false := by simp; omega
    rw [decide_eq_false hlt, Bool.false_and]
    go_enter Try.func15, Try.ntmps15
    go_wp2_with (first | (go_at_call 11; refine (HN 0).out.mono ?_; rintro e w1 ⟨rfl, F1, hv, hs1, hf⟩))
    exact bodyPost_end (results_none rfl _ _ _) rfl ⟨rfl, F1, hv, hs1, hf⟩
end
end Go.Proofs.Ytlieblnpkgnkfaa.V
