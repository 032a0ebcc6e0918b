/- The law donatuslaw2.CrcMany answers true: a text that comes in any pieces has one sum. No condition. -/
import Derived.Test.YtkooodnkgipaeaaCrcx4
import Derived.Test.YtkooodnkgipaeaaCrcLink
namespace Go.Proofs.Ytkooodnkgipaeaa.Pure
open Go.RowKit Go.Proofs.Ytkooodnkgipaeaa.Crc Go.Proofs.YtkooodnkgipaeaaW.PrintWords Go.Proofs.YtkooodnkgipaeaaW.PrintLast Go.Proofs.YtkooodnkgipaeaaW.PrintMore
open CrcMath

theorem take_bytes2 {l : List Int} (h : Bytes l) (n : Nat) : Bytes (l.take n) := fun x hx => h x (List.mem_of_mem_take hx)
theorem piece (l : List Int) (i j : Nat) (h : i ≤ j) : l.take i ++ (l.take j).drop i = l.take j := by
  have := List.take_append_drop i (l.take j)
  rw [List.take_take, Nat.min_eq_left h] at this
  exact this
theorem cut_of (z : Int) : 1 ≤ wrap64 (1 + Int.tmod (wrap64 (Int.tmod z 40 + 40)) 40) ∧ wrap64 (1 + Int.tmod (wrap64 (Int.tmod z 40 + 40)) 40) ≤ 40 := by
  have h1 := Int.tmod_lt_of_pos z (show (0 : Int) < 40 by decide)
  have h2 : -40 < Int.tmod z 40 := by
    have := Int.lt_tmod_of_pos z (show (0 : Int) < 40 by decide)
    exact this
  have e1 : wrap64 (Int.tmod z 40 + 40) = Int.tmod z 40 + 40 := by unfold wrap64; omega
  rw [e1]
  have h3 := Int.tmod_lt_of_pos (Int.tmod z 40 + 40) (show (0 : Int) < 40 by decide)
  have h4 := Int.tmod_nonneg 40 (show 0 ≤ Int.tmod z 40 + 40 by omega)
  have e2 : wrap64 (1 + Int.tmod (Int.tmod z 40 + 40) 40) = 1 + Int.tmod (Int.tmod z 40 + 40) 40 := by unfold wrap64; omega
  rw [e2]
  omega
theorem next (n at_ : Nat) (c : Int) (h : at_ < n) (hn : n ≤ 300) (h1 : 1 ≤ c) (h2 : c ≤ 40) : ∃ to_ : Nat, mn (n : Int) (wrap64 ((at_ : Int) + c)) = to_ ∧ at_ < to_ ∧ to_ ≤ n := by
  obtain ⟨d, rfl⟩ := Int.eq_ofNat_of_zero_le (show 0 ≤ c by omega)
  refine ⟨min n (at_ + d), ?_, by omega, by omega⟩
  rw [show wrap64 ((at_ : Int) + d) = ((at_ + d : Nat) : Int) from by unfold wrap64; omega]
  unfold mn
  split <;> omega
theorem loop (b cuts : List Int) (hb : Bytes b) (hn : b.length ≤ 300) (d : Nat) : ∀ at_ i : Nat, b.length - at_ ≤ d → at_ ≤ b.length → i ≤ at_ →
    Ev (fun k => donatuslaw2_CrcMany.l0 k b cuts (sum (b.take at_) : Int) (at_ : Int) (i : Int)) true := by
  induction d with
  | zero =>
    intro at_ i h h2 _
    refine Ev.step (fun k => by rw [donatuslaw2_CrcMany.l0]) (ev_neg (by omega) ?_)
    refine Ev.bind (sum_ev b hb (by omega)) (ev_now ?_)
    rw [List.take_of_length_le (by omega)]
    exact beq_iff_eq.2 rfl
  | succ d ih =>
    intro at_ i h h2 hi
    by_cases hlt : at_ < b.length
    · have hw : wrap64 ((i : Int) + 1) = ((i + 1 : Nat) : Int) := by unfold wrap64; omega
      have go : ∀ c : Int, 1 ≤ c → c ≤ 40 → Ev (fun k => if (at_ : Int) ≤ mn (b.length : Int) (wrap64 ((at_ : Int) + c)) then (if mn (b.length : Int) (wrap64 ((at_ : Int) + c)) ≤ (b.length : Int) then ((crc_More.f k (sum (b.take at_) : Int) ((b.take (mn (b.length : Int) (wrap64 ((at_ : Int) + c))).toNat).drop (at_ : Int).toNat)).bind fun t156 => (donatuslaw2_CrcMany.l0 k b cuts t156 (mn (b.length : Int) (wrap64 ((at_ : Int) + c))) (wrap64 ((i : Int) + 1)))) else none) else none) true := by
        intro c h1 h3
        obtain ⟨to_, he, h4, h5⟩ := next b.length at_ c hlt hn h1 h3
        rw [he, Int.toNat_natCast, Int.toNat_natCast, hw]
        refine ev_pos (by omega) (ev_pos (by omega) ?_)
        have hp : Bytes ((b.take to_).drop at_) := fun x hx => hb x (List.mem_of_mem_take (List.mem_of_mem_drop hx))
        have := more_sum (b.take at_) ((b.take to_).drop at_) (take_bytes2 hb _) hp (by simp; omega)
        rw [piece b at_ to_ (by omega)] at this
        exact Ev.bind this (ih to_ (i + 1) (by omega) h5 (by omega))
      refine Ev.step (fun k => by rw [donatuslaw2_CrcMany.l0]) (ev_pos (by omega) ?_)
      by_cases hx : (i : Int) < (cuts.length : Int)
      · have := cut_of (rd cuts (i : Int))
        exact ev_pos hx (ev_pos (by omega) (ev_pos (by omega) (go _ this.1 this.2)))
      · exact ev_neg hx (ev_pos (by omega) (go 1 (by omega) (by omega)))
    · refine Ev.step (fun k => by rw [donatuslaw2_CrcMany.l0]) (ev_neg (by omega) ?_)
      refine Ev.bind (sum_ev b hb (by omega)) (ev_now ?_)
      rw [List.take_of_length_le (by omega)]
      exact beq_iff_eq.2 rfl
theorem begin0 (b cuts : List Int) (hb : Bytes b) (hn : b.length ≤ 300) : Ev (fun k => donatuslaw2_CrcMany.j0 k b cuts) true := by
  refine Ev.step (fun k => by rw [donatuslaw2_CrcMany.j0]) (Ev.bind (sum_ev [] (fun x hx => by cases hx) (by simp)) ?_)
  exact loop b cuts hb hn b.length 0 0 (by omega) (by omega) (by omega)
theorem CrcMany : donatuslaw2_CrcMany.Pure := by
  intro a b _ _ ha _ _ _
  have ha := bytes_of ha
  have : Ev (fun k => donatuslaw2_CrcMany.f k a b) true := by
    unfold donatuslaw2_CrcMany.f
    refine Ev.bind (g := fun _ => donatuslaw2_begun.f) (Ev.now true) (ev_pos rfl ?_)
    by_cases h : (a.length : Int) > 300
    · exact ev_pos h (ev_pos (by omega) (begin0 _ _ (take_bytes2 ha 300) (by simp; omega)))
    · exact ev_neg h (begin0 _ _ ha (by omega))
  exact this.rounds

end Go.Proofs.Ytkooodnkgipaeaa.Pure
