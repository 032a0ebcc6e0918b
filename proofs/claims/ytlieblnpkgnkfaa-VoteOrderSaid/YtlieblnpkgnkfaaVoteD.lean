/- The votes of package vote: what New, Won and Lost answer. Rows are shorter than 10^12. -/
import Derived.Test.YtlieblnpkgnkfaaVoteP
import Derived.Deep.QuietTactic
import Derived.BigQuiet
namespace Go.Proofs.Ytlieblnpkgnkfaa.V
open Go.RowKit Go.Proofs.YtlieblnpkgnkfaaW.PrintWords Go.Proofs.YtlieblnpkgnkfaaW.PrintLast Go.Proofs.YtlieblnpkgnkfaaW.PrintMore
section
variable (l yes no : List Int) (g : Nat) (F : Nat → Prop) (w : World) (id : Int)
theorem maj_calls (A : Option Addr) (c : Nat) (B : Option Addr) (d : Nat) (h1 : l.length ≤ 1000000000000) (h2 : yes.length ≤ 1000000000000) (hl : Kd.C (Kd.int .i64) w A l.length l) (hc : l.length ≤ c) (hy : Kd.C (Kd.int .i64) w B yes.length yes) (hd : yes.length ≤ d) :
    Calls Try.prog 19 #[.slice A l.length c, .slice B yes.length d] w fun e w' => e = .returned (.bool (majB l yes)) ∧ Drawn0 w w' := by
  obtain ⟨k, hk⟩ := (conf_maj l yes h1 h2).rounds
  exact conf_Majority.calls k A c l B d yes _ w hl hc hy hd hk
theorem Won_nil : Calls Try.prog 12 #[.pointer none] w fun e w' => e = .returned (.bool false) ∧ Drawn0 w w' := by
  go_enter Try.func12, Try.ntmps12
  go_wp2
  go_quiet (fail)
  go_wp2
  go_ret
  exact ⟨rfl, by repeat (first | exact Drawn0.refl _ | apply Drawn0.step)⟩
theorem Lost_nil : Calls Try.prog 14 #[.pointer none] w fun e w' => e = .returned (.bool false) ∧ Drawn0 w w' := by
  go_enter Try.func14, Try.ntmps14
  go_wp2
  go_quiet (fail)
  go_wp2
  go_ret
  exact ⟨rfl, by repeat (first | exact Drawn0.refl _ | apply Drawn0.step)⟩
theorem quiet_of {f : FuncId} {args : Array Value} {w : World} {n : Nat} {v : Value} (h : Calls Try.prog f args (w.drewN n) fun e w' => e = .returned v ∧ Drawn0 (w.drewN n) w') :
    Calls Try.prog f args (w.drewN n) fun e w'' => e = .returned v ∧ ∃ m, w'' = w.drewN m := Calls.quiet_of (h.mono fun _ _ k => ⟨k.1, k.2.out⟩)
set_option maxHeartbeats 1000000 in
theorem Won_calls (h : VSt w g F l yes no) (h1 : l.length ≤ 1000000000000) (h2 : yes.length ≤ 1000000000000) :
    Calls Try.prog 12 #[.pointer (some ⟨g, 0, none⟩)] w fun e w' => e = .returned (.bool (majB l yes)) ∧ Drawn0 w w' := by
  obtain ⟨vl, vy, vn, hb, -, -, hl, hy, hn, -, -, -⟩ := h
  obtain ⟨Al, cl, rfl, kl, rl⟩ := row_reads F w hl
  obtain ⟨Ay, cy, rfl, ky, ry⟩ := row_reads F w hy
  have HM := fun n => Aside0.mk (maj_calls l yes (w.drewN n) Al cl Ay cy h1 h2 (Kd.C_drewN rl n) kl (Kd.C_drewN ry n) ky)
  have z0 : w.cell? ⟨g, 0, none⟩ = some (.slice Al l.length cl) := blk_cell hb 0
  have z1 : w.cell? ⟨g, 1, none⟩ = some (.slice Ay yes.length cy) := blk_cell hb 1
  clear hb hl hy hn rl ry kl ky
  generalize majB l yes = b at *
  go_enter Try.func12, Try.ntmps12
  go_wp2
  go_quiet ((go_at_call 19; exact quiet_of (HM _).out))
  go_wp2
  go_ret
  exact ⟨rfl, by repeat (first | exact Drawn0.refl _ | apply Drawn0.step)⟩
set_option maxHeartbeats 1000000 in
theorem Lost_calls (h : VSt w g F l yes no) (h1 : l.length ≤ 1000000000000) (h3 : no.length ≤ 1000000000000) :
    Calls Try.prog 14 #[.pointer (some ⟨g, 0, none⟩)] w fun e w' => e = .returned (.bool (lostB l no)) ∧ Drawn0 w w' := by
  obtain ⟨vl, vy, vn, hb, -, -, hl, hy, hn, -, -, -⟩ := h
  obtain ⟨Al, cl, rfl, kl, rl⟩ := row_reads F w hl
  obtain ⟨An, cn, rfl, kn, rn⟩ := row_reads F w hn
  have z0 : w.cell? ⟨g, 0, none⟩ = some (.slice Al l.length cl) := blk_cell hb 0
  have z2 : w.cell? ⟨g, 2, none⟩ = some (.slice An no.length cn) := blk_cell hb 2
  clear hb hl hy hn rl rn kl kn
  unfold lostB
  generalize l.length = a at *
  generalize no.length = b at *
  by_cases h0 : 0 < a
  · have d0 : decide (0 < a) = true := decide_eq_true h0
    go_enter Try.func14, Try.ntmps14
    go_wp2
    go_quiet (fail)
    go_wp2
    go_ret
    exact ⟨by simp [h0], by repeat (first | exact Drawn0.refl _ | apply Drawn0.step)⟩
  · have d0 : decide (0 < a) = false := decide_eq_false h0
    go_enter Try.func14, Try.ntmps14
    go_wp2
    go_quiet (fail)
    go_wp2
    go_ret
    exact ⟨by simp [h0], by repeat (first | exact Drawn0.refl _ | apply Drawn0.step)⟩
theorem confmay_calls (A : Option Addr) (c : Nat) (h1 : l.length ≤ 1000000000000) (hl : Kd.C (Kd.int .i64) w A l.length l) (hc : l.length ≤ c) :
    Calls Try.prog 16 #[.slice A l.length c] w fun e w' => e = .returned (.bool (mayC l)) ∧ Drawn0 w w' := by
  obtain ⟨k, hk⟩ := (conf_may l h1).rounds
  exact conf_May.calls k A c l _ w hl hc hk
/-- A new block of votes, of a cloned row. -/
theorem VSt_new {w w1 : World} {v : Value} {l : List Int} (hv : Kd.R (Kd.int .i64) 3 w1 w.heap.size (fun _ => True) v l) (hb : Below w.heap.size w w1) :
    VSt (w1.alloc (.cells #[v, .slice none 0 0, .slice none 0 0] 39)) w1.heap.size (fun k => w.heap.size ≤ k ∧ k < w1.heap.size + 1) l [] [] ∧ Below w.heap.size w (w1.alloc (.cells #[v, .slice none 0 0, .slice none 0 0] 39)) := by
  have hs : (w1.alloc (.cells #[v, .slice none 0 0, .slice none 0 0] 39)).heap.size = w1.heap.size + 1 := by simp
  refine ⟨⟨v, _, _, heap_alloc_new w1 _, ⟨hb.size, Nat.lt_succ_self _⟩, fun k hk => by rw [hs]; exact hk.2, ?_, Kd.R_nil _ _ _ _ _, Kd.R_nil _ _ _ _ _, fun k _ e => by simp [Value.ownBlock] at e, fun k _ e => by simp [Value.ownBlock] at e, fun k _ e => by simp [Value.ownBlock] at e⟩, below_alloc hb _⟩
  have h2 := Kd.R_mono (Kd.R_bound hv) (ok' := fun k => w.heap.size ≤ k ∧ k < w1.heap.size + 1) (fun k hk => ⟨hk.2.1, Nat.lt_succ_of_lt hk.2.2.1⟩)
  exact Kd.R_lower (Kd.R_step h2 (fun k _ hk => Below.heap_alloc _ _ _ hk)) (Nat.zero_le _)
def made (l : List Int) : List Int := if mayC l = true then l else []
set_option maxHeartbeats 1000000 in
theorem New_calls (A : Option Addr) (c : Nat) (h1 : l.length ≤ 1000000000000) (hl : Kd.C (Kd.int .i64) w A l.length l) (hc : l.length ≤ c) :
    Calls Try.prog 7 #[.slice A l.length c] w fun e w' => ∃ (g : Nat) (F : Nat → Prop), e = .returned (.pointer (some ⟨g, 0, none⟩)) ∧ VSt w' g F (made l) [] [] ∧ Below w.heap.size w w' ∧ ∀ k, F k → w.heap.size ≤ k := by
  have HM := confmay_calls l w A c h1 hl hc
  have HK := fun n => Aside0.mk (clone_calls l A c (w.drewN n) (by omega) (Kd.C_drewN hl n) hc)
  have HZ := fun n => Aside0.mk (clone_calls [] none 0 (w.drewN n) (by decide) (Kd.C_nil _ _) (Nat.le_refl _))
  clear hl
  unfold made
  cases e : mayC l with
  | true =>
    rw [e] at HM
    rw [if_pos rfl]
    clear e
    go_enter Try.func7, Try.ntmps7
    go_wp2_with (first
      | (go_at_call 16; refine HM.mono ?_; rintro e w' ⟨rfl, ⟨nd, rfl⟩⟩)
      | (go_at_call 17; refine (HK _).out.mono ?_; rintro e w1 ⟨v, rfl, hv, hb⟩; have HV := Aside0.mk (VSt_new (w := w) (w1 := w1) hv ⟨hb.os, hb.tape, hb.output, hb.size, hb.block⟩); obtain ⟨Ao, no_, co, rfl⟩ : ∃ A n c, v = .slice A n c := (Kd.R_slice hv).imp fun _ h => ⟨_, h⟩; clear hv hb))
    go_ret
    exact ⟨_, _, rfl, HV.out.1, HV.out.2, fun k hk => hk.1⟩
  | false =>
    rw [e] at HM
    rw [if_neg (by decide)]
    clear e
    go_enter Try.func7, Try.ntmps7
    go_wp2_with (first
      | (go_at_call 16; refine HM.mono ?_; rintro e w' ⟨rfl, ⟨nd, rfl⟩⟩)
      | (go_at_call 17; refine (HZ _).out.mono ?_; rintro e w1 ⟨v, rfl, hv, hb⟩; have HV := Aside0.mk (VSt_new (w := w) (w1 := w1) hv ⟨hb.os, hb.tape, hb.output, hb.size, hb.block⟩); obtain ⟨Ao, no_, co, rfl⟩ : ∃ A n c, v = .slice A n c := (Kd.R_slice hv).imp fun _ h => ⟨_, h⟩; clear hv hb))
    go_ret
    exact ⟨_, _, rfl, HV.out.1, HV.out.2, fun k hk => hk.1⟩
end
end Go.Proofs.Ytlieblnpkgnkfaa.V
