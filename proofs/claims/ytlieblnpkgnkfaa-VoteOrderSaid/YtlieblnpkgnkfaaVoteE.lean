/- The votes of package vote in one form for all callers; donatuslaw22.begun and VoteNone answer true. No condition. -/
import Derived.Test.YtlieblnpkgnkfaaVoteD
namespace Go.Proofs.Ytlieblnpkgnkfaa.V
set_option linter.unusedVariables false
open Go.RowKit Go.Proofs.YtlieblnpkgnkfaaW.PrintWords Go.Proofs.YtlieblnpkgnkfaaW.PrintLast Go.Proofs.YtlieblnpkgnkfaaW.PrintMore

/-- Behind a call of a method: what it answered, the votes as they now are, what has turned. -/
def After (w : World) (g : Nat) (F : Nat → Prop) (l yes no : List Int) (b : Bool) (e : Ending) (w' : World) : Prop :=
  e = .returned (.bool b) ∧ ∃ F', VSt w' g F' l yes no ∧ Same F w w' ∧ ∀ k, F' k → F k ∨ w.heap.size ≤ k
theorem After.of_drawn {w : World} {g : Nat} {F : Nat → Prop} {l yes no : List Int} {b : Bool} (h : VSt w g F l yes no) {e : Ending} {w' : World} (k : e = .returned (.bool b) ∧ Drawn0 w w') : After w g F l yes no b e w' :=
  ⟨k.1, F, h.below (Drawn0.below0 k.2), Same.of_below (Drawn0.below0 k.2), fun _ hk => .inl hk⟩
def Small (l yes no : List Int) : Prop := l.length ≤ 1000000000000 ∧ yes.length ≤ 1000000000000 ∧ no.length ≤ 1000000000000
section
variable {l yes no : List Int} {g : Nat} {F : Nat → Prop} {w : World} {id : Int}
theorem Yes_go {b : Bool} (h : VSt w g F l yes no) (hs : Small l yes no) (hm : mayB l yes no id = b) : Calls Try.prog 10 #[.pointer (some ⟨g, 0, none⟩), .int .i64 id] w (After w g F l (if b = true then yes ++ [id] else yes) no b) := by
  cases b with
  | true => exact (Yes_calls l yes no g F w id h hs.1 hs.2.1 hs.2.2 hm).mono fun e w' k => k
  | false => exact (Yes_not l yes no g F w id h hs.1 hs.2.1 hs.2.2 hm).mono fun e w' k => After.of_drawn h k
theorem No_go {b : Bool} (h : VSt w g F l yes no) (hs : Small l yes no) (hm : mayB l yes no id = b) : Calls Try.prog 11 #[.pointer (some ⟨g, 0, none⟩), .int .i64 id] w (After w g F l yes (if b = true then no ++ [id] else no) b) := by
  cases b with
  | true => exact (No_calls l yes no g F w id h hs.1 hs.2.1 hs.2.2 hm).mono fun e w' k => k
  | false => exact (No_not l yes no g F w id h hs.1 hs.2.1 hs.2.2 hm).mono fun e w' k => After.of_drawn h k
theorem Won_go (h : VSt w g F l yes no) (hs : Small l yes no) : Calls Try.prog 12 #[.pointer (some ⟨g, 0, none⟩)] w (After w g F l yes no (majB l yes)) :=
  (Won_calls l yes no g F w h hs.1 hs.2.1).mono fun e w' k => After.of_drawn h k
theorem Lost_go (h : VSt w g F l yes no) (hs : Small l yes no) : Calls Try.prog 14 #[.pointer (some ⟨g, 0, none⟩)] w (After w g F l yes no (lostB l no)) :=
  (Lost_calls l yes no g F w h hs.1 hs.2.2).mono fun e w' k => After.of_drawn h k
/-- Votes that a call has made, alone: all that has turned is new. -/
def VObj (w0 w : World) (g : Nat) (l yes no : List Int) : Prop := ∃ F, VSt w g F l yes no ∧ (∀ k, F k → w0.heap.size ≤ k) ∧ Below w0.heap.size w0 w
theorem VObj.after {w0 : World} {l' yes' no' : List Int} {b : Bool} {P : Program} {f : FuncId} {args : Array Value} (h : ∀ F, VSt w g F l yes no → Calls P f args w (After w g F l' yes' no' b)) (ho : VObj w0 w g l yes no) :
    Calls P f args w fun e w' => e = .returned (.bool b) ∧ VObj w0 w' g l' yes' no' := by
  obtain ⟨F, hv, hf, hb⟩ := ho
  refine (h F hv).mono ?_
  rintro e w' ⟨rfl, F', hv', hs, hf'⟩
  exact ⟨rfl, F', hv', fun k hk => (hf' k hk).elim (hf k) (fun h => Nat.le_trans hb.size h), hb.trans (hs.below hb.size hf)⟩
theorem VObj.drewN {w0 : World} (h : VObj w0 w g l yes no) (n : Nat) : VObj w0 (w.drewN n) g l yes no := by
  obtain ⟨F, hv, hf, hb⟩ := h
  exact ⟨F, hv.below (pw_below_drewN (Below.refl _ _) n), hf, pw_below_drewN hb n⟩
theorem VObj.alloc {w0 : World} (h : VObj w0 w g l yes no) (o : Go.Obj) : VObj w0 (w.alloc o) g l yes no := by
  obtain ⟨F, hv, hf, hb⟩ := h
  exact ⟨F, hv.below (below_alloc (Below.refl _ _) o), hf, below_alloc hb o⟩
theorem New_obj {w0 : World} (l : List Int) (A : Option Addr) (c : Nat) (h1 : l.length ≤ 1000000000000) (hb : Below w0.heap.size w0 w) (hl : Kd.C (Kd.int .i64) w A l.length l) (hc : l.length ≤ c) :
    Calls Try.prog 7 #[.slice A l.length c] w fun e w' => ∃ g : Nat, e = .returned (.pointer (some ⟨g, 0, none⟩)) ∧ VObj w0 w' g (made l) [] [] := by
  refine (New_calls l w A c h1 hl hc).mono ?_
  rintro e w' ⟨g, F, rfl, hv, hb2, hf⟩
  exact ⟨g, rfl, F, hv, fun k hk => Nat.le_trans hb.size (hf k hk), hb.trans (hb2.mono hb.size)⟩
end
theorem lit123 (w : World) : Kd.C (Kd.int .i64) (w.alloc (.cells #[.int .i64 1, .int .i64 2, .int .i64 3] 3)) (some ⟨w.heap.size, 0, none⟩) ([1, 2, 3] : List Int).length [1, 2, 3] := by
  refine ⟨rfl, by decide, fun _ => ⟨_, rfl, fun j p hj => ⟨[.int .i64 p], rfl, rfl, fun i u hu => ?_⟩⟩⟩
  have hjl := (List.getElem?_eq_some_iff.1 hj).1
  match i, hu with
  | 0, hu =>
    obtain rfl := Option.some.inj hu
    simp only [List.length_cons, List.length_nil] at hjl
    have : j = 0 ∨ j = 1 ∨ j = 2 := by omega
    rcases this with rfl | rfl | rfl <;>
      (obtain rfl := Option.some.inj hj; simp [Kd.int, Kd.scalar, Addr.add])
set_option maxHeartbeats 2000000 in
theorem begun_calls (w : World) : Calls Try.prog 6 #[] w fun e w' => e = .returned (.bool true) ∧ Below w.heap.size w w' := by
  have s0 : ∀ {y n : List Int}, y.length ≤ 10 → n.length ≤ 10 → Small [1, 2, 3] y n := fun hy hn => ⟨by decide, by omega, by omega⟩
  have HN := Aside0.mk (New_obj (w0 := w) (w := w.alloc (.cells #[.int .i64 1, .int .i64 2, .int .i64 3] 3)) [1, 2, 3] (some ⟨w.heap.size, 0, none⟩) 3 (by decide) (below_alloc (Below.refl _ _) _) (lit123 w) (by decide))
  go_enter Try.func6, Try.ntmps6
  go_wp2_with fail
  go_at_call 7
  refine HN.out.mono ?_
  rintro e w1 ⟨g, rfl, hv⟩
  clear HN
  rw [show made [1, 2, 3] = [1, 2, 3] from by decide] at hv
  have HV := Aside0.mk hv
  clear hv
  go_wp2_with fail
  go_at_call 10
  refine (VObj.after (fun F h => Yes_go (b := true) h (s0 (by decide) (by decide)) (by decide)) HV.out).mono ?_
  rintro e w1 ⟨rfl, hv⟩
  clear HV
  have HV : Aside0 (VObj w w1 g [1, 2, 3] [1] []) := Aside0.mk hv
  clear hv
  go_wp2_with fail
  go_at_call 10
  refine (VObj.after (fun F h => Yes_go (b := false) h (s0 (by decide) (by decide)) (by decide)) HV.out).mono ?_
  rintro e w1 ⟨rfl, hv⟩
  clear HV
  have HV : Aside0 (VObj w w1 g [1, 2, 3] [1] []) := Aside0.mk hv
  clear hv
  go_wp2_with fail
  go_at_call 12
  refine (VObj.after (fun F h => Won_go h (s0 (by decide) (by decide))) HV.out).mono ?_
  rintro e w1 ⟨rfl, hv⟩
  clear HV
  have HV : Aside0 (VObj w w1 g [1, 2, 3] [1] []) := Aside0.mk hv
  clear hv
  rw [show majB [1, 2, 3] [1] = false from by decide]
  go_wp2_with fail
  go_at_call 11
  refine (VObj.after (fun F h => No_go (b := true) h (s0 (by decide) (by decide)) (by decide)) HV.out).mono ?_
  rintro e w1 ⟨rfl, hv⟩
  clear HV
  have HV : Aside0 (VObj w w1 g [1, 2, 3] [1] [2]) := Aside0.mk hv
  clear hv
  go_wp2_with fail
  go_at_call 14
  refine (VObj.after (fun F h => Lost_go h (s0 (by decide) (by decide))) HV.out).mono ?_
  rintro e w1 ⟨rfl, hv⟩
  clear HV
  have HV : Aside0 (VObj w w1 g [1, 2, 3] [1] [2]) := Aside0.mk hv
  clear hv
  rw [show lostB [1, 2, 3] [2] = false from by decide]
  go_wp2_with fail
  go_at_call 10
  refine (VObj.after (fun F h => Yes_go (b := true) h (s0 (by decide) (by decide)) (by decide)) HV.out).mono ?_
  rintro e w1 ⟨rfl, hv⟩
  clear HV
  have HV : Aside0 (VObj w w1 g [1, 2, 3] [1, 3] [2]) := Aside0.mk hv
  clear hv
  go_wp2_with fail
  go_at_call 12
  refine (VObj.after (fun F h => Won_go h (s0 (by decide) (by decide))) HV.out).mono ?_
  rintro e w1 ⟨rfl, hv⟩
  clear HV
  have HV : Aside0 (VObj w w1 g [1, 2, 3] [1, 3] [2]) := Aside0.mk hv
  clear hv
  rw [show majB [1, 2, 3] [1, 3] = true from by decide]
  go_wp2_with fail
  go_at_call 10
  refine (VObj.after (fun F h => Yes_go (b := false) h (s0 (by decide) (by decide)) (by decide)) HV.out).mono ?_
  rintro e w1 ⟨rfl, hv⟩
  clear HV
  have HV : Aside0 (VObj w w1 g [1, 2, 3] [1, 3] [2]) := Aside0.mk hv
  clear hv
  go_wp2_with fail
  go_ret
  obtain ⟨F, -, -, hb⟩ := HV.out
  exact ⟨rfl, hb⟩
set_option maxHeartbeats 2000000 in
theorem None_calls (w : World) : Calls Try.prog 4 #[] w fun e w' => e = .returned (.bool true) ∧ Below w.heap.size w w' := by
  have s0 : ∀ {y n : List Int}, y.length ≤ 10 → n.length ≤ 10 → Small [] y n := fun hy hn => ⟨by decide, by omega, by omega⟩
  have HN := Aside0.mk (New_obj (w0 := w) (w := w) [] none 0 (by decide) (Below.refl _ _) (Kd.C_nil _ _) (by decide))
  go_enter Try.func4, Try.ntmps4
  go_wp2_with fail
  go_at_call 7
  refine HN.out.mono ?_
  rintro e w1 ⟨g, rfl, hv⟩
  clear HN
  rw [show made [] = [] from by decide] at hv
  have HV := Aside0.mk hv
  clear hv
  go_wp2_with fail
  go_at_call 6
  refine (begun_calls _).mono ?_
  rintro e w2 ⟨rfl, hb⟩
  have hv : VObj w w2 g [] [] [] := by
    obtain ⟨F, hv, hf, hb0⟩ := HV.out
    exact ⟨F, hv.below hb, hf, hb0.trans (hb.mono hb0.size)⟩
  clear HV hb
  have HV := Aside0.mk hv
  clear hv
  go_wp2_with (first
    | (go_at_call 10; (with_reducible refine (Yes_nil _ 1).mono ?_); rintro e w' ⟨rfl, ⟨nd, rfl⟩⟩)
    | (go_at_call 11; (with_reducible refine (No_nil _ 1).mono ?_); rintro e w' ⟨rfl, ⟨nd, rfl⟩⟩)
    | (go_at_call 12; (with_reducible refine (Won_nil _).mono ?_); rintro e w' ⟨rfl, ⟨nd, rfl⟩⟩)
    | (go_at_call 14; (with_reducible refine (Lost_nil _).mono ?_); rintro e w' ⟨rfl, ⟨nd, rfl⟩⟩))
  refine (VObj.after (fun F h => Yes_go (b := false) h (s0 (by decide) (by decide)) (by decide)) (VObj.drewN HV.out _)).mono ?_
  rintro e w1 ⟨rfl, hv⟩
  clear HV
  have HV : Aside0 (VObj w w1 g [] [] []) := Aside0.mk hv
  clear hv
  go_wp2_with fail
  go_at_call 12
  refine (VObj.after (fun F h => Won_go h (s0 (by decide) (by decide))) HV.out).mono ?_
  rintro e w1 ⟨rfl, hv⟩
  clear HV
  have HV : Aside0 (VObj w w1 g [] [] []) := Aside0.mk hv
  clear hv
  rw [show majB [] [] = false from by decide]
  go_wp2_with fail
  go_at_call 14
  refine (VObj.after (fun F h => Lost_go h (s0 (by decide) (by decide))) HV.out).mono ?_
  rintro e w1 ⟨rfl, hv⟩
  clear HV
  have HV : Aside0 (VObj w w1 g [] [] []) := Aside0.mk hv
  clear hv
  rw [show lostB [] [] = false from by decide]
  go_wp2_with fail
  go_ret
  obtain ⟨F, -, -, hb⟩ := HV.out
  exact ⟨rfl, hb⟩
end Go.Proofs.Ytlieblnpkgnkfaa.V
