/- mail: Either. -/
import Derived.Test.YtceedejjcillkaaMailC
import Derived.OwnWalk
import Derived.Test.YtceedejjcillkaaWWords
namespace Go.Proofs.Ytceedejjcillkaa.M
open Go.Conc Go.RowKit Go.Proofs.YtceedejjcillkaaW.PrintWords
set_option linter.unusedVariables false
set_option linter.unusedSimpArgs false

theorem either_first (b c cap : Nat) (x : Int) (l : List Value) (p : Value) (w : World) (h : Box b c cap (.int .i64 x :: l) w) :
    Calls Try.prog 15 #[.pointer (some ⟨b, 0, none⟩), p] w fun e w' => e = .returned (.tuple #[.int .i64 x, .string ⟨#[]⟩, .int .i64 1]) ∧ Box b c cap l w' ∧ Only c w w' := by
  have H := take_box b c cap x l w h
  go_enter Try.func15, Try.ntmps15
  go_wp2_with (first
    | (go_at_call 10; refine H.mono ?_; rintro e w' ⟨rfl, hb, ho⟩))
  go_ret3
  exact ⟨rfl, hb, ho⟩
theorem either_second (b c cap b2 c2 cap2 : Nat) (y : ByteArray) (l : List Value) (w : World) (h : Box b c cap [] w) (h2 : Box b2 c2 cap2 (.string y :: l) w) :
    Calls Try.prog 15 #[.pointer (some ⟨b, 0, none⟩), .pointer (some ⟨b2, 0, none⟩)] w fun e w' => e = .returned (.tuple #[.int .i64 0, .string y, .int .i64 2]) ∧ Box b2 c2 cap2 l w' ∧ Only c2 w w' := by
  have H := Aside0.mk (take_none_box b c cap w h)
  have H2 := Aside0.mk (take_boxS b2 c2 cap2 y l w h2)
  go_enter Try.func15, Try.ntmps15
  go_wp2_with (first
    | (go_at_call 10; with_reducible refine H.out.mono ?_; rintro e w' ⟨rfl, rfl⟩)
    | (go_at_call 18; with_reducible refine H2.out.mono ?_; rintro e w' ⟨rfl, hb, ho⟩))
  go_ret3
  exact ⟨rfl, hb, ho⟩
theorem either_none (b c cap b2 c2 cap2 : Nat) (w : World) (h : Box b c cap [] w) (h2 : Box b2 c2 cap2 [] w) :
    Calls Try.prog 15 #[.pointer (some ⟨b, 0, none⟩), .pointer (some ⟨b2, 0, none⟩)] w fun e w' => e = .returned (.tuple #[.int .i64 0, .string ⟨#[]⟩, .int .i64 0]) ∧ w' = w := by
  have H := Aside0.mk (take_none_box b c cap w h)
  have H2 := Aside0.mk (take_none_boxS b2 c2 cap2 w h2)
  go_enter Try.func15, Try.ntmps15
  go_wp2_with (first
    | (go_at_call 10; with_reducible refine H.out.mono ?_; rintro e w' ⟨rfl, rfl⟩)
    | (go_at_call 18; with_reducible refine H2.out.mono ?_; rintro e w' ⟨rfl, rfl⟩))
  go_ret3
  exact ⟨rfl, rfl⟩

theorem either_firstI (b c cap : Nat) (x : Int) (l : List Value) (p : Value) (w : World) (h : Box b c cap (.int .i64 x :: l) w) :
    Calls Try.prog 17 #[.pointer (some ⟨b, 0, none⟩), p] w fun e w' => e = .returned (.tuple #[.int .i64 x, .int .i64 0, .int .i64 1]) ∧ Box b c cap l w' ∧ Only c w w' := by
  have H := take_box b c cap x l w h
  go_enter Try.func17, Try.ntmps17
  go_wp2_with (first
    | (go_at_call 10; refine H.mono ?_; rintro e w' ⟨rfl, hb, ho⟩))
  go_ret3
  exact ⟨rfl, hb, ho⟩
theorem either_secondI (b c cap b2 c2 cap2 : Nat) (y : Int) (l : List Value) (w : World) (h : Box b c cap [] w) (h2 : Box b2 c2 cap2 (.int .i64 y :: l) w) :
    Calls Try.prog 17 #[.pointer (some ⟨b, 0, none⟩), .pointer (some ⟨b2, 0, none⟩)] w fun e w' => e = .returned (.tuple #[.int .i64 0, .int .i64 y, .int .i64 2]) ∧ Box b2 c2 cap2 l w' ∧ Only c2 w w' := by
  have H := Aside0.mk (take_none_box b c cap w h)
  have H2 := Aside0.mk (take_box b2 c2 cap2 y l w h2)
  go_enter Try.func17, Try.ntmps17
  go_wp2_with (first
    | (go_at_call 10; with_reducible refine H.out.mono ?_; rintro e w' ⟨rfl, rfl⟩)
    | (go_at_call 10; with_reducible refine H2.out.mono ?_; rintro e w' ⟨rfl, hb, ho⟩))
  go_ret3
  exact ⟨rfl, hb, ho⟩
theorem either_noneI (b c cap b2 c2 cap2 : Nat) (w : World) (h : Box b c cap [] w) (h2 : Box b2 c2 cap2 [] w) :
    Calls Try.prog 17 #[.pointer (some ⟨b, 0, none⟩), .pointer (some ⟨b2, 0, none⟩)] w fun e w' => e = .returned (.tuple #[.int .i64 0, .int .i64 0, .int .i64 0]) ∧ w' = w := by
  have H := Aside0.mk (take_none_box b c cap w h)
  have H2 := Aside0.mk (take_none_box b2 c2 cap2 w h2)
  go_enter Try.func17, Try.ntmps17
  go_wp2_with (first
    | (go_at_call 10; with_reducible refine H.out.mono ?_; rintro e w' ⟨rfl, rfl⟩)
    | (go_at_call 10; with_reducible refine H2.out.mono ?_; rintro e w' ⟨rfl, rfl⟩))
  go_ret3
  exact ⟨rfl, rfl⟩
end Go.Proofs.Ytceedejjcillkaa.M
