/- mail: the statements' own begin: two boxes are put to and taken from, and all is as it should be. -/
import Derived.Test.YtceedejjcillkaaMailF
namespace Go.Proofs.Ytceedejjcillkaa.M
open Go.Conc Go.RowKit Go.Proofs.YtceedejjcillkaaW.PrintWords
set_option linter.unusedVariables false
set_option linter.unusedSimpArgs false

theorem Two.putA {w0 : World} {a ca na b cb nb : Nat} {l m : List Value} {w : World} (h : Two w0 a ca na b cb nb l m w) (x : Int) :
    Calls Try.prog 9 #[.pointer (some ⟨a, 0, none⟩), .int .i64 x] w fun e w' => e = .returned (.bool (decide (l.length < na))) ∧ Two w0 a ca na b cb nb (if l.length < na then l ++ [.int .i64 x] else l) m w' :=
  (put_box a ca na l x w h.a).mono fun _ _ ⟨he, hb, ho⟩ => ⟨he, h.onA hb ho⟩
theorem Two.takeA {w0 : World} {a ca na b cb nb : Nat} {x : Int} {l m : List Value} {w : World} (h : Two w0 a ca na b cb nb (.int .i64 x :: l) m w) :
    Calls Try.prog 10 #[.pointer (some ⟨a, 0, none⟩)] w fun e w' => e = .returned (.tuple #[.int .i64 x, .bool true]) ∧ Two w0 a ca na b cb nb l m w' :=
  (take_box a ca na x l w h.a).mono fun _ _ ⟨he, hb, ho⟩ => ⟨he, h.onA hb ho⟩
theorem Two.putS {w0 : World} {a ca na b cb nb : Nat} {l m : List Value} {w : World} (h : Two w0 a ca na b cb nb l m w) (x : ByteArray) :
    Calls Try.prog 14 #[.pointer (some ⟨b, 0, none⟩), .string x] w fun e w' => e = .returned (.bool (decide (m.length < nb))) ∧ Two w0 a ca na b cb nb l (if m.length < nb then m ++ [.string x] else m) w' :=
  (put_boxS b cb nb m x w h.b).mono fun _ _ ⟨he, hb, ho⟩ => ⟨he, h.onB hb ho⟩
theorem Two.e1 {w0 : World} {a ca na b cb nb : Nat} {x : Int} {l m : List Value} {w : World} (h : Two w0 a ca na b cb nb (.int .i64 x :: l) m w) :
    Calls Try.prog 15 #[.pointer (some ⟨a, 0, none⟩), .pointer (some ⟨b, 0, none⟩)] w fun e w' => e = .returned (.tuple #[.int .i64 x, .string ⟨#[]⟩, .int .i64 1]) ∧ Two w0 a ca na b cb nb l m w' :=
  (either_first a ca na x l _ w h.a).mono fun _ _ ⟨he, hb, ho⟩ => ⟨he, h.onA hb ho⟩
theorem Two.e2 {w0 : World} {a ca na b cb nb : Nat} {y : ByteArray} {m : List Value} {w : World} (h : Two w0 a ca na b cb nb [] (.string y :: m) w) :
    Calls Try.prog 15 #[.pointer (some ⟨a, 0, none⟩), .pointer (some ⟨b, 0, none⟩)] w fun e w' => e = .returned (.tuple #[.int .i64 0, .string y, .int .i64 2]) ∧ Two w0 a ca na b cb nb [] m w' :=
  (either_second a ca na b cb nb y m w h.a h.b).mono fun _ _ ⟨he, hb, ho⟩ => ⟨he, h.onB hb ho⟩
theorem Two.e0 {w0 : World} {a ca na b cb nb : Nat} {w : World} (h : Two w0 a ca na b cb nb [] [] w) :
    Calls Try.prog 15 #[.pointer (some ⟨a, 0, none⟩), .pointer (some ⟨b, 0, none⟩)] w fun e w' => e = .returned (.tuple #[.int .i64 0, .string ⟨#[]⟩, .int .i64 0]) ∧ Two w0 a ca na b cb nb [] [] w' :=
  (either_none a ca na b cb nb w h.a h.b).mono fun _ w' ⟨he, hw⟩ => ⟨he, by rw [hw]; exact h⟩
theorem Two.lenA {w0 : World} {a ca na b cb nb : Nat} {l m : List Value} {w : World} (h : Two w0 a ca na b cb nb l m w) :
    Calls Try.prog 12 #[.pointer (some ⟨a, 0, none⟩)] w fun e w' => e = .returned (.int .i64 (l.length : Int)) ∧ Two w0 a ca na b cb nb l m w' :=
  (len_box a ca na l w h.a).mono fun _ w' ⟨he, hw⟩ => ⟨he, by rw [hw]; exact h⟩
/-- First of one box in which nothing waits. -/
theorem Two.first0 {w0 : World} {a ca na b cb nb : Nat} {m : List Value} {w : World} (h : Two w0 a ca na b cb nb [] m w) (ad : Addr) (kk : Nat) (hs : ad.spot = none) (hc : w.cell? ad = some (.pointer (some ⟨a, 0, none⟩))) :
    Calls Try.prog 11 #[.slice (some ad) 1 kk] w fun e w' => e = .returned (.tuple #[.int .i64 0, .int .i64 (-1), .bool false]) ∧ Two w0 a ca na b cb nb [] m w' := by
  refine (first_calls ad kk [⟨a, ca, na, []⟩] w (by simp) hs ?_ ?_).mono ?_
  · intro i hi
    obtain rfl : i = 0 := by simpa using hi
    exact hc
  · intro i hi
    obtain rfl : i = 0 := by simpa using hi
    exact h.a
  · rintro e w' (⟨i, hi, x, l, _, h2, _⟩ | ⟨_, rfl, rfl⟩)
    · obtain rfl : i = 0 := by simpa using hi
      simp at h2
    · exact ⟨rfl, h⟩
theorem two_new (w : World) (na nb : Nat) (t u : TypeId) {w1 w2 : World} (h1 : w1 = (w.alloc (.chan na #[] false 0 0 false)).alloc (.cells #[.chan (some w.heap.size)] t (0, 0)))
    (h2 : w2 = (w1.alloc (.chan nb #[] false 0 0 false)).alloc (.cells #[.chan (some w1.heap.size)] u (0, 0))) : Two w (w.heap.size + 1) w.heap.size na (w1.heap.size + 1) w1.heap.size nb [] [] w2 := by
  have hs : w1.heap.size = w.heap.size + 2 := by rw [h1, size_alloc_one, size_alloc_one]
  refine ⟨?_, ?_, by omega, ?_, Nat.le_refl _, by omega⟩
  · rw [h2]
    refine Box.alloc (Box.alloc ?_ _) _
    rw [h1]
    exact new_box na t w
  · rw [h2]
    exact new_box nb u w1
  · have hb : Below w.heap.size w w1 := by
      rw [h1]
      have := (Below.refl w.heap.size w).alloc (Nat.le_refl _) (.chan na #[] false 0 0 false)
      exact this.alloc (by rw [size_alloc_one]; omega) _
    rw [h2]
    have := hb.alloc (by omega) (.chan nb #[] false 0 0 false)
    exact this.alloc (by rw [size_alloc_one]; omega) _
set_option maxHeartbeats 2000000 in
set_option maxRecDepth 100000 in
theorem begun_calls (w : World) : Calls Try.prog 7 #[] w fun e w' => e = .returned (.bool true) ∧ Below w.heap.size w w' := by
  go_enter Try.func7, Try.ntmps7
  go_wp2_with fail
  go_at_call 8
  refine (new_calls 2 _).mono ?_
  rintro e w1 ⟨rfl, h1⟩
  have H1 := Aside0.mk h1
  clear h1
  go_wp2_with fail
  go_at_call 13
  refine (new_callsS 1 _).mono ?_
  rintro e w2 ⟨rfl, h2⟩
  have HT := Aside0.mk (two_new w _ _ _ _ H1.out h2)
  clear h2 H1
  go_wp2_with fail
  go_at_call 9
  refine (HT.out.putA 5).mono ?_
  rintro e w3 ⟨he, h⟩
  obtain rfl : e = .returned (.bool true) := he
  clear HT
  have HT := Aside0.mk (show Two w (w.heap.size + 1) w.heap.size 2 (w1.heap.size + 1) w1.heap.size 1 [.int .i64 5] [] w3 from h)
  clear h
  go_wp2_with fail
  go_at_call 9
  refine (HT.out.putA 6).mono ?_
  rintro e w4 ⟨he, h⟩
  obtain rfl : e = .returned (.bool true) := he
  clear HT
  have HT := Aside0.mk (show Two w (w.heap.size + 1) w.heap.size 2 (w1.heap.size + 1) w1.heap.size 1 [.int .i64 5, .int .i64 6] [] w4 from h)
  clear h
  go_wp2_with fail
  go_at_call 9
  refine (HT.out.putA 7).mono ?_
  rintro e w5 ⟨he, h⟩
  obtain rfl : e = .returned (.bool false) := he
  clear HT
  have HT := Aside0.mk (show Two w (w.heap.size + 1) w.heap.size 2 (w1.heap.size + 1) w1.heap.size 1 [.int .i64 5, .int .i64 6] [] w5 from h)
  clear h
  go_wp2_with fail
  go_at_call 10
  refine (HT.out.takeA).mono ?_
  rintro e w6 ⟨he, h⟩
  obtain rfl : e = .returned (.tuple #[.int .i64 5, .bool true]) := he
  clear HT
  have HT := Aside0.mk (show Two w (w.heap.size + 1) w.heap.size 2 (w1.heap.size + 1) w1.heap.size 1 [.int .i64 6] [] w6 from h)
  clear h
  go_wp2_with fail
  go_at_call 14
  refine (HT.out.putS ⟨#[115]⟩).mono ?_
  rintro e w7 ⟨he, h⟩
  obtain rfl : e = .returned (.bool true) := he
  clear HT
  have HT := Aside0.mk (show Two w (w.heap.size + 1) w.heap.size 2 (w1.heap.size + 1) w1.heap.size 1 [.int .i64 6] [.string ⟨#[115]⟩] w7 from h)
  clear h
  go_wp2_with fail
  go_at_call 15
  refine (HT.out.e1).mono ?_
  rintro e w8 ⟨he, h⟩
  obtain rfl : e = .returned (.tuple #[.int .i64 6, .string ⟨#[]⟩, .int .i64 1]) := he
  clear HT
  have HT := Aside0.mk (show Two w (w.heap.size + 1) w.heap.size 2 (w1.heap.size + 1) w1.heap.size 1 [] [.string ⟨#[115]⟩] w8 from h)
  clear h
  go_wp2_with fail
  go_at_call 15
  refine (HT.out.e2).mono ?_
  rintro e w9 ⟨he, h⟩
  obtain rfl : e = .returned (.tuple #[.int .i64 0, .string ⟨#[115]⟩, .int .i64 2]) := he
  clear HT
  have HT := Aside0.mk (show Two w (w.heap.size + 1) w.heap.size 2 (w1.heap.size + 1) w1.heap.size 1 [] [] w9 from h)
  clear h
  go_wp2_with fail
  go_at_call 15
  refine (HT.out.e0).mono ?_
  rintro e w10 ⟨he, h⟩
  obtain rfl : e = .returned (.tuple #[.int .i64 0, .string ⟨#[]⟩, .int .i64 0]) := he
  clear HT
  have HT := Aside0.mk (show Two w (w.heap.size + 1) w.heap.size 2 (w1.heap.size + 1) w1.heap.size 1 [] [] w10 from h)
  clear h
  go_wp2_with fail
  refine ((HT.out.alloc _).first0 _ _ rfl ?_).mono ?_
  · simp [go_sem]
  rintro e w11 ⟨rfl, h⟩
  clear HT
  have HT := Aside0.mk h
  clear h
  go_wp2_with fail
  go_at_call 12
  refine HT.out.lenA.mono ?_
  rintro e w12 ⟨rfl, h⟩
  clear HT
  have HT := Aside0.mk h
  clear h
  go_wp2_with fail
  go_ret
  exact ⟨rfl, HT.out.below⟩
end Go.Proofs.Ytceedejjcillkaa.M
