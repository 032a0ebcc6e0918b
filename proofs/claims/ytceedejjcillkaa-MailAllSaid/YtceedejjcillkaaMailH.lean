/- mail: what no box does; donatuslaw28.MailNone answers true. -/
import Derived.Test.YtceedejjcillkaaMailG
namespace Go.Proofs.Ytceedejjcillkaa.M
open Go.Conc Go.RowKit Go.Proofs.YtceedejjcillkaaW.PrintWords
set_option linter.unusedVariables false
set_option linter.unusedSimpArgs false

theorem put_nil (x : Int) (w : World) : Calls Try.prog 9 #[.pointer none, .int .i64 x] w fun e w' => e = .returned (.bool false) ∧ w' = w := by
  go_enter Try.func9, Try.ntmps9
  go_wp2
  go_ret
  exact ⟨rfl, rfl⟩
theorem take_nil (w : World) : Calls Try.prog 10 #[.pointer none] w fun e w' => e = .returned (.tuple #[.int .i64 0, .bool false]) ∧ w' = w := by
  go_enter Try.func10, Try.ntmps10
  go_wp2
  go_ret2
  exact ⟨rfl, rfl⟩
theorem len_nil (w : World) : Calls Try.prog 12 #[.pointer none] w fun e w' => e = .returned (.int .i64 0) ∧ w' = w := by
  go_enter Try.func12, Try.ntmps12
  go_wp2
  go_ret
  exact ⟨rfl, rfl⟩
theorem either_nil (w : World) : Calls Try.prog 17 #[.pointer none, .pointer none] w fun e w' => e = .returned (.tuple #[.int .i64 0, .int .i64 0, .int .i64 0]) ∧ w' = w := by
  go_enter Try.func17, Try.ntmps17
  go_wp2_with (go_at_call 10; refine (take_nil _).mono ?_; rintro e w' ⟨rfl, rfl⟩)
  go_ret3
  exact ⟨rfl, rfl⟩
def NilRel (n : Nat) (w : World) (kq : Nat) (v : Value) (w' : World) : Prop := ∃ i : Nat, i + kq = n ∧ v = .int .i64 (i : Int) ∧ w' = w
theorem first_nil (ad : Addr) (n kk : Nat) (w : World) (hn : n ≤ 1000) (hs : ad.spot = none)
    (hcell : ∀ i, i < n → w.cell? (ad.add i) = some (.pointer none)) :
    Calls Try.prog 11 #[.slice (some ad) n kk] w fun e w' => e = .returned (.tuple #[.int .i64 0, .int .i64 (-1), .bool false]) ∧ w' = w := by
  go_enter Try.func11, Try.ntmps11
  go_wp2
  go_loopg [12] n (fun kq v12 w' => NilRel n w kq v12 w')
  case atStart => exact ⟨0, by omega, rfl, rfl⟩
  case round =>
    obtain ⟨i, hi, rfl, rfl⟩ := hrel
    have HI := Aside0.mk hi
    by_cases hlt : i < n
    · have hc := hcell i hlt
      have HC := Aside0.mk hcell
      have hlt2 : (i : Int) < (n : Int) := by omega
      have h0 : (0 : Int) ≤ (i : Int) := by omega
      clear hi hcell
      go_wp2_with (first
        | (go_at_call 10; with_reducible refine (take_nil _).mono ?_; rintro e w' ⟨rfl, rfl⟩))
      go_roundg (gk - 1)
      case measure => have := HI.out; omega
      case rel => exact ⟨i + 1, by have := HI.out; omega, by go_num, rfl⟩
    · have hd : decide ((i : Int) < (n : Int)) = false := decide_eq_false (by omega)
      clear hi hcell hd
      go_wp2
      go_ret3
      exact ⟨rfl, rfl⟩
theorem first_none (w : World) : Calls Try.prog 11 #[.slice none 0 0] w fun e w' => e = .returned (.tuple #[.int .i64 0, .int .i64 (-1), .bool false]) ∧ w' = w := by
  go_enter Try.func11, Try.ntmps11
  go_wp2
  go_loopg [12] 0 (fun kq v12 w' => NilRel 0 w kq v12 w')
  case atStart => exact ⟨0, by omega, rfl, rfl⟩
  case round =>
    obtain ⟨i, hi, rfl, rfl⟩ := hrel
    obtain rfl : i = 0 := by omega
    clear hi
    go_wp2
    go_ret3
    exact ⟨rfl, rfl⟩
set_option maxHeartbeats 2000000 in
set_option maxRecDepth 100000 in
theorem None_calls (w : World) : Calls Try.prog 5 #[] w fun e w' => e = .returned (.bool true) ∧ Below w.heap.size w w' := by
  go_enter Try.func5, Try.ntmps5
  go_wp2_with (first
    | (go_at_call 10; with_reducible refine (take_nil _).mono ?_; rintro e w' ⟨rfl, rfl⟩)
    | (go_at_call 17; with_reducible refine (either_nil _).mono ?_; rintro e w' ⟨rfl, rfl⟩))
  refine (first_nil ⟨_, 0, none⟩ 2 _ _ (by decide) rfl ?_).mono ?_
  · intro i hi
    rcases (show i = 0 ∨ i = 1 by omega) with rfl | rfl <;> simp [go_sem, Addr.add]
  rintro e w1 ⟨rfl, rfl⟩
  go_wp2_with fail
  go_at_call 11
  refine (first_none _).mono ?_
  rintro e w2 ⟨rfl, rfl⟩
  go_wp2_with fail
  go_at_call 7
  refine (begun_calls _).mono ?_
  rintro e w3 ⟨rfl, hb⟩
  have HB := Aside0.mk hb
  clear hb
  go_wp2_with (first
    | (go_at_call 9; with_reducible refine (put_nil _ _).mono ?_; rintro e w' ⟨rfl, rfl⟩)
    | (go_at_call 12; with_reducible refine (len_nil _).mono ?_; rintro e w' ⟨rfl, rfl⟩))
  go_ret
  exact ⟨rfl, ((Below.refl _ _).alloc (Nat.le_refl _) _).trans (HB.out.mono (by rw [size_alloc_one]; omega))⟩
end Go.Proofs.Ytceedejjcillkaa.M
