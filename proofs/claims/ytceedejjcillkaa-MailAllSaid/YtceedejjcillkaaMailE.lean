/- mail: First. -/
import Derived.Test.YtceedejjcillkaaMailD
import Derived.Deep.LoopGhost
namespace Go.Proofs.Ytceedejjcillkaa.M
open Go.Conc Go.RowKit Go.Proofs.YtceedejjcillkaaW.PrintWords
set_option linter.unusedVariables false
set_option linter.unusedSimpArgs false

/-- The boxes of a slice. -/
structure Bx where
  b : Nat
  c : Nat
  cap : Nat
  l : List Int
def Bx.at (x : Bx) (w : World) : Prop := Box x.b x.c x.cap (x.l.map (.int .i64 ·)) w
def FirstRel (bs : List Bx) (w : World) (kq : Nat) (v : Value) (w' : World) : Prop := ∃ i : Nat, i + kq = bs.length ∧ v = .int .i64 (i : Int) ∧ w' = w ∧ ∀ j (hj : j < bs.length), j < i → bs[j].l = []
set_option maxHeartbeats 1000000 in
theorem first_calls (ad : Addr) (kk : Nat) (bs : List Bx) (w : World) (hn : bs.length ≤ 1000) (hs : ad.spot = none)
    (hcell : ∀ i (hi : i < bs.length), w.cell? (ad.add i) = some (.pointer (some ⟨bs[i].b, 0, none⟩))) (hbox : ∀ i (hi : i < bs.length), bs[i].at w) :
    Calls Try.prog 11 #[.slice (some ad) bs.length kk] w fun e w' =>
      (∃ i, ∃ hi : i < bs.length, ∃ x l, (∀ j (hj : j < bs.length), j < i → bs[j].l = []) ∧ bs[i].l = x :: l ∧ e = .returned (.tuple #[.int .i64 x, .int .i64 (i : Int), .bool true]) ∧ Box bs[i].b bs[i].c bs[i].cap (l.map (.int .i64 ·)) w' ∧ Only bs[i].c w w') ∨
      ((∀ j (hj : j < bs.length), bs[j].l = []) ∧ e = .returned (.tuple #[.int .i64 0, .int .i64 (-1), .bool false]) ∧ w' = w) := by
  go_enter Try.func11, Try.ntmps11
  go_wp2
  go_loopg [12] bs.length (fun kq v12 w' => FirstRel bs w kq v12 w')
  case atStart => exact ⟨0, by omega, rfl, rfl, fun j hj h => absurd h (Nat.not_lt_zero j)⟩
  case round =>
    obtain ⟨i, hi, rfl, rfl, he⟩ := hrel
    by_cases hlt : i < bs.length
    · have hc := hcell i hlt
      have hb := hbox i hlt
      have hR := Aside0.mk he
      have HI := Aside0.mk hi
      have HC := Aside0.mk hcell
      have HB := Aside0.mk hbox
      have hlt2 : (i : Int) < (bs.length : Int) := by omega
      have h0 : (0 : Int) ≤ (i : Int) := by omega
      cases e : bs[i].l with
      | nil =>
        have hb2 : Box bs[i].b bs[i].c bs[i].cap [] wr := by unfold Bx.at at hb; rw [e] at hb; exact hb
        have HT := Aside0.mk (take_none_box _ _ _ wr hb2)
        clear he hi hcell hbox
        go_wp2_with (first
          | (go_at_call 10; with_reducible refine HT.out.mono ?_; rintro e w' ⟨rfl, rfl⟩))
        go_roundg (gk - 1)
        case measure => have := HI.out; omega
        case rel =>
          refine ⟨i + 1, by have := HI.out; omega, by go_num, rfl, fun j hj h => ?_⟩
          by_cases h2 : j < i
          · exact hR.out j hj h2
          · obtain rfl : j = i := by omega
            exact e
      | cons x l =>
        have hb2 : Box bs[i].b bs[i].c bs[i].cap (.int .i64 x :: l.map (.int .i64 ·)) wr := by unfold Bx.at at hb; rw [e] at hb; exact hb
        have HT := Aside0.mk (take_box _ _ _ x _ wr hb2)
        clear he hi hcell hbox
        go_wp2_with (first
          | (go_at_call 10; with_reducible refine HT.out.mono ?_; rintro e2 w' ⟨rfl, hB, hO⟩))
        go_ret3
        exact .inl ⟨i, hlt, x, l, hR.out, e, rfl, hB, hO⟩
    · have hd : decide ((i : Int) < (bs.length : Int)) = false := decide_eq_false (by omega)
      have HE := Aside0.mk he
      have HI := Aside0.mk hi
      have HN := Aside0.mk hlt
      clear he hi hcell hbox hd
      go_wp2
      go_ret3
      exact .inr ⟨fun j hj => HE.out j hj (by have := HN.out; omega), rfl, rfl⟩
end Go.Proofs.Ytceedejjcillkaa.M
