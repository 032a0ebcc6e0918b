/- mail: donatuslaw28.MailFull answers true. -/
import Derived.Test.YtceedejjcillkaaMailH
namespace Go.Proofs.Ytceedejjcillkaa.M
open Go.Conc Go.RowKit Go.Proofs.YtceedejjcillkaaW.PrintWords
set_option linter.unusedVariables false
set_option linter.unusedSimpArgs false

/-- One box that came after w0. -/
structure One (w0 : World) (a ca na : Nat) (l : List Value) (w : World) : Prop where
  a : Box a ca na l w
  below : Below w0.heap.size w0 w
  la : w0.heap.size ≤ ca
theorem one_new {w0 w1 w2 : World} {na : Nat} {t : TypeId} (hb : Below w0.heap.size w0 w1) (h2 : w2 = (w1.alloc (.chan na #[] false 0 0 false)).alloc (.cells #[.chan (some w1.heap.size)] t (0, 0))) : One w0 (w1.heap.size + 1) w1.heap.size na [] w2 := by
  have hz := hb.size
  refine ⟨by rw [h2]; exact new_box na t w1, ?_, hz⟩
  rw [h2]
  have := hb.alloc hz (.chan na #[] false 0 0 false)
  exact this.alloc (by rw [size_alloc_one]; omega) _
theorem One.put {w0 : World} {a ca na : Nat} {l : List Value} {w : World} (h : One w0 a ca na l w) (x : Int) (hl : l.length < na) :
    Calls Try.prog 9 #[.pointer (some ⟨a, 0, none⟩), .int .i64 x] w fun e w' => e = .returned (.bool true) ∧ One w0 a ca na (l ++ [.int .i64 x]) w' :=
  (put_box a ca na l x w h.a).mono fun _ _ ⟨he, hb, ho⟩ => ⟨by rw [he, decide_eq_true hl], by rw [if_pos hl] at hb; exact hb, ho.2.2.2 _ _ h.la h.below, h.la⟩
theorem One.putFull {w0 : World} {a ca na : Nat} {l : List Value} {w : World} (h : One w0 a ca na l w) (x : Int) (hl : l.length = na) :
    Calls Try.prog 9 #[.pointer (some ⟨a, 0, none⟩), .int .i64 x] w fun e w' => e = .returned (.bool false) ∧ One w0 a ca na l w' :=
  (put_box a ca na l x w h.a).mono fun _ _ ⟨he, hb, ho⟩ => ⟨by rw [he, decide_eq_false (by omega)], by rw [if_neg (by omega)] at hb; exact hb, ho.2.2.2 _ _ h.la h.below, h.la⟩
theorem One.take {w0 : World} {a ca na : Nat} {x : Int} {l : List Value} {w : World} (h : One w0 a ca na (.int .i64 x :: l) w) :
    Calls Try.prog 10 #[.pointer (some ⟨a, 0, none⟩)] w fun e w' => e = .returned (.tuple #[.int .i64 x, .bool true]) ∧ One w0 a ca na l w' :=
  (take_box a ca na x l w h.a).mono fun _ _ ⟨he, hb, ho⟩ => ⟨he, hb, ho.2.2.2 _ _ h.la h.below, h.la⟩
theorem One.len {w0 : World} {a ca na : Nat} {l : List Value} {w : World} {n : Int} (h : One w0 a ca na l w) (hn : (l.length : Int) = n) :
    Calls Try.prog 12 #[.pointer (some ⟨a, 0, none⟩)] w fun e w' => e = .returned (.int .i64 n) ∧ One w0 a ca na l w' :=
  (len_box a ca na l w h.a).mono fun _ w' ⟨he, hw⟩ => ⟨by rw [he, hn], by rw [hw]; exact h⟩
def sq (i n : Nat) : List Value := (List.range n).map fun k => .int .i64 ((i + k : Nat) : Int)
theorem sq_len (i n : Nat) : (sq i n).length = n := by simp [sq]
theorem sq_push (i n : Nat) : sq i n ++ [.int .i64 ((i + n : Nat) : Int)] = sq i (n + 1) := by simp [sq, List.range_succ]
theorem sq_cons (i n : Nat) : sq i (n + 1) = .int .i64 (i : Int) :: sq (i + 1) n := by
  unfold sq
  rw [List.range_succ_eq_map, List.map_cons, List.map_map]
  simp only [Nat.add_zero, List.cons.injEq, true_and]
  refine List.map_congr_left fun k _ => ?_
  simp only [Function.comp]
  rw [show i + k.succ = i + 1 + k by omega]
def FullRel (w : World) (a ca r : Nat) (kq : Nat) (v : Value) (w' : World) : Prop := ∃ i : Nat, i + kq = r ∧ v = .int .i64 (i : Int) ∧ One w a ca r (sq 0 i) w'
def FullRel2 (w : World) (a ca r : Nat) (kq : Nat) (v : Value) (w' : World) : Prop := ∃ i : Nat, i + kq = 100 ∧ v = .int .i64 (i : Int) ∧ One w a ca r (sq i r) w'
set_option maxHeartbeats 2000000 in
set_option maxRecDepth 100000 in
theorem Full_calls (w : World) (n : Int) (ok0 : (Lit.int .i64 n).wf = true) (more : Int) (ok1 : (Lit.int .i64 more).wf = true) : Calls Try.prog 6 #[.int .i64 n, .int .i64 more] w fun e w' => e = .returned (.bool true) ∧ Below w.heap.size w w' := by
  have hr0 : (max 1 (min n 64)).toNat = (max 1 (min n 64)).toNat := rfl
  obtain ⟨q, hq⟩ : ∃ q : Int, (if 64 < n then 64 else n) = q := ⟨_, rfl⟩
  obtain ⟨r, hr, hr1, hr2, hr3⟩ : ∃ r : Nat, (if 1 < q then q else 1) = (r : Int) ∧ (max 1 (min n 64)).toNat = r ∧ 1 ≤ r ∧ r ≤ 64 := by
    refine ⟨(max 1 (min n 64)).toNat, ?_, rfl, ?_, ?_⟩
    · rw [← hq]; split <;> split <;> omega
    · omega
    · omega
  clear hr0
  have HR1 := Aside0.mk hr1
  clear hr1
  clear ok0 ok1
  go_enter Try.func6, Try.ntmps6
  go_wp2_with fail
  go_at_call 7
  refine (begun_calls _).mono ?_
  rintro e w1 ⟨rfl, hb⟩
  have HB := Aside0.mk hb
  clear hb
  go_wp2_with fail
  go_at_call 8
  refine (new_calls n _).mono ?_
  rintro e w2 ⟨rfl, h2⟩
  rw [HR1.out] at h2
  have HT := Aside0.mk (one_new HB.out h2)
  clear h2 HB HR1
  generalize w1.heap.size + 1 = A at *
  generalize w1.heap.size = C at *
  go_wp2_with fail
  clear hq hr
  go_loopg [8] r (fun kq v8 w' => FullRel w A C r kq v8 w')
  case atStart => exact ⟨0, by omega, rfl, HT.out⟩
  case round =>
    obtain ⟨i, hi, rfl, h⟩ := hrel
    clear HT
    have HI := Aside0.mk hi
    have HT := Aside0.mk h
    clear hi h
    by_cases hlt : i < r
    · have t1 : decide ((i : Int) < (r : Int)) = true := by simp; omega
      go_wp2_with fail
      go_at_call 9
      refine (HT.out.put (i : Int) (by rw [sq_len]; exact hlt)).mono ?_
      rintro e w3 ⟨rfl, h⟩
      have hs := sq_push 0 i
      rw [Nat.zero_add] at hs
      rw [hs] at h
      clear HT hs
      have HT := Aside0.mk h
      clear h
      go_wp2_with fail
      go_at_call 12
      refine (HT.out.len (n := (i : Int) + 1) (by rw [sq_len]; omega)).mono ?_
      rintro e w4 ⟨rfl, h⟩
      clear HT
      have HT := Aside0.mk h
      clear h
      go_wp2_with fail
      go_roundg (gk - 1)
      case measure => have := HI.out; omega
      case rel => exact ⟨i + 1, by have := HI.out; omega, by go_num, HT.out⟩
    · have t1 : decide ((i : Int) < (r : Int)) = false := by simp; omega
      obtain rfl : i = r := by have := HI.out; omega
      clear HI
      go_wp2_with fail
      go_loopg [9] 100 (fun kq v9 w' => FullRel2 w A C i kq v9 w')
      case atStart => exact ⟨0, by omega, rfl, HT.out⟩
      case round =>
        obtain ⟨j, hj, rfl, h⟩ := hrel
        clear HT
        have HJ := Aside0.mk hj
        have HT := Aside0.mk h
        clear hj h
        by_cases hjm : (j : Int) < more
        · have t2 : decide ((j : Int) < more) = true := decide_eq_true hjm
          by_cases hjh : j < 100
          · have t3 : decide ((j : Int) < 100) = true := by simp; omega
            obtain ⟨m, rfl⟩ : ∃ m, i = m + 1 := ⟨i - 1, by omega⟩
            go_wp2_with fail
            go_at_call 9
            refine (HT.out.putFull (-1) (sq_len _ _)).mono ?_
            rintro e w3 ⟨rfl, h⟩
            rw [sq_cons] at h
            clear HT
            have HT := Aside0.mk h
            clear h
            go_wp2_with fail
            go_at_call 10
            refine HT.out.take.mono ?_
            rintro e w4 ⟨rfl, h⟩
            clear HT
            have HT := Aside0.mk h
            clear h
            go_wp2_with fail
            go_at_call 9
            refine (HT.out.put _ (by rw [sq_len]; omega)).mono ?_
            rintro e w5 ⟨rfl, h⟩
            have hs := sq_push (j + 1) m
            rw [show ((j + 1 + m : Nat) : Int) = (m : Int) + 1 + (j : Int) by omega] at hs
            clear HT
            rw [hs] at h
            clear hs
            have HT := Aside0.mk h
            clear h
            go_wp2_with fail
            go_at_call 12
            refine (HT.out.len (n := ((m + 1 : Nat) : Int)) (by rw [sq_len])).mono ?_
            rintro e w6 ⟨rfl, h⟩
            clear HT
            have HT := Aside0.mk h
            clear h
            go_wp2_with fail
            go_roundg (gk - 1)
            case measure => have := HJ.out; omega
            case rel => exact ⟨j + 1, by have := HJ.out; omega, by go_num, HT.out⟩
          · have t3 : decide ((j : Int) < 100) = false := by simp; omega
            go_wp2_with fail
            go_ret
            exact ⟨rfl, HT.out.below⟩
        · have t2 : decide ((j : Int) < more) = false := decide_eq_false hjm
          go_wp2_with fail
          go_ret
          exact ⟨rfl, HT.out.below⟩
end Go.Proofs.Ytceedejjcillkaa.M
