/- mail: donatuslaw28.MailEither answers true. -/
import Derived.Test.YtceedejjcillkaaMailI
import Derived.Test.YtceedejjcillkaaWLast
import Derived.Test.YtceedejjcillkaaWMore
namespace Go.Proofs.Ytceedejjcillkaa.M
open Go.Conc Go.RowKit Go.Proofs.YtceedejjcillkaaW.PrintWords Go.Proofs.YtceedejjcillkaaW.PrintLast Go.Proofs.YtceedejjcillkaaW.PrintMore
set_option linter.unusedVariables false
set_option linter.unusedSimpArgs false

theorem two_new2 {w0 w w1 w2 : World} {na nb : Nat} {t u : TypeId} (hb : Below w0.heap.size w0 w) (h1 : w1 = (w.alloc (.chan na #[] false 0 0 false)).alloc (.cells #[.chan (some w.heap.size)] t (0, 0)))
    (h2 : w2 = (w1.alloc (.chan nb #[] false 0 0 false)).alloc (.cells #[.chan (some w1.heap.size)] u (0, 0))) : Two w0 (w.heap.size + 1) w.heap.size na (w1.heap.size + 1) w1.heap.size nb [] [] w2 := by
  have h := two_new w na nb t u h1 h2
  have hz := hb.size
  exact ⟨h.a, h.b, h.ne, hb.trans (h.below.mono hz), Nat.le_trans hz h.la, Nat.le_trans hz h.lb⟩
theorem Two.put {w0 : World} {a ca na b cb nb : Nat} {l m : List Value} {w : World} (h : Two w0 a ca na b cb nb l m w) (x : Int) (hl : l.length < na) :
    Calls Try.prog 9 #[.pointer (some ⟨a, 0, none⟩), .int .i64 x] w fun e w' => e = .returned (.bool true) ∧ Two w0 a ca na b cb nb (l ++ [.int .i64 x]) m w' :=
  (h.putA x).mono fun _ _ ⟨he, h⟩ => ⟨by rw [he, decide_eq_true hl], by rw [if_pos hl] at h; exact h⟩
theorem Two.putS1 {w0 : World} {a ca na b cb nb : Nat} {l m : List Value} {w : World} (h : Two w0 a ca na b cb nb l m w) (x : ByteArray) (hl : m.length < nb) :
    Calls Try.prog 14 #[.pointer (some ⟨b, 0, none⟩), .string x] w fun e w' => e = .returned (.bool true) ∧ Two w0 a ca na b cb nb l (m ++ [.string x]) w' :=
  (h.putS x).mono fun _ _ ⟨he, h⟩ => ⟨by rw [he, decide_eq_true hl], by rw [if_pos hl] at h; exact h⟩
theorem Two.lenB {w0 : World} {a ca na b cb nb : Nat} {l m : List Value} {w : World} (h : Two w0 a ca na b cb nb l m w) :
    Calls Try.prog 16 #[.pointer (some ⟨b, 0, none⟩)] w fun e w' => e = .returned (.int .i64 (m.length : Int)) ∧ Two w0 a ca na b cb nb l m w' :=
  (len_boxS b cb nb m w h.b).mono fun _ w' ⟨he, hw⟩ => ⟨he, by rw [hw]; exact h⟩
def ss (m : Nat) : List Value := List.replicate m (.string ⟨#[115]⟩)
def is (l : List Int) : List Value := l.map (.int .i64 ·)
theorem ss_len (m : Nat) : (ss m).length = m := List.length_replicate ..
theorem is_len (l : List Int) : (is l).length = l.length := List.length_map ..
theorem ss_push (m : Nat) : ss m ++ [.string ⟨#[115]⟩] = ss (m + 1) := (List.replicate_succ' ..).symm
theorem ss_cons (m : Nat) : ss (m + 1) = .string ⟨#[115]⟩ :: ss m := rfl
theorem is_push (l : List Int) (x : Int) : is l ++ [.int .i64 x] = is (l ++ [x]) := by simp [is]
/-- Numbers from 0 up to i. -/
def In (i : Nat) (l : List Int) : Prop := (∀ x ∈ l, 0 ≤ x ∧ x < (i : Int)) ∧ l.length ≤ i
theorem In.push {i : Nat} {l : List Int} (h : In i l) : ∃ y r, l ++ [(i : Int)] = y :: r ∧ 0 ≤ y ∧ y ≤ (i : Int) ∧ r.length = l.length ∧ In (i + 1) r := by
  cases l with
  | nil => exact ⟨_, _, rfl, by omega, by omega, rfl, (fun x hx => by cases hx), by simp⟩
  | cons x l =>
    have h1 := h.1 x (by simp)
    have h2 := h.2
    simp only [List.length_cons] at h2
    refine ⟨x, l ++ [(i : Int)], rfl, h1.1, by omega, by simp, (fun y hy => ?_), by simp; omega⟩
    rcases List.mem_append.1 hy with hy | hy
    · have := h.1 y (by simp [hy])
      omega
    · simp at hy
      omega
theorem In.tail {i : Nat} {x : Int} {l : List Int} (h : In i (x :: l)) : 0 ≤ x ∧ x ≤ (i : Int) ∧ In (i + 1) l := by
  have h1 := h.1 x (by simp)
  have h2 := h.2
  simp only [List.length_cons] at h2
  exact ⟨h1.1, by omega, fun y hy => by have := h.1 y (by simp [hy]); omega, by omega⟩
theorem In.nil (i : Nat) : In i [] := ⟨(fun x hx => by cases hx), by simp⟩
def EitherRel (w : World) (a ca b cb : Nat) (kq : Nat) (v8 v9 v10 : Value) (w' : World) : Prop :=
  ∃ (i : Nat) (l : List Int) (m : Nat), i + kq = 60 ∧ v8 = .int .i64 (l.length : Int) ∧ v9 = .int .i64 (m : Int) ∧ v10 = .int .i64 (i : Int) ∧ In i l ∧ m ≤ i ∧ Two w a ca 64 b cb 64 (is l) (ss m) w'
set_option maxHeartbeats 4000000 in
set_option maxRecDepth 100000 in
theorem Either_calls (w : World) (A0 : Option Addr) (c0 : Nat) (xs : List Bool) (hr0 : Kd.C Kd.bool w A0 xs.length xs) (le0 : xs.length ≤ c0) (ok0 : xs.length ≤ maxLen ∧ xs.length * 1 ≤ 140737488351232 ∧ ∀ x ∈ xs, True)
    (A1 : Option Addr) (c1 : Nat) (ys : List Bool) (hr1 : Kd.C Kd.bool w A1 ys.length ys) (le1 : ys.length ≤ c1) (ok1 : ys.length ≤ maxLen ∧ ys.length * 1 ≤ 140737488351232 ∧ ∀ x ∈ ys, True) :
    Calls Try.prog 4 #[.slice A0 xs.length c0, .slice A1 ys.length c1] w fun e w' => e = .returned (.bool true) ∧ Below w.heap.size w w' := by
  have hlx : xs.length ≤ 140737488351232 := by have := ok0.2.1; omega
  have hly : ys.length ≤ 140737488351232 := by have := ok1.2.1; omega
  clear ok0 ok1
  have HR0 := Aside0.mk hr0
  have HR1 := Aside0.mk hr1
  clear hr0 hr1
  go_enter Try.func4, Try.ntmps4
  go_wp2_with fail
  go_at_call 7
  refine (begun_calls _).mono ?_
  rintro e w1 ⟨rfl, hb⟩
  have HB := Aside0.mk hb
  clear hb
  go_wp2_with fail
  go_at_call 8
  refine (new_calls 64 _).mono ?_
  rintro e w2 ⟨rfl, h1⟩
  have H1 := Aside0.mk h1
  clear h1
  go_wp2_with fail
  go_at_call 13
  refine (new_callsS 64 _).mono ?_
  rintro e w3 ⟨rfl, h2⟩
  have HT := Aside0.mk (show Two w (w1.heap.size + 1) w1.heap.size 64 (w2.heap.size + 1) w2.heap.size 64 (is []) (ss 0) w3 from two_new2 HB.out H1.out h2)
  clear h2 H1 HB
  generalize w1.heap.size + 1 = A at *
  generalize w1.heap.size = C at *
  generalize w2.heap.size + 1 = B at *
  generalize w2.heap.size = D at *
  go_wp2_with fail
  go_loopg [8, 9, 10] 60 (fun kq v8 v9 v10 w' => EitherRel w A C B D kq v8 v9 v10 w')
  case atStart => exact ⟨0, [], 0, by omega, rfl, rfl, rfl, In.nil 0, by omega, HT.out⟩
  case round =>
    obtain ⟨i, l, m, hi, rfl, rfl, rfl, hin, hm, h⟩ := hrel
    clear HT
    have HI := Aside0.mk hi
    have HT := Aside0.mk h
    have HN := Aside0.mk hin
    have hll := hin.2
    clear hi h hin
    by_cases hx : i < xs.length
    · have t1 : decide ((i : Int) < (xs.length : Int)) = true := by simp; omega
      by_cases h60 : i < 60
      · have t2 : decide ((i : Int) < 60) = true := by simp; omega
        obtain ⟨ad, cs, e1, hsz, hK, hcell⟩ := Kd.C_get (Kd.C_below HR0.out HT.out.below) false (i : Int) (by omega) (by omega)
        obtain rfl : cs = [.bool (xs.getD (i : Int).toNat false)] := hK
        have x0 := hcell 0 _ rfl
        rw [Int.toNat_natCast] at x0
        simp only [Kd.bool, Kd.scalar, Nat.mul_one, Nat.add_zero] at x0
        subst e1
        clear hcell hsz
        generalize xs.getD i false = bx at x0
        cases bx with
        | true =>
          go_wp2_with fail
          go_at_call 9
          refine (HT.out.put (i : Int) (by rw [is_len]; omega)).mono ?_
          rintro e w4 ⟨rfl, h⟩
          rw [is_push] at h
          obtain ⟨y, r, hyr, hy0, hy1, hrl, hri⟩ := HN.out.push
          rw [hyr] at h
          have HY := Aside0.mk hyr
          have HRL := Aside0.mk hrl
          have HRI := Aside0.mk hri
          clear hyr hrl hri
          clear HT
          have HT := Aside0.mk h
          clear h
          have ty : decide (y < 0) = false := decide_eq_false (by omega)
          have ty2 : decide (y > (i : Int)) = false := decide_eq_false (by omega)
          have tn : decide ((l.length : Int) + 1 > 0) = true := decide_eq_true (by omega)
          by_cases hyl : i < ys.length
          · have t3 : decide ((i : Int) < (ys.length : Int)) = true := by simp; omega
            cases hby : ys.getD i false with
            | true =>
              obtain ⟨ad2, cs, e1, hsz, hK, hcell⟩ := Kd.C_get (Kd.C_below HR1.out HT.out.below) false (i : Int) (by omega) (by omega)
              obtain rfl : cs = [.bool (ys.getD (i : Int).toNat false)] := hK
              have x1 := hcell 0 _ rfl
              rw [Int.toNat_natCast] at x1
              simp only [Kd.bool, Kd.scalar, Nat.mul_one, Nat.add_zero] at x1
              subst e1
              clear hcell hsz
              rw [hby] at x1
              clear hby
              go_wp2_with fail
              go_at_call 14
              refine (HT.out.putS1 ⟨#[115]⟩ (by rw [ss_len]; omega)).mono ?_
              rintro e w5 ⟨rfl, h⟩
              rw [ss_push] at h
              clear HT
              have HT := Aside0.mk h
              clear h
              go_wp2_with fail
              go_at_call 15
              refine HT.out.e1.mono ?_
              rintro e w6 ⟨rfl, h⟩
              clear HT
              have HT := Aside0.mk h
              clear h
              go_wp2_with fail
              go_roundg (gk - 1)
              case measure => have := HI.out; omega
              case rel => exact ⟨i + 1, r, m + 1, by have := HI.out; omega, by first | rfl | go_num | (have := HRL.out; go_num), by first | rfl | go_num, by go_num, HRI.out, by omega, HT.out⟩
            | false =>
              obtain ⟨ad2, cs, e1, hsz, hK, hcell⟩ := Kd.C_get (Kd.C_below HR1.out HT.out.below) false (i : Int) (by omega) (by omega)
              obtain rfl : cs = [.bool (ys.getD (i : Int).toNat false)] := hK
              have x1 := hcell 0 _ rfl
              rw [Int.toNat_natCast] at x1
              simp only [Kd.bool, Kd.scalar, Nat.mul_one, Nat.add_zero] at x1
              subst e1
              clear hcell hsz
              rw [hby] at x1
              clear hby
              go_wp2_with fail
              go_at_call 15
              refine HT.out.e1.mono ?_
              rintro e w6 ⟨rfl, h⟩
              clear HT
              have HT := Aside0.mk h
              clear h
              go_wp2_with fail
              go_roundg (gk - 1)
              case measure => have := HI.out; omega
              case rel => exact ⟨i + 1, r, m, by have := HI.out; omega, by first | rfl | go_num | (have := HRL.out; go_num), by first | rfl | go_num, by go_num, HRI.out, by omega, HT.out⟩
          · have t3 : decide ((i : Int) < (ys.length : Int)) = false := by simp; omega
            go_wp2_with fail
            go_at_call 15
            refine HT.out.e1.mono ?_
            rintro e w6 ⟨rfl, h⟩
            clear HT
            have HT := Aside0.mk h
            clear h
            go_wp2_with fail
            go_roundg (gk - 1)
            case measure => have := HI.out; omega
            case rel => exact ⟨i + 1, r, m, by have := HI.out; omega, by first | rfl | go_num | (have := HRL.out; go_num), by first | rfl | go_num, by go_num, HRI.out, by omega, HT.out⟩
        | false =>
          cases l with
          | cons y r =>
            obtain ⟨hy0, hy1, hri⟩ := HN.out.tail
            have HRI := Aside0.mk hri
            clear hri
            simp only [List.length_cons] at hll
            have hlc : ((y :: r).length : Int) = (r.length : Int) + 1 := by simp
            rw [hlc]
            clear hlc
            have ty : decide (y < 0) = false := decide_eq_false (by omega)
            have ty2 : decide (y > (i : Int)) = false := decide_eq_false (by omega)
            have tn : decide ((r.length : Int) + 1 > 0) = true := decide_eq_true (by omega)
            by_cases hyl : i < ys.length
            · have t3 : decide ((i : Int) < (ys.length : Int)) = true := by simp; omega
              cases hby : ys.getD i false with
              | true =>
                obtain ⟨ad2, cs, e1, hsz, hK, hcell⟩ := Kd.C_get (Kd.C_below HR1.out HT.out.below) false (i : Int) (by omega) (by omega)
                obtain rfl : cs = [.bool (ys.getD (i : Int).toNat false)] := hK
                have x1 := hcell 0 _ rfl
                rw [Int.toNat_natCast] at x1
                simp only [Kd.bool, Kd.scalar, Nat.mul_one, Nat.add_zero] at x1
                subst e1
                clear hcell hsz
                rw [hby] at x1
                clear hby
                go_wp2_with fail
                go_at_call 14
                refine (HT.out.putS1 ⟨#[115]⟩ (by rw [ss_len]; omega)).mono ?_
                rintro e w5 ⟨rfl, h⟩
                rw [ss_push] at h
                clear HT
                have HT := Aside0.mk h
                clear h
                go_wp2_with fail
                go_at_call 15
                refine HT.out.e1.mono ?_
                rintro e w6 ⟨rfl, h⟩
                clear HT
                have HT := Aside0.mk h
                clear h
                go_wp2_with fail
                go_roundg (gk - 1)
                case measure => have := HI.out; omega
                case rel => exact ⟨i + 1, r, m + 1, by have := HI.out; omega, by first | rfl | go_num | (have := HRL.out; go_num), by first | rfl | go_num, by go_num, HRI.out, by omega, HT.out⟩
              | false =>
                obtain ⟨ad2, cs, e1, hsz, hK, hcell⟩ := Kd.C_get (Kd.C_below HR1.out HT.out.below) false (i : Int) (by omega) (by omega)
                obtain rfl : cs = [.bool (ys.getD (i : Int).toNat false)] := hK
                have x1 := hcell 0 _ rfl
                rw [Int.toNat_natCast] at x1
                simp only [Kd.bool, Kd.scalar, Nat.mul_one, Nat.add_zero] at x1
                subst e1
                clear hcell hsz
                rw [hby] at x1
                clear hby
                go_wp2_with fail
                go_at_call 15
                refine HT.out.e1.mono ?_
                rintro e w6 ⟨rfl, h⟩
                clear HT
                have HT := Aside0.mk h
                clear h
                go_wp2_with fail
                go_roundg (gk - 1)
                case measure => have := HI.out; omega
                case rel => exact ⟨i + 1, r, m, by have := HI.out; omega, by first | rfl | go_num | (have := HRL.out; go_num), by first | rfl | go_num, by go_num, HRI.out, by omega, HT.out⟩
            · have t3 : decide ((i : Int) < (ys.length : Int)) = false := by simp; omega
              go_wp2_with fail
              go_at_call 15
              refine HT.out.e1.mono ?_
              rintro e w6 ⟨rfl, h⟩
              clear HT
              have HT := Aside0.mk h
              clear h
              go_wp2_with fail
              go_roundg (gk - 1)
              case measure => have := HI.out; omega
              case rel => exact ⟨i + 1, r, m, by have := HI.out; omega, by first | rfl | go_num | (have := HRL.out; go_num), by first | rfl | go_num, by go_num, HRI.out, by omega, HT.out⟩
          | nil =>
            have hl0 : (([] : List Int).length : Int) = 0 := rfl
            rw [hl0]
            clear hl0
            by_cases hyl : i < ys.length
            · have t3 : decide ((i : Int) < (ys.length : Int)) = true := by simp; omega
              cases hby : ys.getD i false with
              | true =>
                obtain ⟨ad2, cs, e1, hsz, hK, hcell⟩ := Kd.C_get (Kd.C_below HR1.out HT.out.below) false (i : Int) (by omega) (by omega)
                obtain rfl : cs = [.bool (ys.getD (i : Int).toNat false)] := hK
                have x1 := hcell 0 _ rfl
                rw [Int.toNat_natCast] at x1
                simp only [Kd.bool, Kd.scalar, Nat.mul_one, Nat.add_zero] at x1
                subst e1
                clear hcell hsz
                rw [hby] at x1
                clear hby
                go_wp2_with fail
                go_at_call 14
                refine (HT.out.putS1 ⟨#[115]⟩ (by rw [ss_len]; omega)).mono ?_
                rintro e w5 ⟨rfl, h⟩
                rw [ss_push] at h
                clear HT
                have HT := Aside0.mk h
                clear h
                go_wp2_with fail
                go_at_call 15
                have h := HT.out
                rw [ss_cons] at h
                refine h.e2.mono ?_
                clear h
                rintro e w6 ⟨rfl, h⟩
                clear HT
                have HT := Aside0.mk h
                clear h
                have tm : decide ((m : Int) + 1 > 0) = true := decide_eq_true (by omega)
                go_wp2_with fail
                go_roundg (gk - 1)
                case measure => have := HI.out; omega
                case rel => exact ⟨i + 1, [], m, by have := HI.out; omega, by first | rfl | go_num | (have := HRL.out; go_num), by first | rfl | go_num, by go_num, In.nil _, by omega, HT.out⟩
              | false =>
                obtain ⟨ad2, cs, e1, hsz, hK, hcell⟩ := Kd.C_get (Kd.C_below HR1.out HT.out.below) false (i : Int) (by omega) (by omega)
                obtain rfl : cs = [.bool (ys.getD (i : Int).toNat false)] := hK
                have x1 := hcell 0 _ rfl
                rw [Int.toNat_natCast] at x1
                simp only [Kd.bool, Kd.scalar, Nat.mul_one, Nat.add_zero] at x1
                subst e1
                clear hcell hsz
                rw [hby] at x1
                clear hby
                cases m with
                | zero =>
                  go_wp2_with fail
                  go_at_call 15
                  refine (Two.e0 HT.out).mono ?_
                  rintro e w6 ⟨rfl, h⟩
                  clear HT
                  have HT := Aside0.mk h
                  clear h
                  have tm : decide (((0 : Nat) : Int) > 0) = false := rfl
                  go_wp2_with fail
                  go_roundg (gk - 1)
                  case measure => have := HI.out; omega
                  case rel => exact ⟨i + 1, [], 0, by have := HI.out; omega, by first | rfl | go_num | (have := HRL.out; go_num), by first | rfl | go_num, by go_num, In.nil _, by omega, HT.out⟩
                | succ m =>
                  go_wp2_with fail
                  go_at_call 15
                  have h := HT.out
                  rw [ss_cons] at h
                  refine h.e2.mono ?_
                  clear h
                  rintro e w6 ⟨rfl, h⟩
                  clear HT
                  have HT := Aside0.mk h
                  clear h
                  have tm : decide (((m + 1 : Nat) : Int) > 0) = true := decide_eq_true (by omega)
                  go_wp2_with fail
                  go_roundg (gk - 1)
                  case measure => have := HI.out; omega
                  case rel => exact ⟨i + 1, [], m, by have := HI.out; omega, by first | rfl | go_num | (have := HRL.out; go_num), by first | rfl | go_num, by go_num, In.nil _, by omega, HT.out⟩
            · have t3 : decide ((i : Int) < (ys.length : Int)) = false := by simp; omega
              cases m with
              | zero =>
                go_wp2_with fail
                go_at_call 15
                refine (Two.e0 HT.out).mono ?_
                rintro e w6 ⟨rfl, h⟩
                clear HT
                have HT := Aside0.mk h
                clear h
                have tm : decide (((0 : Nat) : Int) > 0) = false := rfl
                go_wp2_with fail
                go_roundg (gk - 1)
                case measure => have := HI.out; omega
                case rel => exact ⟨i + 1, [], 0, by have := HI.out; omega, by first | rfl | go_num | (have := HRL.out; go_num), by first | rfl | go_num, by go_num, In.nil _, by omega, HT.out⟩
              | succ m =>
                go_wp2_with fail
                go_at_call 15
                have h := HT.out
                rw [ss_cons] at h
                refine h.e2.mono ?_
                clear h
                rintro e w6 ⟨rfl, h⟩
                clear HT
                have HT := Aside0.mk h
                clear h
                have tm : decide (((m + 1 : Nat) : Int) > 0) = true := decide_eq_true (by omega)
                go_wp2_with fail
                go_roundg (gk - 1)
                case measure => have := HI.out; omega
                case rel => exact ⟨i + 1, [], m, by have := HI.out; omega, by first | rfl | go_num | (have := HRL.out; go_num), by first | rfl | go_num, by go_num, In.nil _, by omega, HT.out⟩
      · have t2 : decide ((i : Int) < 60) = false := by simp; omega
        go_wp2_with fail
        go_at_call 12
        refine HT.out.lenA.mono ?_
        rintro e w4 ⟨rfl, h⟩
        rw [is_len]
        clear HT
        have HT := Aside0.mk h
        clear h
        go_wp2_with fail
        go_at_call 16
        refine HT.out.lenB.mono ?_
        rintro e w5 ⟨rfl, h⟩
        rw [ss_len]
        clear HT
        have HT := Aside0.mk h
        clear h
        go_wp2_with fail
        go_ret
        exact ⟨by simp, HT.out.below⟩
    · have t1 : decide ((i : Int) < (xs.length : Int)) = false := by simp; omega
      go_wp2_with fail
      go_at_call 12
      refine HT.out.lenA.mono ?_
      rintro e w4 ⟨rfl, h⟩
      rw [is_len]
      clear HT
      have HT := Aside0.mk h
      clear h
      go_wp2_with fail
      go_at_call 16
      refine HT.out.lenB.mono ?_
      rintro e w5 ⟨rfl, h⟩
      rw [ss_len]
      clear HT
      have HT := Aside0.mk h
      clear h
      go_wp2_with fail
      go_ret
      exact ⟨by simp, HT.out.below⟩
end Go.Proofs.Ytceedejjcillkaa.M
