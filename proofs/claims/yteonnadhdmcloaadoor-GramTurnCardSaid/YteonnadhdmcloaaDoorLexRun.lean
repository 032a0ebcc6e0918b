/- What lex.run answers of a text at lex.part and at lex.digit, and strings.IndexByte. Texts are shorter than 2^63. -/
import Derived.Test.YteonnadhdmcloaaDoorGx2
import Derived.Deep.LoopGhost
import Derived.Shelf.Small.Strs
namespace Go.Proofs.YteonnadhdmcloaaDoor.G
open Go.RowKit Go.Proofs.YteonnadhdmcloaaDoorW.PrintWords Go.Proofs.YteonnadhdmcloaaDoorW.PrintLast Go.Proofs.YteonnadhdmcloaaDoorW.PrintMore
set_option linter.unusedVariables false
set_option linter.unusedSimpArgs false
def letterB (c : Int) : Bool := (decide (97 ≤ c) && decide (c ≤ 122)) || (decide (65 ≤ c) && decide (c ≤ 90)) || decide (c = 95)
def digitB (c : Int) : Bool := decide (48 ≤ c) && decide (c ≤ 57)
def partB (c : Int) : Bool := letterB c || digitB c
theorem letter_eq (c : Int) : lex_letter.f c = some (letterB c) := by
  unfold lex_letter.f letterB
  (repeat' split) <;> (rw [Option.some.injEq, Bool.eq_iff_iff]; simp only [Bool.or_eq_true, Bool.and_eq_true, decide_eq_true_eq, beq_iff_eq, true_iff, false_iff, Bool.false_eq_true]; omega)
theorem digit_eq (c : Int) : lex_digit.f c = some (digitB c) := by
  unfold lex_digit.f digitB
  (repeat' split) <;> (rw [Option.some.injEq, Bool.eq_iff_iff]; simp only [Bool.and_eq_true, decide_eq_true_eq, true_iff, false_iff, Bool.false_eq_true]; omega)
theorem part_eq (c : Int) : lex_part.f c = some (partB c) := by
  unfold lex_part.f partB
  rw [letter_eq, digit_eq]
  cases letterB c <;> simp
def runB (p : Int → Bool) (l : List UInt8) : Nat := (l.takeWhile fun b => p (b.toNat : Int)).length
def lex_run.f (s : ByteArray) : Value → Option Int
  | .func (.func f) ⟨[]⟩ ⟨[]⟩ => if s.size ≤ 9223372036854775806 then (if f = 43 then some (runB partB s.data.toList : Int) else if f = 54 then some (runB digitB s.data.toList : Int) else none) else none
  | _ => none
theorem ret_nat {a b : Nat} (h : a = b) : Ending.returned (.int .i64 (a : Int)) = .returned (.int .i64 (b : Int)) := by rw [h]
theorem runB_le (p : Int → Bool) (l : List UInt8) : runB p l ≤ l.length := (List.takeWhile_sublist _).length_le
/-- Up to i all are so; the i-th is, or isn't. -/
theorem runB_at (p : Int → Bool) : ∀ (l : List UInt8) (i : Nat), i ≤ runB p l → (i < runB p l ↔ ∃ h : i < l.length, p ((l[i]'h).toNat : Int) = true) := by
  intro l
  induction l with
  | nil => intro i h; simp [runB]
  | cons b l ih =>
    intro i h
    unfold runB at h ⊢
    rw [List.takeWhile_cons] at h ⊢
    cases e : p (b.toNat : Int) with
    | false =>
      rw [e] at h
      simp only [Bool.false_eq_true, if_false, List.length_nil] at h ⊢
      obtain rfl : i = 0 := by omega
      simp [e]
    | true =>
      rw [e] at h
      simp only [if_true, List.length_cons] at h ⊢
      cases i with
      | zero => simp [e]
      | succ i =>
        have := ih i (by unfold runB; omega)
        unfold runB at this
        rw [Nat.succ_lt_succ_iff, this]
        simp

theorem part_calls (c : Int) (w : World) : Calls Tryd.prog 43 #[.int .u8 c] w fun e w' => e = .returned (.bool (partB c)) ∧ Drawn0 w w' := lex_part.calls c _ w (part_eq c)
set_option maxHeartbeats 1000000 in
theorem run_part (s : ByteArray) (w : World) (hs : s.size ≤ 9223372036854775806) :
    Calls Tryd.prog 42 #[.string s, .func (.func 43) #[] #[]] w fun e w' => e = .returned (.int .i64 (runB partB s.data.toList)) ∧ Drawn0 w w' := by
  have hle : runB partB s.data.toList ≤ s.size := by have := runB_le partB s.data.toList; rw [Array.length_toList] at this; exact this
  go_enter Tryd.func42, Tryd.ntmps42
  go_wp2
  go_loopg [5] (runB partB s.data.toList) (fun kq v5 w' => ∃ i : Nat, i + kq = runB partB s.data.toList ∧ v5 = .int .i64 (i : Int) ∧ Drawn0 w w')
  case atStart => exact ⟨0, by omega, rfl, Drawn0.refl _⟩
  case round =>
    obtain ⟨i, hi, rfl, ⟨m1, rfl⟩⟩ := hrel
    have hat := runB_at partB s.data.toList i (by omega)
    by_cases hlt : i < s.size
    · have hlen : i < s.data.toList.length := by rw [Array.length_toList]; exact hlt
      have hb : (s.data.toList[i]'hlen) = s[i] := by simp [ByteArray.getElem_eq_getElem_data]
      have hc : Calls Tryd.prog 43 #[.int .u8 (s[i].toNat : Int)] (w.drewN m1) fun e w' => e = .returned (.bool (partB (s[i].toNat : Int))) ∧ Drawn0 (w.drewN m1) w' := part_calls _ _
      cases e : partB (s[i].toNat : Int) with
      | true =>
        have h2 : i < runB partB s.data.toList := hat.2 ⟨hlen, by rw [hb]; exact e⟩
        rw [e] at hc
        have HC := Aside0.mk hc
        have HI := Aside0.mk hi
        clear hc e hat hb hi hle
        go_wp2_with (first | (go_at_call 43; refine HC.out.mono ?_; rintro e w' ⟨rfl, ⟨nd, rfl⟩⟩))
        go_roundg (gk - 1)
        case measure => have := HI.out; omega
        case rel => exact ⟨i + 1, by have := HI.out; omega, by go_num, by repeat (first | exact Drawn0.refl _ | apply Drawn0.step)⟩
      | false =>
        have h2 : ¬ i < runB partB s.data.toList := fun h => by
          obtain ⟨h3, h4⟩ := hat.1 h
          rw [hb, e] at h4
          cases h4
        rw [e] at hc
        have HC := Aside0.mk hc
        have HE := Aside0.mk (show i = runB partB s.data.toList by omega)
        clear hc e hat hb hi hle h2
        go_wp2_with (first | (go_at_call 43; refine HC.out.mono ?_; rintro e w' ⟨rfl, ⟨nd, rfl⟩⟩))
        go_ret
        exact ⟨ret_nat HE.out, by repeat (first | exact Drawn0.refl _ | apply Drawn0.step)⟩
    · have HE := Aside0.mk (show i = runB partB s.data.toList by omega)
      clear hat hi hle
      go_wp2
      go_ret
      exact ⟨ret_nat HE.out, by repeat (first | exact Drawn0.refl _ | apply Drawn0.step)⟩

theorem digit_calls (c : Int) (w : World) : Calls Tryd.prog 54 #[.int .u8 c] w fun e w' => e = .returned (.bool (digitB c)) ∧ Drawn0 w w' := lex_digit.calls c _ w (digit_eq c)
set_option maxHeartbeats 1000000 in
theorem run_digit (s : ByteArray) (w : World) (hs : s.size ≤ 9223372036854775806) :
    Calls Tryd.prog 42 #[.string s, .func (.func 54) #[] #[]] w fun e w' => e = .returned (.int .i64 (runB digitB s.data.toList)) ∧ Drawn0 w w' := by
  have hle : runB digitB s.data.toList ≤ s.size := by have := runB_le digitB s.data.toList; rw [Array.length_toList] at this; exact this
  go_enter Tryd.func42, Tryd.ntmps42
  go_wp2
  go_loopg [5] (runB digitB s.data.toList) (fun kq v5 w' => ∃ i : Nat, i + kq = runB digitB s.data.toList ∧ v5 = .int .i64 (i : Int) ∧ Drawn0 w w')
  case atStart => exact ⟨0, by omega, rfl, Drawn0.refl _⟩
  case round =>
    obtain ⟨i, hi, rfl, ⟨m1, rfl⟩⟩ := hrel
    have hat := runB_at digitB s.data.toList i (by omega)
    by_cases hlt : i < s.size
    · have hlen : i < s.data.toList.length := by rw [Array.length_toList]; exact hlt
      have hb : (s.data.toList[i]'hlen) = s[i] := by simp [ByteArray.getElem_eq_getElem_data]
      have hc : Calls Tryd.prog 54 #[.int .u8 (s[i].toNat : Int)] (w.drewN m1) fun e w' => e = .returned (.bool (digitB (s[i].toNat : Int))) ∧ Drawn0 (w.drewN m1) w' := digit_calls _ _
      cases e : digitB (s[i].toNat : Int) with
      | true =>
        have h2 : i < runB digitB s.data.toList := hat.2 ⟨hlen, by rw [hb]; exact e⟩
        rw [e] at hc
        have HC := Aside0.mk hc
        have HI := Aside0.mk hi
        clear hc e hat hb hi hle
        go_wp2_with (first | (go_at_call 54; refine HC.out.mono ?_; rintro e w' ⟨rfl, ⟨nd, rfl⟩⟩))
        go_roundg (gk - 1)
        case measure => have := HI.out; omega
        case rel => exact ⟨i + 1, by have := HI.out; omega, by go_num, by repeat (first | exact Drawn0.refl _ | apply Drawn0.step)⟩
      | false =>
        have h2 : ¬ i < runB digitB s.data.toList := fun h => by
          obtain ⟨h3, h4⟩ := hat.1 h
          rw [hb, e] at h4
          cases h4
        rw [e] at hc
        have HC := Aside0.mk hc
        have HE := Aside0.mk (show i = runB digitB s.data.toList by omega)
        clear hc e hat hb hi hle h2
        go_wp2_with (first | (go_at_call 54; refine HC.out.mono ?_; rintro e w' ⟨rfl, ⟨nd, rfl⟩⟩))
        go_ret
        exact ⟨ret_nat HE.out, by repeat (first | exact Drawn0.refl _ | apply Drawn0.step)⟩
    · have HE := Aside0.mk (show i = runB digitB s.data.toList by omega)
      clear hat hi hle
      go_wp2
      go_ret
      exact ⟨ret_nat HE.out, by repeat (first | exact Drawn0.refl _ | apply Drawn0.step)⟩

theorem lex_run.calls (a0 : ByteArray) (a1 : Value) (r : Int) (w : World) (h : lex_run.f a0 a1 = some r) : Calls Tryd.prog 42 #[.string a0, a1] w fun e w' => e = .returned (.int .i64 r) ∧ Drawn0 w w' := by
  unfold lex_run.f at h
  split at h
  · split at h
    · rename_i hs
      split at h
      · rename_i hf
        subst hf
        cases h
        exact run_part a0 w hs
      · split at h
        · rename_i hf
          subst hf
          cases h
          exact run_digit a0 w hs
        · cases h
    · cases h
  · cases h
def laysIB_ren : Go.Shelf.Ren := ⟨fun | 137 => 68 | 217 => 79 | 266 => 84 | n => n, fun | 9 => 9 | 5 => 5 | 3 => 3 | n => n, fun | n => n⟩
theorem laysIB : Go.Proofs.Lays.n137 Tryd.prog laysIB_ren := {
  mixed := by kernel_rfl
  f137 := Tryd.func68.trans (congrArg some (by kernel_rfl))
  f217 := Tryd.func79.trans (congrArg some (by kernel_rfl))
  f266 := Tryd.func84.trans (congrArg some (by kernel_rfl))
  t3 := Tryd.underlying3
  a3 := Tryd.isAgg3
  z3 := Tryd.sizeOf3
  v3 := Tryd.zeroValue3
  t5 := Tryd.underlying5
  a5 := Tryd.isAgg5
  z5 := Tryd.sizeOf5
  v5 := Tryd.zeroValue5
  t9 := Tryd.underlying9
  a9 := Tryd.isAgg9
  z9 := Tryd.sizeOf9
  v9 := Tryd.zeroValue9 }
def strings_IndexByte.f (a0 : ByteArray) (a1 : Int) : Option Int := some (Lib.indexByte a0.data.toList a1.toNat.toUInt8)
theorem strings_IndexByte.calls (a0 : ByteArray) (a1 : Int) (r : Int) (w : World) (h : strings_IndexByte.f a0 a1 = some r) : Calls Tryd.prog 68 #[.string a0, .int .u8 a1] w fun e w' => e = .returned (.int .i64 r) ∧ Drawn0 w w' := by
  cases h
  exact (Any.strings_IndexByte laysIB a0 a1 w).mono fun e w' k => ⟨k.1, k.2 ▸ Drawn0.refl _⟩
end Go.Proofs.YteonnadhdmcloaaDoor.G
