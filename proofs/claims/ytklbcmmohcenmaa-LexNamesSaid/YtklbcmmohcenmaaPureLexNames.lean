/- The law donatuslaw4.LexNames answers true: which texts are names; a name is one word, just as long as it is. No condition. -/
import Derived.Test.YtklbcmmohcenmaaLx5
import Derived.Lib.IndexBytes
namespace Go.Proofs.Ytklbcmmohcenmaa.Pure
open Go.RowKit Go.Proofs.Ytklbcmmohcenmaa.L Go.Proofs.YtklbcmmohcenmaaW.PrintWords Go.Proofs.YtklbcmmohcenmaaW.PrintLast
set_option linter.unusedVariables false
set_option linter.unusedSimpArgs false

theorem ev_pos {α : Type} {c : Prop} [Decidable c] {g f : Nat → Option α} {r : α} (h : c) (k : Ev g r) : Ev (fun n => if c then g n else f n) r := Ev.congr (fun _ => if_pos h) k
theorem ev_neg {α : Type} {c : Prop} [Decidable c] {g f : Nat → Option α} {r : α} (h : ¬ c) (k : Ev f r) : Ev (fun n => if c then g n else f n) r := Ev.congr (fun _ => if_neg h) k
theorem ev_now {α : Type} {a r : α} (h : a = r) : Ev (fun _ => some a) r := h ▸ Ev.now _
theorem size_list (s : ByteArray) : s.data.toList.length = s.size := by rw [Array.length_toList]; rfl
theorem bt_at (s : ByteArray) (i : Nat) (h : i < s.data.toList.length) : bt s (i : Int) = ((s.data.toList[i]'h).toNat : Int) := by
  have h2 : i < s.size := by rw [← size_list]; exact h
  unfold bt
  rw [Int.toNat_natCast, dif_pos h2]
  simp [ByteArray.getElem_eq_getElem_data]
def nameB (l : List UInt8) : Bool := match l with
  | [] => false
  | c :: r => decide (r.length < 12) && (letterB (c.toNat : Int) && r.all fun b => partB (b.toNat : Int))
theorem runB_all (p : Int → Bool) : ∀ l : List UInt8, (runB p l == l.length) = l.all fun b => p (b.toNat : Int) := by
  intro l
  induction l with
  | nil => rfl
  | cons c l ih =>
    rw [List.all_cons, ← ih]
    unfold runB
    rw [List.takeWhile_cons]
    cases p (c.toNat : Int) with
    | false => simp
    | true => simp
theorem letter_part {c : Int} (h : letterB c = true) : partB c = true := by unfold partB; rw [h]; rfl
theorem lex_name (s : ByteArray) (hs : s.size ≤ 9223372036854775806) : lex_Name.f s = some (nameB s.data.toList) := by
  unfold lex_Name.f
  rw [Lib.toList_data]
  have hl := size_list s
  have hrun : lex_run.f s (Value.func (.func 14) #[] #[]) = some (runB partB s.data.toList : Int) := by
    show (if s.size ≤ 9223372036854775806 then _ else _) = _
    rw [if_pos hs]
    rfl
  rw [hrun, letter_eq]
  cases e : s.data.toList with
  | nil => rw [if_pos rfl]; rfl
  | cons c r =>
    rw [e] at hl
    rw [if_neg (by simp)]
    have hb : bt s 0 = (c.toNat : Int) := by
      have := bt_at s 0 (by rw [e]; simp)
      simp only [e, List.getElem_cons_zero] at this
      exact this
    simp only [List.length_cons] at hl
    rw [show nameB (c :: r) = (decide (r.length < 12) && (letterB (c.toNat : Int) && r.all fun b => partB (b.toNat : Int))) from rfl]
    by_cases h12 : (s.size : Int) ≤ 12
    · rw [if_pos h12, if_pos (by omega), hb, decide_eq_true (show r.length < 12 by omega), Bool.true_and]
      simp only [Option.bind_some]
      cases hc : letterB (c.toNat : Int) with
      | false => rw [if_neg (by decide)]; rfl
      | true =>
        rw [if_pos rfl, Bool.true_and]
        have := runB_all partB (c :: r)
        rw [List.all_cons, letter_part hc, Bool.true_and] at this
        rw [← this, Option.some.injEq, Bool.eq_iff_iff, beq_iff_eq, beq_iff_eq, List.length_cons]
        omega
    · rw [if_neg h12, decide_eq_false (show ¬ r.length < 12 by omega)]
      rfl
theorem ref_letter (c : Int) : donatusref4_letter.f c = some (letterB c) := by
  unfold donatusref4_letter.f letterB
  (repeat' split) <;> (rw [Option.some.injEq, Bool.eq_iff_iff]; simp only [Bool.or_eq_true, Bool.and_eq_true, decide_eq_true_eq, beq_iff_eq, true_iff, false_iff, Bool.false_eq_true]; omega)
theorem ref_digit (c : Int) : donatusref4_digit.f c = some (digitB c) := by
  unfold donatusref4_digit.f digitB
  (repeat' split) <;> (rw [Option.some.injEq, Bool.eq_iff_iff]; simp only [Bool.and_eq_true, decide_eq_true_eq, true_iff, false_iff, Bool.false_eq_true]; omega)
def restOk : Nat → List UInt8 → Bool
  | _, [] => true
  | i, c :: r => (letterB (c.toNat : Int) || (decide (i ≠ 0) && digitB (c.toNat : Int))) && restOk (i + 1) r
theorem restOk_pos : ∀ (l : List UInt8) (i : Nat), restOk (i + 1) l = l.all fun b => partB (b.toNat : Int) := by
  intro l
  induction l with
  | nil => intro i; rfl
  | cons c l ih => intro i; rw [List.all_cons, ← ih (i + 1)]; simp [restOk, partB]
theorem ref_name_ev (s : ByteArray) (hs : s.size ≤ 9223372036854775806) (d : Nat) : ∀ i : Nat, i + d = s.size → Ev (fun k => donatusref4_Name.l0 k s (i : Int)) (restOk i (s.data.toList.drop i) && (decide (1 ≤ s.size) && decide (s.size ≤ 12))) := by
  have hl := size_list s
  induction d with
  | zero =>
    intro i hi
    rw [List.drop_eq_nil_of_le (by omega)]
    refine Ev.step (fun k => by rw [donatusref4_Name.l0]) (ev_neg (by omega) ?_)
    by_cases h : (s.size : Int) ≥ 1
    · exact ev_pos h (ev_now (by rw [Bool.eq_iff_iff]; simp [restOk]; omega))
    · exact ev_neg h (ev_now (by rw [Bool.eq_iff_iff]; simp [restOk]; omega))
  | succ d ih =>
    intro i hi
    have hlt : i < s.data.toList.length := by omega
    have hw : wrap64 ((i : Int) + 1) = ((i + 1 : Nat) : Int) := by unfold wrap64; omega
    have hn := ih (i + 1) (by omega)
    refine Ev.step (fun k => by rw [donatusref4_Name.l0]) (ev_pos (by omega) (ev_pos (by omega) ?_))
    rw [bt_at s i hlt, hw, ref_letter, ref_digit, List.drop_eq_getElem_cons hlt]
    generalize s.data.toList[i] = c
    simp only [Option.bind_some, restOk]
    cases h1 : letterB (c.toNat : Int) with
    | true => exact ev_pos rfl (by simpa using hn)
    | false =>
      refine ev_neg (by decide) ?_
      by_cases h0 : (i : Int) = 0
      · refine ev_pos h0 (ev_now ?_)
        rw [decide_eq_false (by omega)]
        rfl
      · refine ev_neg h0 ?_
        rw [decide_eq_true (by omega)]
        cases h2 : digitB (c.toNat : Int) with
        | true => exact ev_pos rfl (by simpa using hn)
        | false => exact ev_neg (by decide) (ev_now rfl)
theorem ref_name (s : ByteArray) (hs : s.size ≤ 9223372036854775806) : Ev (fun k => donatusref4_Name.f k s) (nameB s.data.toList) := by
  have h := ref_name_ev s hs s.size 0 (by omega)
  have hl := size_list s
  have e : nameB s.data.toList = (restOk 0 (s.data.toList.drop 0) && (decide (1 ≤ s.size) && decide (s.size ≤ 12))) := by
    rw [List.drop_zero, ← hl]
    cases s.data.toList with
    | nil => rfl
    | cons c r =>
      simp only [nameB, restOk, restOk_pos, List.length_cons, Bool.or_eq_true]
      rw [decide_eq_true (show 1 ≤ r.length + 1 by omega), Bool.true_and, show decide (r.length + 1 ≤ 12) = decide (r.length < 12) from decide_eq_decide.2 (by omega)]
      cases letterB (c.toNat : Int) <;> cases decide (r.length < 12) <;> simp
  rw [e]
  exact h
theorem begun : donatuslaw4_begun.f 100 = some true := by decide +kernel
theorem begun_ev : Ev (fun k => donatuslaw4_begun.f k) true := Ev.of (fun k => donatuslaw4_begun.mono k) begun
theorem cut_some (s : ByteArray) (n : Nat) : ∃ t : ByteArray, donatuslaw1_Cut.f s (n : Int) = some t ∧ t.size ≤ n ∧ t.data.toList = s.data.toList.take n := by
  have hl := size_list s
  unfold donatuslaw1_Cut.f
  by_cases h : (s.size : Int) > n
  · refine ⟨s.extract 0 n, ?_, ?_, ?_⟩
    · rw [if_pos h, if_pos (by omega), if_pos (by omega), Int.toNat_natCast]
    · rw [← size_list, Lib.extract_data, List.length_take, List.length_drop]
      omega
    · rw [Lib.extract_data, List.drop_zero, Nat.sub_zero]
  · exact ⟨s, by rw [if_neg h], by omega, by rw [List.take_of_length_le (by omega)]⟩
theorem tail (n : Int) (h0 : 0 ≤ n) (h1 : n ≤ 20) : donatuslaw4_LexNames.l0 60 n (⟨#[]⟩ : ByteArray) 0 = some true := by
  have : n = 0 ∨ n = 1 ∨ n = 2 ∨ n = 3 ∨ n = 4 ∨ n = 5 ∨ n = 6 ∨ n = 7 ∨ n = 8 ∨ n = 9 ∨ n = 10 ∨ n = 11 ∨ n = 12 ∨ n = 13 ∨ n = 14 ∨ n = 15 ∨ n = 16 ∨ n = 17 ∨ n = 18 ∨ n = 19 ∨ n = 20 := by omega
  rcases this with rfl | rfl | rfl | rfl | rfl | rfl | rfl | rfl | rfl | rfl | rfl | rfl | rfl | rfl | rfl | rfl | rfl | rfl | rfl | rfl | rfl <;> decide +kernel
theorem tail_ev (n : Int) (h0 : 0 ≤ n) (h1 : n ≤ 20) : Ev (fun k => donatuslaw4_LexNames.l0 k n (⟨#[]⟩ : ByteArray) 0) true := Ev.of (fun k => (donatuslaw4_LexNames.mono_l k).2.1 _ _ _) (tail n h0 h1)
theorem join0 (n : Int) (b : Bool) (h : b = false → 0 ≤ n ∧ n ≤ 20) : Ev (fun k => donatuslaw4_LexNames.j0 k n b) true := by
  refine Ev.step (fun k => by rw [donatuslaw4_LexNames.j0]) ?_
  cases b with
  | true => exact ev_pos rfl (Ev.now _)
  | false => exact ev_neg (by decide) (tail_ev n (h rfl).1 (h rfl).2)
theorem join2 (n : Int) (b : Bool) (h : b = false → 0 ≤ n ∧ n ≤ 20) : Ev (fun k => donatuslaw4_LexNames.j2 k n b) true := by
  refine Ev.step (fun k => by rw [donatuslaw4_LexNames.j2]) ?_
  cases b with
  | true => exact ev_pos rfl (Ev.now _)
  | false => exact ev_neg (by decide) (tail_ev n (h rfl).1 (h rfl).2)
theorem LexNames : donatuslaw4_LexNames.Pure := by
  intro s n hs hn
  obtain ⟨t, ht, hsz, _⟩ := cut_some s 20
  have ht : donatuslaw1_Cut.f s 20 = some t := ht
  have : Ev (fun k => donatuslaw4_LexNames.f k s n) true := by
    unfold donatuslaw4_LexNames.f
    refine Ev.bind begun_ev (ev_pos rfl ?_)
    rw [ht]
    refine Ev.bind (Ev.now t) (Ev.bind (g := fun _ => lex_Name.f t) (Ev.congr (fun _ => lex_name t (by omega)) (Ev.now _)) (Ev.bind (ref_name t (by omega)) ?_))
    cases nameB t.data.toList with
    | true =>
      refine ev_pos rfl (ev_pos rfl ?_)
      by_cases h : n < 0
      · exact ev_pos h (join0 n true (fun h => by cases h))
      · exact ev_neg h (join0 n _ (fun h2 => by simp at h2; omega))
    | false =>
      refine ev_neg (by decide) (ev_neg (by decide) ?_)
      by_cases h : n < 0
      · exact ev_pos h (join2 n true (fun h => by cases h))
      · exact ev_neg h (join2 n _ (fun h2 => by simp at h2; omega))
  exact this.rounds

end Go.Proofs.Ytklbcmmohcenmaa.Pure
