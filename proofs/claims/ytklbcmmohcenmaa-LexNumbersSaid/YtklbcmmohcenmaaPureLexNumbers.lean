/- The law donatuslaw4.LexNumbers answers true: numbers of four digits at most, without a 0 ahead; and lex.Scan answers of any text what the reference's Scan answers. No condition. -/
import Derived.Test.YtklbcmmohcenmaaLx9
import Derived.Lib.IndexBytes
namespace Go.Proofs.Ytklbcmmohcenmaa.Pure
open Go.RowKit Go.Proofs.Ytklbcmmohcenmaa.L Go.Proofs.YtklbcmmohcenmaaW.PrintWords Go.Proofs.YtklbcmmohcenmaaW.PrintLast
set_option linter.unusedVariables false
set_option linter.unusedSimpArgs false

theorem ev_pos {α : Type} {c : Prop} [Decidable c] {g f : Nat → Option α} {r : α} (h : c) (k : Ev g r) : Ev (fun n => if c then g n else f n) r := Ev.congr (fun _ => if_pos h) k
theorem ev_neg {α : Type} {c : Prop} [Decidable c] {g f : Nat → Option α} {r : α} (h : ¬ c) (k : Ev f r) : Ev (fun n => if c then g n else f n) r := Ev.congr (fun _ => if_neg h) k
theorem ev_now {α : Type} {a r : α} (h : a = r) : Ev (fun _ => some a) r := h ▸ Ev.now _
theorem ev_unbind {α β : Type} {g : Nat → Option α} {f : Nat → α → Option β} {a : α} {r : β} (h : Ev g a) (k : Ev (fun n => (g n).bind (f n)) r) : Ev (fun n => f n a) r := by
  obtain ⟨K, hK⟩ := h
  obtain ⟨M, hM⟩ := k
  refine ⟨K + M, fun n hn => ?_⟩
  have := hM n (by omega)
  simp only [hK n (by omega), Option.bind_some] at this
  exact this
theorem size_list (s : ByteArray) : s.data.toList.length = s.size := by rw [Array.length_toList]; rfl
theorem bt_at (s : ByteArray) (i : Nat) (h : i < s.data.toList.length) : bt s (i : Int) = ((s.data.toList[i]'h).toNat : Int) := by
  have h2 : i < s.size := by rw [← size_list]; exact h
  unfold bt
  rw [Int.toNat_natCast, dif_pos h2]
  simp [ByteArray.getElem_eq_getElem_data]
theorem drop_size (s : ByteArray) (i : Nat) : (s.extract i s.size).data.toList = s.data.toList.drop i := by
  have hl := size_list s
  rw [Lib.extract_data, List.take_of_length_le (by rw [List.length_drop]; omega)]
theorem ref_letter (c : Int) : donatusref4_letter.f c = some (letterB c) := by
  unfold donatusref4_letter.f letterB
  (repeat' split) <;> (rw [Option.some.injEq, Bool.eq_iff_iff]; simp only [Bool.or_eq_true, Bool.and_eq_true, decide_eq_true_eq, beq_iff_eq, true_iff, false_iff, Bool.false_eq_true]; omega)
theorem ref_digit (c : Int) : donatusref4_digit.f c = some (digitB c) := by
  unfold donatusref4_digit.f digitB
  (repeat' split) <;> (rw [Option.some.injEq, Bool.eq_iff_iff]; simp only [Bool.and_eq_true, decide_eq_true_eq, true_iff, false_iff, Bool.false_eq_true]; omega)
def small (s : ByteArray) : Prop := s.size ≤ 1000000000
theorem w1 {i : Nat} (h : i ≤ 1000000001) : wrap64 ((i : Int) + 1) = ((i + 1 : Nat) : Int) := by unfold wrap64; omega
theorem runB_cons (p : Int → Bool) (c : UInt8) (l : List UInt8) : runB p (c :: l) = if p (c.toNat : Int) = true then 1 + runB p l else 0 := by
  unfold runB
  rw [List.takeWhile_cons]
  split <;> simp [Nat.add_comm]

/-! ### What a text begins with -/
/-- How many bytes ahead of the next line's end. -/
def lineL (l : List UInt8) : Nat := (l.takeWhile fun b => b != 10).length
def blankL : List UInt8 → Nat
  | [] => 0
  | c :: r => if (c == 32 || c == 9 || c == 10) = true then 1 else if (c == 47 && r.head? == some 47) = true then lineL (c :: r) else 0
theorem blankL_le (l : List UInt8) : blankL l ≤ l.length := by
  cases l with
  | nil => exact Nat.le_refl _
  | cons c r =>
    show (if (c == 32 || c == 9 || c == 10) = true then 1 else if (c == 47 && r.head? == some 47) = true then lineL (c :: r) else 0) ≤ _
    by_cases h1 : (c == 32 || c == 9 || c == 10) = true
    · rw [if_pos h1, List.length_cons]; omega
    · rw [if_neg h1]
      by_cases h2 : (c == 47 && r.head? == some 47) = true
      · rw [if_pos h2]; exact (List.takeWhile_sublist _).length_le
      · rw [if_neg h2]; exact Nat.zero_le _
def numL (l : List UInt8) : Int × Nat :=
  let n := runB digitB l
  if (decide (n > 4) || (decide (n > 1) && l.head? == some 48) || ((l[n]?).map fun c => letterB (c.toNat : Int)) == some true) = true then (0, 0) else (2, n)
def keys : List (List UInt8) := [[116, 111, 107, 101, 110], [108, 101, 102, 116], [114, 105, 103, 104, 116], [110, 111, 110, 97, 115, 115, 111, 99], [115, 116, 97, 114, 116], [101, 120, 112, 101, 99, 116], [112, 114, 101, 99]]
def keyL (r : List UInt8) : Int × Nat :=
  if r.head? = some 37 then (4, 2)
  else if (keys.any fun k => r.take (runB partB r) == k) = true then (4, 1 + runB partB r) else (0, 0)
def wordL : List UInt8 → Int × Nat
  | [] => (0, 0)
  | c :: r => if letterB (c.toNat : Int) = true then (if runB partB (c :: r) > 12 then (0, 0) else (1, runB partB (c :: r)))
    else if digitB (c.toNat : Int) = true then numL (c :: r)
    else if (c.toNat : Int) = 37 then keyL r
    else if (c.toNat : Int) = 58 ∨ (c.toNat : Int) = 124 ∨ (c.toNat : Int) = 59 then (3, 1) else (0, 0)
theorem wordL_le (l : List UInt8) : (wordL l).2 ≤ l.length := by
  cases l with
  | nil => exact Nat.le_refl _
  | cons c r =>
    have h1 := runB_le partB (c :: r)
    have h2 := runB_le digitB (c :: r)
    have h3 := runB_le partB r
    simp only [List.length_cons] at h1 h2 ⊢
    show (if letterB (c.toNat : Int) = true then (if runB partB (c :: r) > 12 then ((0, 0) : Int × Nat) else (1, runB partB (c :: r)))
      else if digitB (c.toNat : Int) = true then numL (c :: r)
      else if (c.toNat : Int) = 37 then keyL r
      else if (c.toNat : Int) = 58 ∨ (c.toNat : Int) = 124 ∨ (c.toNat : Int) = 59 then (3, 1) else (0, 0)).2 ≤ _
    by_cases hA : letterB (c.toNat : Int) = true
    · rw [if_pos hA]
      by_cases hB : runB partB (c :: r) > 12
      · rw [if_pos hB]; exact Nat.zero_le _
      · rw [if_neg hB]; exact h1
    rw [if_neg hA]
    by_cases hB : digitB (c.toNat : Int) = true
    · rw [if_pos hB]
      unfold numL
      simp only
      split
      · exact Nat.zero_le _
      · exact h2
    rw [if_neg hB]
    by_cases hC : (c.toNat : Int) = 37
    · rw [if_pos hC]
      unfold keyL
      by_cases hD : r.head? = some 37
      · rw [if_pos hD]
        cases r with
        | nil => cases hD
        | cons d r => show 2 ≤ (d :: r).length + 1; rw [List.length_cons]; omega
      · rw [if_neg hD]
        split
        · show 1 + runB partB r ≤ _; omega
        · exact Nat.zero_le _
    rw [if_neg hC]
    split
    · show 1 ≤ _; omega
    · exact Nat.zero_le _

/-! ### The reference's parts -/
theorem ref_run (s : ByteArray) (hs : small s) (d : Nat) : ∀ i : Nat, i + d = s.size → Ev (fun k => donatusref4_run.l0 k s (i : Int)) ((i + runB partB (s.data.toList.drop i) : Nat) : Int) := by
  have hl := size_list s
  unfold small at hs
  induction d with
  | zero =>
    intro i hi
    rw [List.drop_eq_nil_of_le (by omega)]
    refine Ev.step (fun k => by rw [donatusref4_run.l0]) (ev_neg (by omega) (ev_now (by simp [runB])))
  | succ d ih =>
    intro i hi
    have hlt : i < s.data.toList.length := by omega
    have hn := ih (i + 1) (by omega)
    refine Ev.step (fun k => by rw [donatusref4_run.l0]) (ev_pos (by omega) (ev_pos (by omega) ?_))
    rw [bt_at s i hlt, w1 (by omega), ref_letter, ref_digit, List.drop_eq_getElem_cons hlt]
    generalize s.data.toList[i] = c
    rw [runB_cons]
    simp only [Option.bind_some]
    cases h1 : letterB (c.toNat : Int) with
    | true =>
      have hp : partB (c.toNat : Int) = true := by unfold partB; rw [h1]; rfl
      rw [if_pos hp]
      refine ev_pos rfl ?_
      rw [← Nat.add_assoc]
      exact hn
    | false =>
      refine ev_neg (by decide) ?_
      cases h2 : digitB (c.toNat : Int) with
      | true =>
        have hp : partB (c.toNat : Int) = true := by unfold partB; rw [h2]; exact Bool.or_true _
        rw [if_pos hp]
        refine ev_pos rfl ?_
        rw [← Nat.add_assoc]
        exact hn
      | false =>
        have hp : ¬ partB (c.toNat : Int) = true := by unfold partB; rw [h1, h2]; decide
        rw [if_neg hp]
        exact ev_neg (by decide) (Ev.now _)

theorem head_drop (l : List UInt8) (i : Nat) (h : i < l.length) : (l.drop i).head? = some l[i] := by rw [List.drop_eq_getElem_cons h]; rfl
theorem nat_byte {c : UInt8} {n : Nat} (hn : n < 256) : ((c.toNat : Int) = (n : Int)) ↔ c = UInt8.ofNat n := by
  constructor
  · intro h
    have : c.toNat = n := by omega
    rw [← this]
    simp
  · rintro rfl
    have : (UInt8.ofNat n).toNat = n := by simp [Nat.mod_eq_of_lt hn]
    rw [this]

/-- The reference's number: at place j all since i are digits. -/
theorem ref_number (s : ByteArray) (hs : small s) (i : Nat) (hi : i < s.size) (d : Nat) : ∀ j : Nat, j + d = s.size → i ≤ j → runB digitB (s.data.toList.drop i) = (j - i) + runB digitB (s.data.toList.drop j) →
    Ev (fun k => donatusref4_number.l0 k s (i : Int) (j : Int)) (if (numL (s.data.toList.drop i)).2 = 0 ∧ (numL (s.data.toList.drop i)).1 = 0 then -1 else ((i + runB digitB (s.data.toList.drop i) : Nat) : Int)) := by
  have hl := size_list s
  unfold small at hs
  have hil : i < s.data.toList.length := by omega
  have hhead := head_drop s.data.toList i hil
  induction d with
  | zero =>
    intro j hj hij hrun
    rw [List.drop_eq_nil_of_le (i := j) (by omega)] at hrun
    have hn : runB digitB (s.data.toList.drop i) = j - i := by rw [hrun]; simp [runB]
    have hget : (s.data.toList.drop i)[j - i]? = none := by rw [List.getElem?_eq_none]; rw [List.length_drop]; omega
    have hw : wrap64 ((j : Int) - i) = ((j - i : Nat) : Int) := by unfold wrap64; omega
    unfold numL
    simp only [hn, hget, hhead]
    refine Ev.step (fun k => by rw [donatusref4_number.l0]) (ev_neg (by omega) ?_)
    rw [hw]
    by_cases h4 : ((j - i : Nat) : Int) > 4
    · refine ev_pos h4 (ev_now ?_)
      rw [decide_eq_true (show j - i > 4 by omega)]
      simp
    refine ev_neg h4 (ev_pos (by omega) (ev_pos (by omega) ?_))
    rw [bt_at s i hil, decide_eq_false (show ¬ j - i > 4 by omega)]
    generalize s.data.toList[i] = c
    by_cases h48 : (c.toNat : Int) = 48
    · refine ev_pos h48 ?_
      have hc : c = 48 := (nat_byte (n := 48) (by decide)).1 h48
      subst hc
      by_cases h1 : ((j - i : Nat) : Int) > 1
      · refine ev_pos h1 (ev_now ?_)
        rw [decide_eq_true (show j - i > 1 by omega)]
        simp
      · refine ev_neg h1 (ev_now ?_)
        rw [decide_eq_false (show ¬ j - i > 1 by omega)]
        simp
        omega
    · refine ev_neg h48 (ev_now ?_)
      have hc : c ≠ 48 := fun h => h48 ((nat_byte (n := 48) (by decide)).2 h)
      simp [hc]
      omega
  | succ d ih =>
    intro j hj hij hrun
    have hjl : j < s.data.toList.length := by omega
    refine Ev.step (fun k => by rw [donatusref4_number.l0]) (ev_pos (by omega) (ev_pos (by omega) ?_))
    rw [bt_at s j hjl, w1 (by omega), ref_digit, ref_letter]
    simp only [Option.bind_some]
    have hdr := hrun
    rw [List.drop_eq_getElem_cons hjl, runB_cons] at hdr
    cases hd : digitB (s.data.toList[j].toNat : Int) with
    | true =>
      rw [if_pos hd] at hdr
      exact ev_pos rfl (ih (j + 1) (by omega) (by omega) (by omega))
    | false =>
      rw [if_neg (by rw [hd]; decide)] at hdr
      have hn : runB digitB (s.data.toList.drop i) = j - i := hdr
      have hget : (s.data.toList.drop i)[j - i]? = some s.data.toList[j] := by
        rw [List.getElem?_drop, show i + (j - i) = j by omega, List.getElem?_eq_getElem hjl]
      have hw : wrap64 ((j : Int) - i) = ((j - i : Nat) : Int) := by unfold wrap64; omega
      refine ev_neg (by decide) ?_
      unfold numL
      simp only [hn, hget, hhead, Option.map_some]
      rw [hw]
      by_cases h4 : ((j - i : Nat) : Int) > 4
      · refine ev_pos h4 (ev_now ?_)
        rw [decide_eq_true (show j - i > 4 by omega)]
        simp
      refine ev_neg h4 (ev_pos (by omega) (ev_pos (by omega) ?_))
      rw [bt_at s i hil, decide_eq_false (show ¬ j - i > 4 by omega)]
      generalize s.data.toList[i] = c
      by_cases h48 : (c.toNat : Int) = 48
      · refine ev_pos h48 ?_
        have hc : c = 48 := (nat_byte (n := 48) (by decide)).1 h48
        subst hc
        by_cases h1 : ((j - i : Nat) : Int) > 1
        · refine ev_pos h1 (ev_now ?_)
          rw [decide_eq_true (show j - i > 1 by omega)]
          simp
        · refine ev_neg h1 ?_
          rw [decide_eq_false (show ¬ j - i > 1 by omega)]
          cases hL : letterB (s.data.toList[j].toNat : Int) with
          | true => exact ev_pos rfl (ev_now (by simp))
          | false => exact ev_neg (by decide) (ev_now (by simp; omega))
      · refine ev_neg h48 ?_
        have hc : c ≠ 48 := fun h => h48 ((nat_byte (n := 48) (by decide)).2 h)
        cases hL : letterB (s.data.toList[j].toNat : Int) with
        | true => exact ev_pos rfl (ev_now (by simp))
        | false => exact ev_neg (by decide) (ev_now (by simp [hc]; omega))

/-! ### Between words -/
theorem line_index : ∀ l : List UInt8, (0 ≤ Lib.indexByte l 10 ∧ Lib.indexByte l 10 = (lineL l : Int)) ∨ (Lib.indexByte l 10 = -1 ∧ lineL l = l.length) := by
  intro l
  induction l with
  | nil => exact .inr ⟨rfl, rfl⟩
  | cons b l ih =>
    unfold lineL at ih ⊢
    rw [List.takeWhile_cons]
    unfold Lib.indexByte
    by_cases h : b = 10
    · subst h
      exact .inl ⟨by simp, by simp⟩
    · have h1 : (b == 10) = false := by simp [h]
      have h2 : (b != 10) = true := by simp [h]
      rw [h1, h2]
      rcases ih with ⟨a, e⟩ | ⟨a, e⟩
      · left
        have h3 : (Lib.indexByte l 10 == -1) = false := by simp; omega
        rw [h3]
        simp only [Bool.false_eq_true, if_false, if_true, List.length_cons]
        omega
      · right
        rw [a]
        simp only [Bool.false_eq_true, if_false, if_true, List.length_cons, e]
        simp
theorem three_index (c : UInt8) : (Lib.indexByte [32, 9, 10] c ≥ 0) ↔ ((c == 32 || c == 9 || c == 10) = true) := by
  unfold Lib.indexByte Lib.indexByte Lib.indexByte Lib.indexByte
  by_cases h1 : c = 32
  · subst h1; decide
  by_cases h2 : c = 9
  · subst h2; decide
  by_cases h3 : c = 10
  · subst h3; decide
  have a1 : (32 == c) = false := by simp; exact fun h => h1 h.symm
  have a2 : (9 == c) = false := by simp; exact fun h => h2 h.symm
  have a3 : (10 == c) = false := by simp; exact fun h => h3 h.symm
  simp [a1, a2, a3, h1, h2, h3]
theorem back (c : UInt8) : ((c.toNat : Int)).toNat.toUInt8 = c := by simp
theorem prefix2 (s p : ByteArray) (hp : p.size = 2) : strings_HasPrefix.f s p = some (s.data.toList.take 2 == p.data.toList) := by
  have hl := size_list s
  have hq := size_list p
  unfold strings_HasPrefix.f stringslite_HasPrefix.f
  by_cases h : (s.size : Int) ≥ (p.size : Int)
  · rw [if_pos h, if_pos (by omega), if_pos (by omega), Lib.toList_data, Lib.toList_data, Lib.extract_data, List.drop_zero, hp]
    rfl
  · rw [if_neg h]
    show some false = _
    rw [Option.some.injEq]
    symm
    rw [beq_eq_false_iff_ne]
    intro e
    have := congrArg List.length e
    rw [List.length_take] at this
    omega
theorem at_zero (s : ByteArray) {c : UInt8} {r : List UInt8} (e : s.data.toList = c :: r) : bt s 0 = (c.toNat : Int) := by
  have := bt_at s 0 (by rw [e]; simp)
  simp only [e, List.getElem_cons_zero] at this
  exact this
theorem lex_blank_eq (s : ByteArray) (h : 0 < s.size) : lex_blank.f s = some (blankL s.data.toList : Int) := by
  have hl := size_list s
  unfold lex_blank.f
  rw [if_pos (by omega), prefix2 s _ rfl]
  cases e : s.data.toList with
  | nil => rw [e] at hl; simp at hl; omega
  | cons c r =>
    rw [at_zero s e]
    show (Option.bind (some (Lib.indexByte [32, 9, 10] ((c.toNat : Int)).toNat.toUInt8)) _) = _
    rw [back]
    simp only [Option.bind_some]
    show _ = some (((if (c == 32 || c == 9 || c == 10) = true then 1 else if (c == 47 && r.head? == some 47) = true then lineL (c :: r) else 0 : Nat)) : Int)
    by_cases h1 : (c == 32 || c == 9 || c == 10) = true
    · rw [if_pos ((three_index c).2 h1), if_pos h1]
      rfl
    rw [if_neg (fun h => h1 ((three_index c).1 h)), if_neg h1]
    have h2 : ((c :: r).take 2 == [47, 47]) = (c == 47 && r.head? == some 47) := by
      cases r with
      | nil => rw [Bool.eq_iff_iff]; simp
      | cons d r => rw [Bool.eq_iff_iff]; simp
    show (if ((c :: r).take 2 == [47, 47]) = true then _ else _) = _
    rw [h2]
    by_cases h3 : (c == 47 && r.head? == some 47) = true
    · rw [if_pos h3, if_pos h3]
      unfold strings_IndexByte.f
      rw [e]
      show (if Lib.indexByte (c :: r) 10 ≥ 0 then some (Lib.indexByte (c :: r) 10) else _) = _
      rcases line_index (c :: r) with ⟨a, b⟩ | ⟨a, b⟩
      · rw [if_pos a, b]
      · rw [if_neg (by omega), b, ← e, hl]
    · rw [if_neg h3, if_neg h3]
      rfl
theorem line_pos {c : UInt8} {r : List UInt8} (h : (c == 47 && r.head? == some 47) = true) : 0 < lineL (c :: r) := by
  have h1 : c = 47 := by
    rw [Bool.and_eq_true, beq_iff_eq] at h
    exact h.1
  subst h1
  unfold lineL
  rw [List.takeWhile_cons]
  simp
/-- The reference's inner loop runs to the line's end. -/
theorem ref_line (s : ByteArray) (hs : small s) (t : Int) (d : Nat) : ∀ i : Nat, i + d = s.size → Ev (fun k => donatusref4_skip.l0 k s ((i + lineL (s.data.toList.drop i) : Nat) : Int)) t → Ev (fun k => donatusref4_skip.l1 k s (i : Int)) t := by
  have hl := size_list s
  unfold small at hs
  induction d with
  | zero =>
    intro i hi h
    rw [List.drop_eq_nil_of_le (by omega)] at h
    refine Ev.step (fun k => by rw [donatusref4_skip.l1]) (ev_neg (by omega) ?_)
    exact h
  | succ d ih =>
    intro i hi h
    have hlt : i < s.data.toList.length := by omega
    refine Ev.step (fun k => by rw [donatusref4_skip.l1]) (ev_pos (by omega) (ev_pos (by omega) ?_))
    rw [bt_at s i hlt, w1 (by omega)]
    rw [List.drop_eq_getElem_cons hlt] at h
    have hn := ih (i + 1) (by omega)
    generalize s.data.toList[i] = c at h ⊢
    unfold lineL at h hn
    rw [List.takeWhile_cons] at h
    by_cases hc : (c.toNat : Int) = 10
    · refine ev_pos hc ?_
      have : c = 10 := (nat_byte (n := 10) (by decide)).1 hc
      subst this
      simp only [bne_self_eq_false, Bool.false_eq_true, if_false, List.length_nil, Nat.add_zero] at h
      exact h
    · refine ev_neg hc ?_
      have : c ≠ 10 := fun h => hc ((nat_byte (n := 10) (by decide)).2 h)
      have h2 : (c != 10) = true := by simp [this]
      rw [h2] at h
      simp only [if_true, List.length_cons] at h
      exact hn (by rw [show i + 1 + (List.takeWhile (fun b => b != 10) (List.drop (i + 1) s.data.toList)).length = i + ((List.takeWhile (fun b => b != 10) (List.drop (i + 1) s.data.toList)).length + 1) by omega]; exact h)
/-- One step of the reference's skip. -/
theorem skip_step (s : ByteArray) (hs : small s) (i : Nat) (hi : i < s.size) (t : Int)
    (h0 : blankL (s.data.toList.drop i) = 0 → t = i) (h1 : 0 < blankL (s.data.toList.drop i) → Ev (fun k => donatusref4_skip.l0 k s ((i + blankL (s.data.toList.drop i) : Nat) : Int)) t) :
    Ev (fun k => donatusref4_skip.l0 k s (i : Int)) t := by
  have hl := size_list s
  have hs' := hs
  unfold small at hs
  have hlt : i < s.data.toList.length := by omega
  have hd : s.data.toList.drop i = s.data.toList[i] :: s.data.toList.drop (i + 1) := List.drop_eq_getElem_cons hlt
  have hline := ref_line s hs' t (s.size - i) i (by omega)
  refine Ev.step (fun k => by rw [donatusref4_skip.l0]) (ev_pos (by omega) (ev_pos (by omega) ?_))
  rw [bt_at s i hlt]
  rw [hd] at h0 h1 hline
  have hbt : bt s (i : Int) = (s.data.toList[i].toNat : Int) := bt_at s i hlt
  generalize s.data.toList[i] = c at h0 h1 hline hbt ⊢
  have eB : blankL (c :: s.data.toList.drop (i + 1)) = if (c == 32 || c == 9 || c == 10) = true then 1 else if (c == 47 && (s.data.toList.drop (i + 1)).head? == some 47) = true then lineL (c :: s.data.toList.drop (i + 1)) else 0 := rfl
  rw [eB] at h0 h1
  have go : (c == 32 || c == 9 || c == 10) = true → Ev (fun k => donatusref4_skip.j1 k s (i : Int) true) t := by
    intro h
    rw [if_pos h] at h1
    refine Ev.step (fun k => by rw [donatusref4_skip.j1]) (ev_pos rfl ?_)
    rw [w1 (by omega)]
    exact h1 (by omega)
  have no2 : ¬ (c == 32 || c == 9 || c == 10) = true → ∀ b : Bool, b = (c == 47 && (s.data.toList.drop (i + 1)).head? == some 47) → Ev (fun k => donatusref4_skip.j2 k s (i : Int) b) t := by
    intro h b hb
    rw [if_neg h] at h0 h1
    refine Ev.step (fun k => by rw [donatusref4_skip.j2]) ?_
    subst hb
    by_cases h3 : (c == 47 && (s.data.toList.drop (i + 1)).head? == some 47) = true
    · rw [if_pos h3] at h1
      exact ev_pos h3 (hline (h1 (line_pos h3)))
    · rw [if_neg h3] at h0
      exact ev_neg h3 (ev_now (h0 rfl).symm)
  have no : ¬ (c == 32 || c == 9 || c == 10) = true → Ev (fun k => donatusref4_skip.j1 k s (i : Int) false) t := by
    intro h
    have n2 := no2 h
    refine Ev.step (fun k => by rw [donatusref4_skip.j1]) (ev_neg (by decide) (ev_pos (by omega) (ev_pos (by omega) ?_)))
    rw [hbt, w1 (by omega)]
    by_cases h47 : (c.toNat : Int) = 47
    · have : c = 47 := (nat_byte (n := 47) (by decide)).1 h47
      subst this
      refine ev_pos h47 ?_
      by_cases hj : i + 1 < s.size
      · refine ev_pos (by omega) (ev_pos (by omega) ?_)
        have hjl : i + 1 < s.data.toList.length := by omega
        rw [bt_at s (i + 1) hjl]
        refine n2 _ ?_
        rw [head_drop _ _ hjl]
        generalize s.data.toList[i + 1] = c2
        rw [Bool.eq_iff_iff, beq_iff_eq, Bool.and_eq_true, beq_iff_eq, beq_iff_eq, Option.some.injEq]
        exact ⟨fun h => ⟨rfl, (nat_byte (n := 47) (by decide)).1 h⟩, fun h => (nat_byte (n := 47) (by decide)).2 h.2⟩
      · refine ev_neg (by omega) (n2 _ ?_)
        rw [List.drop_eq_nil_of_le (by omega)]
        rfl
    · refine ev_neg h47 (n2 _ ?_)
      have : c ≠ 47 := fun h => h47 ((nat_byte (n := 47) (by decide)).2 h)
      have : (c == 47) = false := by simp [this]
      rw [this]
      rfl
  by_cases h32 : (c.toNat : Int) = 32
  · refine ev_pos h32 (go ?_)
    rw [(nat_byte (n := 32) (by decide)).1 h32]
    rfl
  refine ev_neg h32 ?_
  by_cases h9 : (c.toNat : Int) = 9
  · refine ev_pos h9 (go ?_)
    rw [(nat_byte (n := 9) (by decide)).1 h9]
    rfl
  refine ev_neg h9 ?_
  by_cases h10 : (c.toNat : Int) = 10
  · rw [show ((c.toNat : Int) == 10) = true by rw [h10]; rfl]
    refine go ?_
    rw [(nat_byte (n := 10) (by decide)).1 h10]
    rfl
  · rw [show ((c.toNat : Int) == 10) = false by simpa using h10]
    refine no ?_
    have a1 : c ≠ 32 := fun h => h32 ((nat_byte (n := 32) (by decide)).2 h)
    have a2 : c ≠ 9 := fun h => h9 ((nat_byte (n := 9) (by decide)).2 h)
    have a3 : c ≠ 10 := fun h => h10 ((nat_byte (n := 10) (by decide)).2 h)
    simp [a1, a2, a3]
theorem blank_drop_le (s : ByteArray) (i : Nat) (hi : i ≤ s.size) : i + blankL (s.data.toList.drop i) ≤ s.size := by
  have := blankL_le (s.data.toList.drop i)
  have hl := size_list s
  rw [List.length_drop] at this
  omega
theorem skip_ends (s : ByteArray) (hs : small s) (d : Nat) : ∀ i : Nat, i ≤ s.size → s.size - i ≤ d → ∃ j : Nat, Ev (fun k => donatusref4_skip.l0 k s (i : Int)) (j : Int) := by
  have hl := size_list s
  induction d with
  | zero =>
    intro i hi hd
    exact ⟨i, Ev.step (fun k => by rw [donatusref4_skip.l0]) (ev_neg (by omega) (ev_now rfl))⟩
  | succ d ih =>
    intro i hi hd
    by_cases h : i < s.size
    · have hb := blank_drop_le s i hi
      by_cases h0 : blankL (s.data.toList.drop i) = 0
      · exact ⟨i, skip_step s hs i h _ (fun _ => rfl) (fun h => by omega)⟩
      · obtain ⟨j, hj⟩ := ih (i + blankL (s.data.toList.drop i)) (by omega) (by omega)
        exact ⟨j, skip_step s hs i h _ (fun h => by omega) (fun _ => hj)⟩
    · exact ⟨i, Ev.step (fun k => by rw [donatusref4_skip.l0]) (ev_neg (by omega) (ev_now rfl))⟩

/-! ### Words -/
theorem keyB_take (r : List UInt8) : r.take (runB partB r) = r.takeWhile fun b => partB (b.toNat : Int) := by
  unfold runB
  induction r with
  | nil => rfl
  | cons c r ih =>
    rw [List.takeWhile_cons]
    split
    · rw [List.length_cons, List.take_succ_cons, ih]
    · rfl
/-- The reference's search among its keys. -/
theorem ref_keys_ev (s : ByteArray) (i e : Nat) (hi : i + 1 ≤ e) (he : e ≤ s.size) (hs : small s) (ks : List ByteArray) (hk : ks.length ≤ 1000) (d : Nat) : ∀ j : Nat, j + d = ks.length →
    Ev (fun k => donatusref4_key.l0 k s (i : Int) (e : Int) ks (j : Int)) (if ((ks.drop j).any fun k => (s.data.toList.drop (i + 1)).take (e - (i + 1)) == k.data.toList) = true then (e : Int) else -1) := by
  unfold small at hs
  induction d with
  | zero =>
    intro j hj
    rw [List.drop_eq_nil_of_le (by omega)]
    refine Ev.step (fun k => by rw [donatusref4_key.l0]) (ev_neg (by omega) ?_)
    exact ev_now rfl
  | succ d ih =>
    intro j hj
    have hjl : j < ks.length := by omega
    have hn := ih (j + 1) (by omega)
    refine Ev.step (fun k => by rw [donatusref4_key.l0]) (ev_pos (by omega) ?_)
    rw [w1 (by omega)]
    refine ev_pos (by omega) (ev_pos (by omega) (ev_pos (by omega) (ev_pos (by omega) ?_)))
    rw [w1 (by omega), List.drop_eq_getElem_cons hjl, List.any_cons]
    have h1 : rdOf ByteArray.empty ks (j : Int) = ks[j] := by unfold rdOf; rw [Int.toNat_natCast, List.getD_eq_getElem?_getD, List.getElem?_eq_getElem hjl]; rfl
    rw [h1, Lib.toList_data, Lib.toList_data, Lib.extract_data, Int.toNat_natCast, Int.toNat_natCast]
    by_cases h : (s.data.toList.drop (i + 1)).take (e - (i + 1)) = ks[j].data.toList
    · refine ev_pos h (ev_now ?_)
      rw [h]
      simp
    · refine ev_neg h ?_
      have : ((s.data.toList.drop (i + 1)).take (e - (i + 1)) == ks[j].data.toList) = false := beq_eq_false_iff_ne.2 h
      rw [this, Bool.false_or]
      exact hn
theorem any_map {α β : Type} (f : α → β) (p : β → Bool) (l : List α) : (l.map f).any p = l.any fun a => p (f a) := by
  induction l with
  | nil => rfl
  | cons a l ih => rw [List.map_cons, List.any_cons, List.any_cons, ih]
theorem refKeys : donatusref4_keys.f = some (keys.map fun k => (⟨⟨k⟩⟩ : ByteArray)) := rfl
theorem keys_len (f : List UInt8 → ByteArray) : (keys.map f).length = 7 := rfl
theorem ref_key_ev (s : ByteArray) (hs : small s) (i : Nat) (hi : i < s.size) :
    Ev (fun k => donatusref4_key.f k s (i : Int)) (if (keyL (s.data.toList.drop (i + 1))).2 = 0 then -1 else ((i + (keyL (s.data.toList.drop (i + 1))).2 : Nat) : Int)) := by
  have hl := size_list s
  have hs' := hs
  unfold small at hs
  have no : ¬ (s.data.toList.drop (i + 1)).head? = some 37 → Ev (fun k => donatusref4_key.j0 k s (i : Int) false) (if (keyL (s.data.toList.drop (i + 1))).2 = 0 then -1 else ((i + (keyL (s.data.toList.drop (i + 1))).2 : Nat) : Int)) := by
    intro h
    refine Ev.step (fun k => by rw [donatusref4_key.j0]) (ev_neg (by decide) ?_)
    rw [w1 (by omega), refKeys]
    refine Ev.bind (ref_run s hs' (s.size - (i + 1)) (i + 1) (by omega)) (Ev.bind (Ev.now _) ?_)
    have hle := runB_le partB (s.data.toList.drop (i + 1))
    rw [List.length_drop] at hle
    have := ref_keys_ev s i (i + 1 + runB partB (s.data.toList.drop (i + 1))) (by omega) (by omega) hs' (keys.map fun k => (⟨⟨k⟩⟩ : ByteArray)) (by rw [keys_len]; omega) 7 0 (by rw [keys_len])
    rw [List.drop_zero, any_map, Nat.add_sub_cancel_left] at this
    unfold keyL
    rw [if_neg h]
    by_cases hk : (keys.any fun k => (s.data.toList.drop (i + 1)).take (runB partB (s.data.toList.drop (i + 1))) == k) = true
    · rw [if_pos hk] at this ⊢
      rw [if_neg (by show ¬ (1 + _ = 0); omega)]
      rw [show i + ((4 : Int), 1 + runB partB (s.data.toList.drop (i + 1))).snd = i + 1 + runB partB (s.data.toList.drop (i + 1)) by show i + (1 + _) = _; omega]
      exact this
    · rw [if_neg hk] at this ⊢
      exact this
  have yes : (s.data.toList.drop (i + 1)).head? = some 37 → Ev (fun k => donatusref4_key.j0 k s (i : Int) true) (if (keyL (s.data.toList.drop (i + 1))).2 = 0 then -1 else ((i + (keyL (s.data.toList.drop (i + 1))).2 : Nat) : Int)) := by
    intro h
    unfold keyL
    rw [if_pos h]
    refine Ev.step (fun k => by rw [donatusref4_key.j0]) (ev_pos rfl (ev_now ?_))
    rw [if_neg (by decide)]
    unfold wrap64
    omega
  unfold donatusref4_key.f
  rw [w1 (by omega)]
  by_cases hj : i + 1 < s.size
  · refine ev_pos (by omega) (ev_pos (by omega) ?_)
    have hjl : i + 1 < s.data.toList.length := by omega
    rw [bt_at s (i + 1) hjl]
    rw [head_drop _ _ hjl] at yes no
    generalize s.data.toList[i + 1] = c at yes no ⊢
    by_cases h37 : (c.toNat : Int) = 37
    · rw [show ((c.toNat : Int) == 37) = true by simpa using h37]
      exact yes (by rw [(nat_byte (n := 37) (by decide)).1 h37]; rfl)
    · rw [show ((c.toNat : Int) == 37) = false by simpa using h37]
      refine no fun h => h37 ?_
      rw [Option.some.injEq] at h
      exact (nat_byte (n := 37) (by decide)).2 h
  · refine ev_neg (by omega) (no ?_)
    rw [List.drop_eq_nil_of_le (by omega)]
    decide

theorem lex_run_digit (s : ByteArray) (hs : small s) : lex_run.f s (Value.func (.func 20) #[] #[]) = some (runB digitB s.data.toList : Int) := by
  unfold small at hs
  show (if s.size ≤ 9223372036854775806 then _ else _) = _
  rw [if_pos (by omega)]
  rfl
theorem lex_run_part (s : ByteArray) (hs : small s) : lex_run.f s (Value.func (.func 14) #[] #[]) = some (runB partB s.data.toList : Int) := by
  unfold small at hs
  show (if s.size ≤ 9223372036854775806 then _ else _) = _
  rw [if_pos (by omega)]
  rfl
theorem lex_number_eq (s : ByteArray) (hs : small s) (h : 0 < s.size) : lex_number.f s = some ((numL s.data.toList).1, ((numL s.data.toList).2 : Int)) := by
  have hl := size_list s
  have hle := runB_le digitB s.data.toList
  unfold lex_number.f
  rw [lex_run_digit s hs]
  unfold numL
  simp only [Option.bind_some]
  generalize runB digitB s.data.toList = n at hle ⊢
  have hlett : (if (n : Int) < (s.size : Int) then (if (0 : Int) ≤ (n : Int) then ((lex_letter.f (bt s (n : Int))).bind fun t111 => (if t111 = true then (some ((0, 0) : Int × Int)) else (some (2, (n : Int))))) else (none)) else (some (2, (n : Int)))) =
      some (if (((s.data.toList[n]?).map fun c => letterB (c.toNat : Int)) == some true) = true then (0, 0) else (2, (n : Int))) := by
    by_cases hn : n < s.size
    · have hnl : n < s.data.toList.length := by omega
      rw [if_pos (by omega), if_pos (by omega), bt_at s n hnl, letter_eq, List.getElem?_eq_getElem hnl]
      simp only [Option.bind_some, Option.map_some]
      by_cases hb : letterB (s.data.toList[n].toNat : Int) = true
      · rw [if_pos hb, if_pos (by rw [hb]; rfl)]
      · rw [if_neg hb, if_neg (by rw [Bool.not_eq_true] at hb; rw [hb]; decide)]
    · rw [if_neg (by omega), List.getElem?_eq_none (by omega)]
      rfl
  by_cases h4 : n > 4
  · rw [if_pos (by omega), decide_eq_true h4]
    rfl
  rw [if_neg (by omega), decide_eq_false h4, Bool.false_or, hlett]
  cases e : s.data.toList with
  | nil => rw [e] at hl; simp at hl; omega
  | cons c r =>
    rw [at_zero s e]
    by_cases h1 : n > 1
    · rw [if_pos (by omega), if_pos (by omega), decide_eq_true h1, Bool.true_and]
      by_cases h48 : (c.toNat : Int) = 48
      · rw [if_pos h48]
        have : c = 48 := (nat_byte (n := 48) (by decide)).1 h48
        subst this
        rfl
      · rw [if_neg h48]
        have hc : c ≠ 48 := fun h => h48 ((nat_byte (n := 48) (by decide)).2 h)
        have : ((c :: r).head? == some 48) = false := by simp [hc]
        rw [this, Bool.false_or]
        split <;> rfl
    · rw [if_neg (by omega), decide_eq_false h1, Bool.false_and, Bool.false_or]
      split <;> rfl
theorem contains_ev (ks : List ByteArray) (x : ByteArray) (hk : ks.length ≤ 1000) (d : Nat) : ∀ j : Nat, j + d = ks.length →
    ∃ r : Int, Ev (fun k => slices_Index_string_string.l0 k ks x (ks.length : Int) (j : Int)) r ∧ (0 ≤ r ↔ ((ks.drop j).any fun k => x.data.toList == k.data.toList) = true) := by
  induction d with
  | zero =>
    intro j hj
    refine ⟨-1, Ev.step (fun k => by rw [slices_Index_string_string.l0]) (ev_neg (by omega) (ev_now rfl)), ?_⟩
    rw [List.drop_eq_nil_of_le (by omega)]
    simp
  | succ d ih =>
    intro j hj
    have hjl : j < ks.length := by omega
    obtain ⟨r, hr, he⟩ := ih (j + 1) (by omega)
    have h1 : rdOf ByteArray.empty ks (j : Int) = ks[j] := by unfold rdOf; rw [Int.toNat_natCast, List.getD_eq_getElem?_getD, List.getElem?_eq_getElem hjl]; rfl
    by_cases h : x.data.toList = ks[j].data.toList
    · refine ⟨j, Ev.step (fun k => by rw [slices_Index_string_string.l0]) (ev_pos (by omega) (ev_pos (by omega) (ev_pos (by omega) ?_))), ?_⟩
      · rw [h1, Lib.toList_data, Lib.toList_data]
        exact ev_pos h (ev_now rfl)
      · rw [List.drop_eq_getElem_cons hjl, List.any_cons, h]
        simp
    · refine ⟨r, Ev.step (fun k => by rw [slices_Index_string_string.l0]) (ev_pos (by omega) (ev_pos (by omega) (ev_pos (by omega) ?_))), ?_⟩
      · rw [h1, Lib.toList_data, Lib.toList_data, w1 (by omega)]
        exact ev_neg h hr
      · rw [List.drop_eq_getElem_cons hjl, List.any_cons, he]
        have : (x.data.toList == ks[j].data.toList) = false := beq_eq_false_iff_ne.2 h
        rw [this, Bool.false_or]
theorem lexKeys : ([(⟨#[37, 116, 111, 107, 101, 110]⟩ : ByteArray), (⟨#[37, 108, 101, 102, 116]⟩ : ByteArray), (⟨#[37, 114, 105, 103, 104, 116]⟩ : ByteArray), (⟨#[37, 110, 111, 110, 97, 115, 115, 111, 99]⟩ : ByteArray), (⟨#[37, 115, 116, 97, 114, 116]⟩ : ByteArray), (⟨#[37, 101, 120, 112, 101, 99, 116]⟩ : ByteArray), (⟨#[37, 112, 114, 101, 99]⟩ : ByteArray)] : List ByteArray) = keys.map fun k => (⟨⟨37 :: k⟩⟩ : ByteArray) := rfl
theorem lex_key_ev (s : ByteArray) (hs : small s) (r : List UInt8) (e : s.data.toList = 37 :: r) : Ev (fun k => lex_key.f k s) ((keyL r).1, ((keyL r).2 : Int)) := by
  have hl := size_list s
  have hs' := hs
  unfold small at hs
  rw [e, List.length_cons] at hl
  unfold lex_key.f
  rw [prefix2 s _ rfl, e, lexKeys]
  have h2 : ((37 :: r).take 2 == [37, 37]) = (r.head? == some 37) := by
    cases r with
    | nil => rfl
    | cons d r => rw [Bool.eq_iff_iff]; simp
  show Ev (fun k => ((some ((37 :: r).take 2 == [37, 37]) : Option Bool).bind _)) _
  rw [h2]
  unfold keyL
  refine Ev.bind (Ev.now _) ?_
  by_cases h : r.head? = some 37
  · rw [if_pos h]
    exact ev_pos (by rw [h]; rfl) (ev_now rfl)
  rw [if_neg h]
  refine ev_neg (by rw [beq_iff_eq]; exact h) (ev_pos (by omega) ?_)
  have ht : (s.extract 1 s.size).data.toList = r := by rw [drop_size, e]; rfl
  have hts : small (s.extract 1 s.size) := by unfold small; rw [← size_list, ht]; omega
  rw [lex_run_part _ hts, ht]
  refine Ev.bind (Ev.now _) ?_
  have hle := runB_le partB r
  have hw : wrap64 (1 + (runB partB r : Int)) = ((1 + runB partB r : Nat) : Int) := by unfold wrap64; omega
  rw [hw]
  refine ev_pos (by omega) (ev_pos (by omega) ?_)
  obtain ⟨x, hx, hiff⟩ := contains_ev (keys.map fun k => (⟨⟨37 :: k⟩⟩ : ByteArray)) (s.extract 0 (1 + runB partB r)) (by rw [keys_len]; omega) 7 0 (by rw [keys_len])
  rw [List.drop_zero, any_map, Lib.extract_data, e, List.drop_zero, Nat.sub_zero, Nat.add_comm, List.take_succ_cons] at hiff
  have hany : (keys.any fun k => (37 :: r.take (runB partB r)) == (37 :: k)) = keys.any fun k => r.take (runB partB r) == k := rfl
  have hiff2 : 0 ≤ x ↔ (keys.any fun k => r.take (runB partB r) == k) = true := by rw [← hany]; exact hiff
  rw [Int.toNat_natCast]
  refine Ev.bind (a := decide (x ≥ 0)) (by unfold slices_Contains_string_string.f slices_Index_string_string.f; exact Ev.bind hx (Ev.now _)) ?_
  by_cases hk : (keys.any fun k => r.take (runB partB r) == k) = true
  · rw [if_pos hk]
    exact ev_pos (by rw [decide_eq_true_eq]; exact hiff2.2 hk) (ev_now rfl)
  · rw [if_neg hk]
    exact ev_neg (by rw [decide_eq_true_eq]; exact fun h => hk (hiff2.1 h)) (ev_now rfl)
theorem wordL_cons (c : UInt8) (r : List UInt8) : wordL (c :: r) = if letterB (c.toNat : Int) = true then (if runB partB (c :: r) > 12 then (0, 0) else (1, runB partB (c :: r)))
    else if digitB (c.toNat : Int) = true then numL (c :: r)
    else if (c.toNat : Int) = 37 then keyL r
    else if (c.toNat : Int) = 58 ∨ (c.toNat : Int) = 124 ∨ (c.toNat : Int) = 59 then (3, 1) else (0, 0) := rfl
theorem lex_word_ev (s : ByteArray) (hs : small s) (h : 0 < s.size) : Ev (fun k => lex_word.f k s) ((wordL s.data.toList).1, ((wordL s.data.toList).2 : Int)) := by
  have hl := size_list s
  have hnum := lex_number_eq s hs h
  have hrun := lex_run_part s hs
  unfold lex_word.f
  refine ev_pos (by omega) ?_
  cases e : s.data.toList with
  | nil => rw [e] at hl; simp at hl; omega
  | cons c r =>
    have hkey : c = 37 → Ev (fun k => lex_key.f k s) ((keyL r).1, ((keyL r).2 : Int)) := fun h => lex_key_ev s hs r (by rw [e, h])
    rw [e] at hnum hrun
    rw [at_zero s e, hnum, hrun, letter_eq, digit_eq, wordL_cons]
    simp only [Option.bind_some]
    by_cases hA : letterB (c.toNat : Int) = true
    · rw [if_pos hA]
      refine ev_pos hA ?_
      by_cases hB : runB partB (c :: r) > 12
      · rw [if_pos hB]; exact ev_pos (by omega) (ev_now rfl)
      · rw [if_neg hB]; exact ev_neg (by omega) (ev_now rfl)
    rw [if_neg hA]
    refine ev_neg hA ?_
    by_cases hB : digitB (c.toNat : Int) = true
    · rw [if_pos hB]
      exact ev_pos hB (ev_now rfl)
    rw [if_neg hB]
    refine ev_neg hB ?_
    by_cases hC : (c.toNat : Int) = 37
    · rw [if_pos hC]
      exact ev_pos hC (Ev.bind (hkey ((nat_byte (n := 37) (by decide)).1 hC)) (ev_now rfl))
    rw [if_neg hC]
    refine ev_neg hC ?_
    by_cases h1 : (c.toNat : Int) = 58
    · rw [if_pos (show (c.toNat : Int) = 58 ∨ (c.toNat : Int) = 124 ∨ (c.toNat : Int) = 59 from .inl h1)]
      exact ev_pos h1 (ev_now rfl)
    refine ev_neg h1 ?_
    by_cases h2 : (c.toNat : Int) = 124
    · rw [if_pos (show (c.toNat : Int) = 58 ∨ (c.toNat : Int) = 124 ∨ (c.toNat : Int) = 59 from .inr (.inl h2))]
      exact ev_pos h2 (ev_now rfl)
    refine ev_neg h2 ?_
    by_cases h3 : (c.toNat : Int) = 59
    · rw [if_pos (show (c.toNat : Int) = 58 ∨ (c.toNat : Int) = 124 ∨ (c.toNat : Int) = 59 from .inr (.inr h3))]
      exact ev_pos h3 (ev_now rfl)
    rw [if_neg (show ¬ ((c.toNat : Int) = 58 ∨ (c.toNat : Int) = 124 ∨ (c.toNat : Int) = 59) by omega)]
    exact ev_neg h3 (ev_now rfl)

/-! ### The two scans -/
theorem ws {a b : Nat} (h : a + b ≤ 2000000000) : wrap64 ((a : Int) + (b : Int)) = ((a + b : Nat) : Int) := by unfold wrap64; omega
theorem wd {a b : Nat} (h : a ≤ b) (h2 : b ≤ 2000000000) : wrap64 ((b : Int) - (a : Int)) = ((b - a : Nat) : Int) := by unfold wrap64; omega
theorem numL_pos {l : List UInt8} (h : (numL l).2 ≠ 0) : (numL l).2 = runB digitB l := by
  unfold numL at h ⊢
  simp only at h ⊢
  split at h
  · exact absurd rfl h
  · rename_i h2
    rw [if_neg h2]
theorem numL_zero {l : List UInt8} (h : (numL l).2 = 0) (hr : runB digitB l ≠ 0) : (numL l).1 = 0 := by
  unfold numL at h ⊢
  simp only at h ⊢
  split at h
  · rename_i h2
    rw [if_pos h2]
  · exact absurd h hr
theorem numL_two {l : List UInt8} (h : (numL l).2 ≠ 0) : (numL l).1 = 2 := by
  unfold numL at h ⊢
  simp only at h ⊢
  split at h
  · exact absurd rfl h
  · rename_i h2
    rw [if_neg h2]
theorem keyL_four {l : List UInt8} (h : (keyL l).2 ≠ 0) : (keyL l).1 = 4 := by
  unfold keyL at h ⊢
  split at h
  · rename_i h2
    rw [if_pos h2]
  · rename_i h2
    rw [if_neg h2]
    split at h
    · rename_i h3
      rw [if_pos h3]
    · exact absurd rfl h
theorem keyL_le (r : List UInt8) : (keyL r).2 ≤ r.length + 1 := by
  have h3 := runB_le partB r
  unfold keyL
  by_cases hD : r.head? = some 37
  · rw [if_pos hD]
    cases r with
    | nil => cases hD
    | cons d r => show 2 ≤ (d :: r).length + 1; rw [List.length_cons]; omega
  · rw [if_neg hD]
    split
    · show 1 + runB partB r ≤ _; omega
    · exact Nat.zero_le _
theorem scans (s : ByteArray) (hs : small s) (d : Nat) : ∀ (i : Nat) (l : List S30), i ≤ s.size → s.size - i ≤ d → l.length ≤ i →
    ∃ r, r.1.length ≤ s.size + 1 ∧ Ev (fun k => lex_Scan.l0 k s l (i : Int)) r ∧ Ev (fun k => (donatusref4_skip.f k s (i : Int)).bind fun t => donatusref4_Scan.l0 k s l t) r := by
  have hl := size_list s
  have hs' := hs
  unfold small at hs
  have fin : ∀ (i : Nat) (l : List S30), i = s.size → l.length ≤ i → ∃ r, r.1.length ≤ s.size + 1 ∧ Ev (fun k => lex_Scan.l0 k s l (i : Int)) r ∧ Ev (fun k => (donatusref4_skip.f k s (i : Int)).bind fun t => donatusref4_Scan.l0 k s l t) r := by
    intro i l hi hll
    refine ⟨(l ++ [(⟨5, (⟨#[]⟩ : ByteArray), (s.size : Int)⟩ : S30)], -1), by rw [List.length_append]; show l.length + 1 ≤ _; omega, ?_, ?_⟩
    · exact Ev.step (fun k => by rw [lex_Scan.l0]) (ev_neg (by omega) (ev_pos (by omega) (Ev.now _)))
    · refine Ev.bind (a := (i : Int)) (Ev.step (f := fun _ => some (i : Int)) (fun k => by unfold donatusref4_skip.f; rw [donatusref4_skip.l0, if_neg (by omega)]) (Ev.now _)) ?_
      exact Ev.step (fun k => by rw [donatusref4_Scan.l0]) (ev_neg (by omega) (ev_pos (by omega) (Ev.now _)))
  induction d with
  | zero => intro i l hi hd hll; exact fin i l (by omega) hll
  | succ d ih =>
    intro i l hi hd hll
    by_cases h : i < s.size
    · have hlt : i < s.data.toList.length := by omega
      have ht : (s.extract i s.size).data.toList = s.data.toList.drop i := drop_size s i
      have hts : 0 < (s.extract i s.size).size := by rw [← size_list, ht, List.length_drop]; omega
      have htm : small (s.extract i s.size) := by unfold small; rw [← size_list, ht, List.length_drop]; omega
      have hb := blank_drop_le s i hi
      have hblank := lex_blank_eq _ hts
      have hword := lex_word_ev _ htm hts
      rw [ht] at hblank hword
      by_cases h0 : 0 < blankL (s.data.toList.drop i)
      · obtain ⟨r, hrl, h1, h2⟩ := ih (i + blankL (s.data.toList.drop i)) l (by omega) (by omega) (by omega)
        refine ⟨r, hrl, ?_, ?_⟩
        · refine Ev.step (fun k => by rw [lex_Scan.l0]) (ev_pos (by omega) (ev_pos (by omega) (ev_pos (by omega) ?_)))
          rw [Int.toNat_natCast, hblank]
          refine Ev.bind (Ev.now _) (ev_pos (by omega) ?_)
          rw [ws (by omega)]
          exact h1
        · obtain ⟨j, hj⟩ := skip_ends s hs' (s.size) (i + blankL (s.data.toList.drop i)) (by omega) (by omega)
          have h3 := ev_unbind hj h2
          exact Ev.bind (skip_step s hs' i h j (fun h => by omega) (fun _ => hj)) h3
      · have h0 : blankL (s.data.toList.drop i) = 0 := by omega
        have hskip : Ev (fun k => donatusref4_skip.f k s (i : Int)) (i : Int) := skip_step s hs' i h i (fun _ => rfl) (fun h => by omega)
        have hwle := wordL_le (s.data.toList.drop i)
        rw [List.length_drop] at hwle
        -- lex's step
        have lexFault : (wordL (s.data.toList.drop i)).2 = 0 → Ev (fun k => lex_Scan.l0 k s l (i : Int)) (([] : List S30), (i : Int)) := by
          intro hz
          refine Ev.step (fun k => by rw [lex_Scan.l0]) (ev_pos (by omega) (ev_pos (by omega) (ev_pos (by omega) ?_)))
          rw [Int.toNat_natCast, hblank]
          refine Ev.bind (Ev.now _) (ev_neg (by omega) (Ev.bind hword ?_))
          exact ev_pos (by show ((wordL _).2 : Int) = 0; omega) (Ev.now _)
        have lexGoes : (wordL (s.data.toList.drop i)).2 ≠ 0 → ∀ r, Ev (fun k => lex_Scan.l0 k s (l ++ [(⟨(wordL (s.data.toList.drop i)).1, s.extract i (i + (wordL (s.data.toList.drop i)).2), (i : Int)⟩ : S30)]) ((i + (wordL (s.data.toList.drop i)).2 : Nat) : Int)) r → Ev (fun k => lex_Scan.l0 k s l (i : Int)) r := by
          intro hz r hr
          refine Ev.step (fun k => by rw [lex_Scan.l0]) (ev_pos (by omega) (ev_pos (by omega) (ev_pos (by omega) ?_)))
          rw [Int.toNat_natCast, hblank]
          refine Ev.bind (Ev.now _) (ev_neg (by omega) (Ev.bind hword ?_))
          refine ev_neg (by show ¬ ((wordL _).2 : Int) = 0; omega) ?_
          simp only
          rw [ws (by omega)]
          refine ev_pos (by omega) (ev_pos (by omega) (ev_pos (by omega) ?_))
          rw [Int.toNat_natCast]
          exact hr
        -- both go on
        have both : ∀ (kd : Int) (n : Nat), wordL (s.data.toList.drop i) = (kd, n) → n ≠ 0 →
            ((∀ r, Ev (fun k => (donatusref4_skip.f k s ((i + n : Nat) : Int)).bind fun t => donatusref4_Scan.l0 k s (l ++ [(⟨kd, s.extract i (i + n), (i : Int)⟩ : S30)]) t) r → Ev (fun k => donatusref4_Scan.l0 k s l (i : Int)) r)) →
            ∃ r, r.1.length ≤ s.size + 1 ∧ Ev (fun k => lex_Scan.l0 k s l (i : Int)) r ∧ Ev (fun k => (donatusref4_skip.f k s (i : Int)).bind fun t => donatusref4_Scan.l0 k s l t) r := by
          intro kd n hw hn href
          rw [hw] at lexGoes hwle
          have hwle : n ≤ s.size - i := by simp only at hwle; omega
          obtain ⟨r, hrl, h1, h2⟩ := ih (i + n) (l ++ [(⟨kd, s.extract i (i + n), (i : Int)⟩ : S30)]) (by omega) (by omega) (by rw [List.length_append]; simp; omega)
          exact ⟨r, hrl, lexGoes hn r h1, Ev.bind hskip (href r h2)⟩
        have fault : (wordL (s.data.toList.drop i)).2 = 0 → Ev (fun k => donatusref4_Scan.l0 k s l (i : Int)) (([] : List S30), (i : Int)) →
            ∃ r, r.1.length ≤ s.size + 1 ∧ Ev (fun k => lex_Scan.l0 k s l (i : Int)) r ∧ Ev (fun k => (donatusref4_skip.f k s (i : Int)).bind fun t => donatusref4_Scan.l0 k s l t) r :=
          fun hz hr => ⟨_, Nat.zero_le _, lexFault hz, Ev.bind hskip hr⟩
        clear lexFault lexGoes hword hblank ih hskip
        have hbt := bt_at s i hlt
        have hrun := ref_run s hs' (s.size - i) i (by omega)
        have hnum := ref_number s hs' i h (s.size - i) i (by omega) (Nat.le_refl _) (by omega)
        have hkey := ref_key_ev s hs' i h
        have hrle := runB_le partB (s.data.toList.drop i)
        have hdle := runB_le digitB (s.data.toList.drop i)
        rw [List.length_drop] at hrle hdle
        have ew : wordL (s.data.toList.drop i) = wordL (s.data.toList[i] :: s.data.toList.drop (i + 1)) := by rw [List.drop_eq_getElem_cons hlt]
        rw [wordL_cons, ← List.drop_eq_getElem_cons hlt] at ew
        generalize s.data.toList[i] = c at hbt ew
        by_cases hA : letterB (c.toNat : Int) = true
        · rw [if_pos hA] at ew
          by_cases hB : runB partB (s.data.toList.drop i) > 12
          · rw [if_pos hB] at ew
            refine fault (by rw [ew]) (Ev.step (fun k => by rw [donatusref4_Scan.l0]) (ev_pos (by omega) (ev_pos (by omega) ?_)))
            rw [hbt, ref_letter]
            refine Ev.bind (Ev.now _) (ev_pos hA (Ev.bind hrun ?_))
            rw [wd (by omega) (by omega)]
            exact ev_pos (by omega) (Ev.now _)
          · rw [if_neg hB] at ew
            by_cases hn0 : runB partB (s.data.toList.drop i) = 0
            · exfalso
              rw [List.drop_eq_getElem_cons hlt, runB_cons] at hn0
              have hbt2 := bt_at s i hlt
              rw [hbt] at hbt2
              rw [← hbt2, if_pos (by unfold partB; rw [hA]; rfl)] at hn0
              omega
            refine both _ _ ew hn0 fun r hr => Ev.step (fun k => by rw [donatusref4_Scan.l0]) (ev_pos (by omega) (ev_pos (by omega) ?_))
            rw [hbt, ref_letter]
            refine Ev.bind (Ev.now _) (ev_pos hA (Ev.bind hrun ?_))
            rw [wd (by omega) (by omega)]
            refine ev_neg (by omega) (ev_neg (by omega) (ev_pos (by omega) (ev_pos (by omega) (ev_pos (by omega) ?_))))
            rw [Int.toNat_natCast, Int.toNat_natCast]
            exact hr
        rw [if_neg hA] at ew
        by_cases hB : digitB (c.toNat : Int) = true
        · rw [if_pos hB] at ew
          have hd0 : runB digitB (s.data.toList.drop i) ≠ 0 := by
            intro hn0
            rw [List.drop_eq_getElem_cons hlt, runB_cons] at hn0
            have hbt2 := bt_at s i hlt
            rw [hbt] at hbt2
            rw [← hbt2, if_pos hB] at hn0
            omega
          by_cases hz : (numL (s.data.toList.drop i)).2 = 0
          · refine fault (by rw [ew]; exact hz) (Ev.step (fun k => by rw [donatusref4_Scan.l0]) (ev_pos (by omega) (ev_pos (by omega) ?_)))
            rw [hbt, ref_letter, ref_digit]
            refine Ev.bind (Ev.now _) (ev_neg hA (Ev.bind (Ev.now _) (ev_pos hB (Ev.bind hnum ?_))))
            rw [if_pos ⟨hz, numL_zero hz hd0⟩]
            exact ev_pos (by omega) (Ev.now _)
          · have hn2 := numL_pos hz
            rw [if_neg (fun h => hz h.1)] at hnum
            refine both (numL (s.data.toList.drop i)).1 (numL (s.data.toList.drop i)).2 ew hz fun r hr => Ev.step (fun k => by rw [donatusref4_Scan.l0]) (ev_pos (by omega) (ev_pos (by omega) ?_))
            rw [hn2] at hr
            rw [hbt, ref_letter, ref_digit]
            refine Ev.bind (Ev.now _) (ev_neg hA (Ev.bind (Ev.now _) (ev_pos hB (Ev.bind hnum ?_))))
            refine ev_neg (by omega) (ev_pos (by omega) (ev_pos (by omega) (ev_pos (by omega) ?_)))
            rw [Int.toNat_natCast, Int.toNat_natCast]
            have hk : (numL (s.data.toList.drop i)).1 = 2 := numL_two hz
            rw [hk] at hr
            exact hr
        rw [if_neg hB] at ew
        by_cases hC : (c.toNat : Int) = 37
        · rw [if_pos hC] at ew
          have hkle := keyL_le (s.data.toList.drop (i + 1))
          rw [List.length_drop] at hkle
          by_cases hz : (keyL (s.data.toList.drop (i + 1))).2 = 0
          · refine fault (by rw [ew]; exact hz) (Ev.step (fun k => by rw [donatusref4_Scan.l0]) (ev_pos (by omega) (ev_pos (by omega) ?_)))
            rw [hbt, ref_letter, ref_digit]
            rw [if_pos hz] at hkey
            refine Ev.bind (Ev.now _) (ev_neg hA (Ev.bind (Ev.now _) (ev_neg hB (ev_pos hC (Ev.bind hkey ?_)))))
            exact ev_pos (by omega) (Ev.now _)
          · rw [if_neg hz] at hkey
            refine both (keyL (s.data.toList.drop (i + 1))).1 (keyL (s.data.toList.drop (i + 1))).2 ew hz fun r hr => Ev.step (fun k => by rw [donatusref4_Scan.l0]) (ev_pos (by omega) (ev_pos (by omega) ?_))
            rw [hbt, ref_letter, ref_digit]
            refine Ev.bind (Ev.now _) (ev_neg hA (Ev.bind (Ev.now _) (ev_neg hB (ev_pos hC (Ev.bind hkey ?_)))))
            refine ev_neg (by omega) (ev_pos (by omega) (ev_pos (by omega) (ev_pos (by omega) ?_)))
            rw [Int.toNat_natCast, Int.toNat_natCast]
            have hk : (keyL (s.data.toList.drop (i + 1))).1 = 4 := keyL_four hz
            rw [hk] at hr
            exact hr
        rw [if_neg hC] at ew
        have sign : ∀ r, Ev (fun k => (donatusref4_skip.f k s ((i + 1 : Nat) : Int)).bind fun t => donatusref4_Scan.l0 k s (l ++ [(⟨3, s.extract i (i + 1), (i : Int)⟩ : S30)]) t) r →
            Ev (fun k => donatusref4_Scan.j1 k s l (i : Int) ((i + 1 : Nat) : Int) true 0 (⟨#[]⟩ : ByteArray) (i : Int)) r := by
          intro r hr
          refine Ev.step (fun k => by rw [donatusref4_Scan.j1]) (ev_pos rfl (ev_neg (by omega) (ev_pos (by omega) (ev_pos (by omega) (ev_pos (by omega) (ev_pos (by omega) ?_))))))
          rw [Int.toNat_natCast, Int.toNat_natCast]
          exact hr
        by_cases h1 : (c.toNat : Int) = 58
        · rw [if_pos (show (c.toNat : Int) = 58 ∨ (c.toNat : Int) = 124 ∨ (c.toNat : Int) = 59 from .inl h1)] at ew
          refine both _ _ ew (by decide) fun r hr => Ev.step (fun k => by rw [donatusref4_Scan.l0]) (ev_pos (by omega) (ev_pos (by omega) ?_))
          rw [hbt, ref_letter, ref_digit, w1 (by omega)]
          exact Ev.bind (Ev.now _) (ev_neg hA (Ev.bind (Ev.now _) (ev_neg hB (ev_neg hC (ev_pos h1 (sign r hr))))))
        by_cases h2 : (c.toNat : Int) = 124
        · rw [if_pos (show (c.toNat : Int) = 58 ∨ (c.toNat : Int) = 124 ∨ (c.toNat : Int) = 59 from .inr (.inl h2))] at ew
          refine both _ _ ew (by decide) fun r hr => Ev.step (fun k => by rw [donatusref4_Scan.l0]) (ev_pos (by omega) (ev_pos (by omega) ?_))
          rw [hbt, ref_letter, ref_digit, w1 (by omega)]
          exact Ev.bind (Ev.now _) (ev_neg hA (Ev.bind (Ev.now _) (ev_neg hB (ev_neg hC (ev_neg h1 (ev_pos h2 (sign r hr)))))))
        by_cases h3 : (c.toNat : Int) = 59
        · rw [if_pos (show (c.toNat : Int) = 58 ∨ (c.toNat : Int) = 124 ∨ (c.toNat : Int) = 59 from .inr (.inr h3))] at ew
          refine both _ _ ew (by decide) fun r hr => Ev.step (fun k => by rw [donatusref4_Scan.l0]) (ev_pos (by omega) (ev_pos (by omega) ?_))
          rw [hbt, ref_letter, ref_digit, w1 (by omega), show ((c.toNat : Int) == 59) = true by rw [h3]; rfl]
          exact Ev.bind (Ev.now _) (ev_neg hA (Ev.bind (Ev.now _) (ev_neg hB (ev_neg hC (ev_neg h1 (ev_neg h2 (sign r hr)))))))
        rw [if_neg (show ¬ ((c.toNat : Int) = 58 ∨ (c.toNat : Int) = 124 ∨ (c.toNat : Int) = 59) by omega)] at ew
        refine fault (by rw [ew]) (Ev.step (fun k => by rw [donatusref4_Scan.l0]) (ev_pos (by omega) (ev_pos (by omega) ?_)))
        rw [hbt, ref_letter, ref_digit, w1 (by omega), show ((c.toNat : Int) == 59) = false by simpa using h3]
        refine Ev.bind (Ev.now _) (ev_neg hA (Ev.bind (Ev.now _) (ev_neg hB (ev_neg hC (ev_neg h1 (ev_neg h2 ?_))))))
        refine Ev.step (fun k => by rw [donatusref4_Scan.j1]) (ev_neg (by decide) ?_)
        exact Ev.now _
    · exact fin i l (by omega) hll

theorem scan_same (s : ByteArray) (hs : small s) : ∃ r, r.1.length ≤ s.size + 1 ∧ Ev (fun k => lex_Scan.f k s) r ∧ Ev (fun k => donatusref4_Scan.f k s) r := by
  obtain ⟨r, hrl, h1, h2⟩ := scans s hs s.size 0 [] (Nat.zero_le _) (by omega) (Nat.zero_le _)
  exact ⟨r, hrl, h1, h2⟩

/-! ### Numbers -/
theorem runB_all (p : Int → Bool) : ∀ l : List UInt8, (runB p l == l.length) = l.all fun b => p (b.toNat : Int) := by
  intro l
  induction l with
  | nil => rfl
  | cons c l ih =>
    rw [List.all_cons, ← ih]
    unfold runB
    rw [List.takeWhile_cons]
    cases p (c.toNat : Int) with
    | false => simp
    | true => simp
def digs (n : Nat) : List UInt8 := if n < 10 then [UInt8.ofNat (48 + n)] else digs (n / 10) ++ [UInt8.ofNat (48 + n % 10)]
theorem digs_small {n : Nat} (h : n < 10) : digs n = [UInt8.ofNat (48 + n)] := by rw [digs, if_pos h]
theorem digs_big {n : Nat} (h : ¬ n < 10) : digs n = digs (n / 10) ++ [UInt8.ofNat (48 + n % 10)] := by rw [digs, if_neg h]
theorem byte_nat {m : Nat} (h : m < 256) : (UInt8.ofNat m).toNat = m := by simp [Nat.mod_eq_of_lt h]
theorem digit_byte {m : Nat} (h : m < 10) : digitB ((UInt8.ofNat (48 + m)).toNat : Int) = true := by
  rw [byte_nat (by omega)]
  unfold digitB
  rw [Bool.and_eq_true, decide_eq_true_eq, decide_eq_true_eq]
  omega
theorem digs_digit : ∀ (n : Nat), ∀ b ∈ digs n, digitB (b.toNat : Int) = true := by
  intro n
  induction n using Nat.strongRecOn with
  | _ n ih =>
    intro b hb
    by_cases h : n < 10
    · rw [digs_small h, List.mem_singleton] at hb
      subst hb
      exact digit_byte h
    · rw [digs_big h, List.mem_append, List.mem_singleton] at hb
      rcases hb with hb | rfl
      · exact ih (n / 10) (by omega) b hb
      · exact digit_byte (by omega)
theorem digs_ne (n : Nat) : digs n ≠ [] := by
  by_cases h : n < 10
  · rw [digs_small h]; simp
  · rw [digs_big h]; simp
/-- How long numbers are. -/
theorem digs_len (n : Nat) (h : n ≤ 20000) : ((digs n).length ≤ 4 ↔ n ≤ 9999) ∧ (digs n).length ≤ 5 := by
  have one : ∀ m, m < 10 → (digs m).length = 1 := fun m hm => by rw [digs_small hm]; rfl
  have more : ∀ m, ¬ m < 10 → (digs m).length = (digs (m / 10)).length + 1 := fun m hm => by rw [digs_big hm, List.length_append]; rfl
  by_cases h1 : n < 10
  · rw [one n h1]; omega
  rw [more n h1]
  by_cases h2 : n / 10 < 10
  · rw [one _ h2]; omega
  rw [more _ h2]
  by_cases h3 : n / 10 / 10 < 10
  · rw [one _ h3]; omega
  rw [more _ h3]
  by_cases h4 : n / 10 / 10 / 10 < 10
  · rw [one _ h4]; omega
  rw [more _ h4, one _ (by omega)]
  omega
/-- No 0 ahead. -/
theorem digs_head (n : Nat) : 1 ≤ n → (digs n).head? ≠ some 48 := by
  induction n using Nat.strongRecOn with
  | _ n ih =>
    intro h1
    by_cases h : n < 10
    · rw [digs_small h]
      intro e
      have e : UInt8.ofNat (48 + n) = 48 := Option.some.inj e
      have := congrArg UInt8.toNat e
      rw [byte_nat (by omega)] at this
      have h48 : (48 : UInt8).toNat = 48 := rfl
      omega
    · rw [digs_big h]
      have := ih (n / 10) (by omega) (by omega)
      cases e : digs (n / 10) with
      | nil => exact absurd e (digs_ne _)
      | cons c r => rw [e] at this; exact this
theorem digits_ev (n : Nat) : ∀ (t : ByteArray), n + t.size ≤ 1000000 → ∃ s : ByteArray, Ev (fun k => donatusref4_Digits.l0 k (n : Int) t) s ∧ s.data.toList = digs n ++ t.data.toList := by
  induction n using Nat.strongRecOn with
  | _ n ih =>
    intro t ht
    have htl := size_list t
    have hm : Int.tmod (n : Int) 10 = ((n % 10 : Nat) : Int) := rfl
    have hd : Int.tdiv (n : Int) 10 = ((n / 10 : Nat) : Int) := rfl
    have hw : wrap64 (((n / 10 : Nat) : Int)) = ((n / 10 : Nat) : Int) := by unfold wrap64; omega
    have hc : (wrap64 (48 + ((n % 10 : Nat) : Int))) % 256 = ((48 + n % 10 : Nat) : Int) := by unfold wrap64; omega
    have hone : (strOfNums [((48 + n % 10 : Nat) : Int)]).data.toList = [UInt8.ofNat (48 + n % 10)] := by
      rw [strOfNums_data]
      simp only [List.map_cons, List.map_nil, Int.toNat_natCast]
    have hsz : (strOfNums [((48 + n % 10 : Nat) : Int)]).size = 1 := strOfNums_size _
    have happ : (strOfNums [((48 + n % 10 : Nat) : Int)] ++ t).data.toList = UInt8.ofNat (48 + n % 10) :: t.data.toList := by
      rw [ByteArray.data_append, Array.toList_append, hone]
      rfl
    by_cases h : n < 10
    · refine ⟨strOfNums [((48 + n % 10 : Nat) : Int)] ++ t, ?_, ?_⟩
      · refine Ev.step (fun k => by rw [donatusref4_Digits.l0]) ?_
        rw [hm, hd, hw, hc]
        refine Ev.bind (Ev.now _) (ev_pos (by rw [hsz]; omega) (ev_pos (by omega) (Ev.now _)))
      · rw [happ, digs_small h, Nat.mod_eq_of_lt h]
        rfl
    · obtain ⟨s, hs, he⟩ := ih (n / 10) (by omega) (strOfNums [((48 + n % 10 : Nat) : Int)] ++ t) (by rw [← size_list, happ, List.length_cons]; omega)
      refine ⟨s, ?_, ?_⟩
      · refine Ev.step (fun k => by rw [donatusref4_Digits.l0]) ?_
        rw [hm, hd, hw, hc]
        refine Ev.bind (Ev.now _) (ev_pos (by rw [hsz]; omega) (ev_neg (by omega) hs))
      · rw [he, happ, digs_big h, List.append_assoc]
        rfl
theorem runB_digs (n : Nat) : runB digitB (digs n) = (digs n).length := by
  have h := runB_all digitB (digs n)
  have h2 : ((digs n).all fun b => digitB (b.toNat : Int)) = true := List.all_eq_true.2 (digs_digit n)
  rw [h2, beq_iff_eq] at h
  exact h
theorem digit_no_letter {c : Int} (h : digitB c = true) : letterB c = false := by
  unfold digitB at h
  unfold letterB
  rw [Bool.and_eq_true, decide_eq_true_eq, decide_eq_true_eq] at h
  rw [decide_eq_false (show ¬ 97 ≤ c by omega), decide_eq_false (show ¬ 65 ≤ c by omega), decide_eq_false (show ¬ c = 95 by omega)]
  rfl
theorem numL_digs (n : Nat) (h : n ≤ 20000) : numL (digs n) = if n ≤ 9999 then (2, (digs n).length) else (0, 0) := by
  obtain ⟨h4, h5⟩ := digs_len n h
  unfold numL
  rw [runB_digs]
  simp only [List.getElem?_eq_none (Nat.le_refl (digs n).length), Option.map_none]
  have hzero : (decide ((digs n).length > 1) && (digs n).head? == some 48) = false := by
    by_cases h10 : n < 10
    · rw [digs_small h10]; rfl
    · have := digs_head n (by omega)
      rw [beq_eq_false_iff_ne.2 this, Bool.and_false]
  rw [hzero, Bool.or_false]
  by_cases h9 : n ≤ 9999
  · rw [if_pos h9, decide_eq_false (by omega)]
    rfl
  · rw [if_neg h9, decide_eq_true (by omega)]
    rfl
theorem wordL_digs (n : Nat) (h : n ≤ 20000) : wordL (digs n) = if n ≤ 9999 then (2, (digs n).length) else (0, 0) := by
  rw [← numL_digs n h]
  have hd := digs_digit n
  cases e : digs n with
  | nil => exact absurd e (digs_ne n)
  | cons c r =>
    rw [e] at hd
    have hc := hd c (List.mem_cons_self ..)
    rw [wordL_cons, if_neg (by rw [digit_no_letter hc]; decide), if_pos hc]
theorem blank_digs (n : Nat) : blankL (digs n) = 0 := by
  have hd := digs_digit n
  cases e : digs n with
  | nil => exact absurd e (digs_ne n)
  | cons c r =>
    rw [e] at hd
    have hc := hd c (List.mem_cons_self ..)
    unfold digitB at hc
    rw [Bool.and_eq_true, decide_eq_true_eq, decide_eq_true_eq] at hc
    have no : ∀ m : Nat, m < 256 → m < 48 → c ≠ UInt8.ofNat m := fun m hm h48 hc2 => by
      rw [hc2, byte_nat hm] at hc
      omega
    have a1 : (c == 32) = false := beq_eq_false_iff_ne.2 (no 32 (by decide) (by decide))
    have a2 : (c == 9) = false := beq_eq_false_iff_ne.2 (no 9 (by decide) (by decide))
    have a3 : (c == 10) = false := beq_eq_false_iff_ne.2 (no 10 (by decide) (by decide))
    have a4 : (c == 47) = false := beq_eq_false_iff_ne.2 (no 47 (by decide) (by decide))
    show (if (c == 32 || c == 9 || c == 10) = true then 1 else if (c == 47 && r.head? == some 47) = true then lineL (c :: r) else 0) = 0
    rw [a1, a2, a3, a4]
    rfl
/-- lex.Scan of a number's text. -/
theorem lex_number_scan (s : ByteArray) (n : Nat) (h : n ≤ 20000) (e : s.data.toList = digs n) :
    (n ≤ 9999 ∧ Ev (fun k => lex_Scan.f k s) ([(⟨2, s.extract 0 s.size, 0⟩ : S30), ⟨5, (⟨#[]⟩ : ByteArray), (s.size : Int)⟩], -1)) ∨ (¬ n ≤ 9999 ∧ Ev (fun k => lex_Scan.f k s) (([] : List S30), 0)) := by
  have hl := size_list s
  have h5 := (digs_len n h).2
  have hne : 0 < (digs n).length := List.length_pos_iff.2 (digs_ne n)
  rw [e] at hl
  have hall : s.extract (0 : Int).toNat s.size = s.extract 0 s.size := rfl
  have hd : (s.extract 0 s.size).data.toList = digs n := by rw [drop_size, e]; rfl
  have hsz : (s.extract 0 s.size).size = s.size := by rw [← size_list, hd, hl]
  have hsm : small (s.extract 0 s.size) := by unfold small; omega
  have hb := lex_blank_eq (s.extract 0 s.size) (by omega)
  have hw := lex_word_ev (s.extract 0 s.size) hsm (by omega)
  rw [hd, blank_digs] at hb
  rw [hd, wordL_digs n h] at hw
  unfold lex_Scan.f
  by_cases h9 : n ≤ 9999
  · rw [if_pos h9] at hw
    refine .inl ⟨h9, Ev.step (fun k => by rw [lex_Scan.l0]) (ev_pos (by omega) (ev_pos (by omega) (ev_pos (by omega) ?_)))⟩
    rw [hall, hb]
    refine Ev.bind (Ev.now _) (ev_neg (by decide) (Ev.bind hw (ev_neg ?_ ?_)))
    · show ¬ ((digs n).length : Int) = 0
      omega
    have hws : wrap64 (0 + ((2 : Int), ((digs n).length : Int)).2) = (s.size : Int) := by show wrap64 (0 + ((digs n).length : Int)) = _; unfold wrap64; omega
    rw [hws]
    refine ev_pos (by omega) (ev_pos (by omega) (ev_pos (by show (0 : Nat) < _; omega) ?_))
    refine Ev.step (fun k => by rw [lex_Scan.l0]) (ev_neg (by omega) (ev_pos (by show (1 : Nat) < _; omega) ?_))
    exact Ev.now _
  · rw [if_neg h9] at hw
    refine .inr ⟨h9, Ev.step (fun k => by rw [lex_Scan.l0]) (ev_pos (by omega) (ev_pos (by omega) (ev_pos (by omega) ?_)))⟩
    rw [hall, hb]
    refine Ev.bind (Ev.now _) (ev_neg (by decide) (Ev.bind hw (ev_pos rfl ?_)))
    exact Ev.now _

/-! ### The law -/
theorem same_l0 (l : List S30) (hl : l.length ≤ 1000000000) (d : Nat) : ∀ i : Nat, i + d = l.length → Ev (fun k => donatuslaw4_same.l0 k l l (i : Int)) true := by
  induction d with
  | zero =>
    intro i hi
    exact Ev.step (fun k => by rw [donatuslaw4_same.l0]) (ev_neg (by omega) (Ev.now _))
  | succ d ih =>
    intro i hi
    refine Ev.step (fun k => by rw [donatuslaw4_same.l0]) (ev_pos (by omega) (ev_pos (by omega) (ev_pos (by omega) (ev_pos rfl (ev_pos rfl (ev_pos rfl ?_))))))
    rw [w1 (by omega)]
    exact ih (i + 1) (by omega)
theorem same_ev (s : ByteArray) (hs : s.size ≤ 1000000) : Ev (fun k => donatuslaw4_same.f k s) true := by
  obtain ⟨r, hrl, h1, h2⟩ := scan_same s (by unfold small; omega)
  unfold donatuslaw4_same.f
  refine Ev.bind h1 (Ev.bind h2 (ev_pos rfl ?_))
  have : ((r.1.length : Int) != (r.1.length : Int)) = false := by simp
  rw [this]
  refine Ev.step (fun k => by rw [donatuslaw4_same.j0]) (ev_neg (by decide) ?_)
  exact same_l0 r.1 (by omega) r.1.length 0 (by omega)
theorem begun : donatuslaw4_begun.f 100 = some true := by decide +kernel
theorem begun_ev : Ev (fun k => donatuslaw4_begun.f k) true := Ev.of (fun k => donatuslaw4_begun.mono k) begun
theorem cut_some (s : ByteArray) (n : Nat) : ∃ t : ByteArray, donatuslaw1_Cut.f s (n : Int) = some t ∧ t.size ≤ n := by
  have hl := size_list s
  unfold donatuslaw1_Cut.f
  by_cases h : (s.size : Int) > n
  · refine ⟨s.extract 0 n, ?_, ?_⟩
    · rw [if_pos h, if_pos (by omega), if_pos (by omega), Int.toNat_natCast]
    · rw [← size_list, Lib.extract_data, List.length_take, List.length_drop]
      omega
  · exact ⟨s, by rw [if_neg h], by omega⟩
theorem LexNumbers : donatuslaw4_LexNumbers.Pure := by
  intro n more hn hm
  obtain ⟨t, ht, htz⟩ := cut_some more 3
  have ht : donatuslaw1_Cut.f more 3 = some t := ht
  have main : ∀ b : Bool, (b = false → 0 ≤ n ∧ n ≤ 20000) → Ev (fun k => donatuslaw4_LexNumbers.j0 k n more b) true := by
    intro b hb
    refine Ev.step (fun k => by rw [donatuslaw4_LexNumbers.j0]) ?_
    cases b with
    | true => exact ev_pos rfl (Ev.now _)
    | false =>
      obtain ⟨h0, h1⟩ := hb rfl
      obtain ⟨m, rfl⟩ : ∃ m : Nat, n = (m : Int) := ⟨n.toNat, by omega⟩
      have hm2 : m ≤ 20000 := by omega
      obtain ⟨s, hs, he⟩ := digits_ev m ⟨#[]⟩ (by show m + 0 ≤ _; omega)
      have he : s.data.toList = digs m := by rw [he]; exact List.append_nil _
      have hl := size_list s
      have h5 := (digs_len m hm2).2
      rw [he] at hl
      have z1 : ((⟨#[48]⟩ : ByteArray) ++ s).size = 1 + s.size := by rw [ByteArray.size_append]; rfl
      have z2 : (s ++ t).size = s.size + t.size := ByteArray.size_append
      have same1 := same_ev ((⟨#[48]⟩ : ByteArray) ++ s) (by omega)
      have same2 := same_ev (s ++ t) (by omega)
      refine ev_neg (by decide) ?_
      rw [ht]
      refine Ev.bind (Ev.now t) (Ev.bind hs ?_)
      have rest : Ev (fun k => (if 1 + s.size ≤ 9223372036854775807 then ((donatuslaw4_same.f k ((⟨#[48]⟩ : ByteArray) ++ s)).bind fun t233 => (if t233 = true then (if s.size + t.size ≤ 9223372036854775807 then ((donatuslaw4_same.f k (s ++ t)).bind fun t234 => (some t234)) else (none)) else (some false))) else (none))) true :=
        ev_pos (by omega) (Ev.bind same1 (ev_pos rfl (ev_pos (by omega) (Ev.bind same2 (Ev.now _)))))
      rcases lex_number_scan s m hm2 he with ⟨h9, hscan⟩ | ⟨h9, hscan⟩
      · refine Ev.bind hscan (ev_pos rfl (ev_pos (by omega) (ev_neg (by show ¬ ((-1 : Int) = 0); decide) (ev_pos rfl (ev_pos (by show (0 : Int) < ((2 : Nat) : Int); decide) (ev_pos ?_ rest))))))
        show (s.extract 0 s.size).toList = s.toList
        rw [Lib.toList_data, Lib.toList_data, drop_size]
        rfl
      · exact Ev.bind hscan (ev_neg (by show ¬ ((0 : Int) = -1); decide) (ev_neg (by omega) (ev_pos rfl rest)))
  have : Ev (fun k => donatuslaw4_LexNumbers.f k n more) true := by
    unfold donatuslaw4_LexNumbers.f
    refine Ev.bind begun_ev (ev_pos rfl ?_)
    by_cases h : n < 0
    · exact ev_pos h (main true (fun h => by cases h))
    · exact ev_neg h (main _ (fun h2 => by simp at h2; omega))
  exact this.rounds

end Go.Proofs.Ytklbcmmohcenmaa.Pure
