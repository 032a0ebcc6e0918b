/- may: the program's names: lex.letter, digit, part, run, Name; gram.or, gram.token. -/
import Derived.Test.YtjhemobplcelbaaGreatDoorOfM
namespace Go.Proofs.YtjhemobplcelbaaGreatDoor.M
open Go.RowKit Go.Proofs.YtjhemobplcelbaaGreatDoorW.PrintWords Go.Proofs.YtjhemobplcelbaaGreatDoorW.PrintLast Go.Proofs.YtjhemobplcelbaaGreatDoorW.PrintMore
open Go.Proofs.YtjhemobplcelbaaGreatDoor.O (STk SRu kTk kRu zTk zRu kTk_open kRu_open)
set_option linter.unusedVariables false
set_option linter.unusedSimpArgs false
theorem lletter_calls (w : World) (c : Int) : Calls Tryz.prog 93 #[.int .u8 c] w fun e w' => e = .returned (.bool (letterB c)) ∧ w' = w := by
  have H1 : Aside0 (letterB c = (decide (97 ≤ c ∧ c ≤ 122) || decide (65 ≤ c ∧ c ≤ 90) || decide (c = 95))) := ⟨rfl⟩
  generalize letterB c = b at *
  go_enter Tryz.func93, Tryz.ntmps93
  go_wp2_with fail
  all_goals (go_ret; refine ⟨?_, rfl⟩; rw [H1.out]; refine ret_bool ?_; rw [Bool.eq_iff_iff]; simp only [Bool.or_eq_true, decide_eq_true_eq, beq_iff_eq, true_iff, false_iff, Bool.false_eq_true]; omega)
theorem ldigit_calls (w : World) (c : Int) : Calls Tryz.prog 107 #[.int .u8 c] w fun e w' => e = .returned (.bool (digitB c)) ∧ w' = w := by
  have H1 : Aside0 (digitB c = decide (48 ≤ c ∧ c ≤ 57)) := ⟨rfl⟩
  generalize digitB c = b at *
  go_enter Tryz.func107, Tryz.ntmps107
  go_wp2_with fail
  all_goals (go_ret; refine ⟨?_, rfl⟩; rw [H1.out]; refine ret_bool ?_; rw [Bool.eq_iff_iff]; simp only [Bool.or_eq_true, decide_eq_true_eq, beq_iff_eq, true_iff, false_iff, Bool.false_eq_true]; omega)
theorem part_calls (w : World) (c : Int) : Calls Tryz.prog 95 #[.int .u8 c] w fun e w' => e = .returned (.bool (partB c)) ∧ w' = w := by
  have CL := Aside0.mk (lletter_calls w c)
  have CD := Aside0.mk (ldigit_calls w c)
  have HP : Aside0 (partB c = (letterB c || digitB c)) := ⟨rfl⟩
  generalize partB c = b at *
  generalize letterB c = bl at *
  generalize digitB c = bd at *
  go_enter Tryz.func95, Tryz.ntmps95
  cases bl with
  | true =>
    go_wp2_with (first
      | (go_at_call 93; (with_reducible refine Calls.mono CL.out ?_); rintro e w4 ⟨rfl, rfl⟩))
    go_ret
    exact ⟨by rw [HP.out]; rfl, rfl⟩
  | false =>
    go_wp2_with (first
      | (go_at_call 93; (with_reducible refine Calls.mono CL.out ?_); rintro e w4 ⟨rfl, rfl⟩)
      | (go_at_call 107; (with_reducible refine Calls.mono CD.out ?_); rintro e w5 ⟨rfl, rfl⟩))
    go_ret
    exact ⟨by rw [HP.out]; simp, rfl⟩
/-- How many parts of a name stand ahead. -/
def runL (l : List UInt8) : Nat := (l.takeWhile fun b => partB (b.toNat : Int)).length
theorem runL_at (s : ByteArray) (i : Nat) (h : i < s.size) : runL (s.data.toList.drop i) = if partB (s[i].toNat : Int) = true then runL (s.data.toList.drop (i + 1)) + 1 else 0 := by
  have hl := size_list s
  rw [List.drop_eq_getElem_cons (by omega)]
  unfold runL
  rw [List.takeWhile_cons]
  have e : (s.data.toList[i]'(by omega)) = s[i] := rfl
  rw [e]
  cases partB (s[i].toNat : Int) <;> simp
def RnRel (w : World) (s : ByteArray) (kq : Nat) (v : Value) (w' : World) : Prop := ∃ i : Nat, i + kq = s.size ∧ v = .int .i64 (i : Int) ∧ w' = w ∧ runL s.data.toList = i + runL (s.data.toList.drop i)
set_option maxHeartbeats 4000000 in
theorem run_calls (s : ByteArray) (hs : s.size ≤ 9223372036854775806) (w : World) : Calls Tryz.prog 94 #[.string s, .func (.func 95) #[] #[]] w fun e w' => e = .returned (.int .i64 (runL s.data.toList : Int)) ∧ w' = w := by
  go_enter Tryz.func94, Tryz.ntmps94
  go_wp2_with fail
  go_loopg [5] s.size (fun kq v w' => RnRel w s kq v w')
  case atStart => exact ⟨0, by omega, rfl, rfl, by simp⟩
  case round =>
    obtain ⟨i, hi, rfl, rfl, hr⟩ := hrel
    have HI := Aside0.mk hi
    have HR := Aside0.mk hr
    clear hi hr
    by_cases hil : i < s.size
    · have t1 : decide ((i : Int) < (s.size : Int)) = true := by simp; omega
      have HA := Aside0.mk (runL_at s i hil)
      have HIL := Aside0.mk hil
      have CP := Aside0.mk (part_calls wr (s[i].toNat : Int))
      obtain ⟨b, hb⟩ : ∃ b, partB (s[i].toNat : Int) = b := ⟨_, rfl⟩
      rw [hb] at CP HA
      clear hb
      cases b with
      | true =>
        go_wp2_with (first
          | (go_at_call 95; (with_reducible refine Calls.mono CP.out ?_); rintro e w4 ⟨rfl, rfl⟩))
        go_roundg (gk - 1)
        case measure => have := HI.out; omega
        case rel => exact ⟨i + 1, by have := HI.out; have := HIL.out; omega, by go_num, rfl, by rw [HR.out, HA.out, if_pos trivial]; omega⟩
      | false =>
        go_wp2_with (first
          | (go_at_call 95; (with_reducible refine Calls.mono CP.out ?_); rintro e w4 ⟨rfl, rfl⟩))
        go_ret
        exact ⟨by rw [HR.out, HA.out]; simp, rfl⟩
    · have t1 : decide ((i : Int) < (s.size : Int)) = false := by simp; omega
      have HE : Aside0 (runL s.data.toList = i) := ⟨by rw [HR.out, List.drop_of_length_le (by rw [size_list]; omega)]; rfl⟩
      go_wp2_with fail
      go_ret
      exact ⟨by rw [HE.out]; rfl, rfl⟩
theorem runL_all : ∀ l : List UInt8, decide (runL l = l.length) = l.all fun b => partB (b.toNat : Int) := by
  intro l
  induction l with
  | nil => rfl
  | cons c l ih =>
    rw [List.all_cons, ← ih]
    unfold runL
    rw [List.takeWhile_cons]
    cases partB (c.toNat : Int) with
    | false => simp
    | true => simp
theorem letter_part {c : Int} (h : letterB c = true) : partB c = true := by unfold partB; rw [h]; rfl
theorem nm_run (s : ByteArray) (h : 0 < s.size) (h2 : s.size ≤ 12) : Nm s = (letterB (s[0].toNat : Int) && decide (runL s.data.toList = s.size)) := by
  have hl := size_list s
  obtain ⟨c, r, e⟩ : ∃ c r, s.data.toList = c :: r := by
    cases e : s.data.toList with
    | nil => rw [e] at hl; simp at hl; omega
    | cons c r => exact ⟨c, r, rfl⟩
  have e0 : s[0] = c := by
    have : s.data.toList[0]? = some s[0] := by rw [List.getElem?_eq_getElem (by omega)]; rfl
    rw [e] at this
    simpa using this.symm
  rw [e0, ← hl, runL_all]
  unfold Nm
  rw [e] at hl ⊢
  simp only [List.length_cons] at hl
  simp only [nameB, List.all_cons]
  rw [decide_eq_true (show r.length < 12 by omega), Bool.true_and]
  cases hc : letterB (c.toNat : Int) with
  | false => rfl
  | true => rw [letter_part hc, Bool.true_and, Bool.true_and]
theorem nm_no (s : ByteArray) (h : s.size = 0 ∨ 12 < s.size) : Nm s = false := by
  have hl := size_list s
  unfold Nm
  generalize s.data.toList = l at *
  cases l with
  | nil => rfl
  | cons c r =>
    simp only [List.length_cons] at hl
    simp only [nameB]
    rw [decide_eq_false (show ¬ r.length < 12 by omega), Bool.false_and]
theorem empty_size {s : ByteArray} (h : s.toList = []) : s.size = 0 := by
  rw [← size_list, ← Lib.toList_data, h]; rfl
theorem size_empty {s : ByteArray} (h : s.size = 0) : s.toList = [] := by
  rw [Lib.toList_data]
  exact List.eq_nil_of_length_eq_zero (by rw [size_list]; exact h)
set_option maxHeartbeats 4000000 in
theorem name_calls (s : ByteArray) (w : World) : Calls Tryz.prog 76 #[.string s] w fun e w' => e = .returned (.bool (Nm s)) ∧ Drawn0 w w' := by
  by_cases h5 : s.toList = []
  · have HE := Aside0.mk (nm_no s (.inl (empty_size h5)))
    have t5 : s.toList.isEmpty = true := by rw [h5]; rfl
    go_enter Tryz.func76, Tryz.ntmps76
    go_wp2_with fail
    go_ret
    exact ⟨by rw [HE.out]; rfl, ⟨0, rfl⟩⟩
  · have t5 : s.toList.isEmpty = false := by simpa using h5
    have hs0 : 0 < s.size := Nat.pos_of_ne_zero (fun h => h5 (size_empty h))
    by_cases h12 : s.size ≤ 12
    · have t6 : decide ((s.size : Int) ≤ 12) = true := by simp; omega
      have HN := Aside0.mk (nm_run s hs0 h12)
      have CL := Aside0.mk (lletter_calls w (s[0].toNat : Int))
      have CR := Aside0.mk (run_calls s (by omega) w)
      generalize Nm s = b at *
      generalize runL s.data.toList = q at *
      have hz : (0 : Int) < (s.size : Int) := by omega
      obtain ⟨bl, hbl⟩ : ∃ b, letterB (s[0].toNat : Int) = b := ⟨_, rfl⟩
      rw [hbl] at CL HN
      clear hbl
      cases bl with
      | false =>
        go_enter Tryz.func76, Tryz.ntmps76
        go_wp2_with (first
          | (go_at_call 93; (with_reducible refine Calls.mono CL.out ?_); rintro e w4 ⟨rfl, rfl⟩))
        go_ret
        exact ⟨by rw [HN.out]; rfl, ⟨0, rfl⟩⟩
      | true =>
        go_enter Tryz.func76, Tryz.ntmps76
        go_wp2_with (first
          | (go_at_call 93; (with_reducible refine Calls.mono CL.out ?_); rintro e w4 ⟨rfl, rfl⟩)
          | (go_at_call 94; (with_reducible refine Calls.mono CR.out ?_); rintro e w5 ⟨rfl, rfl⟩))
        go_ret
        refine ⟨?_, ⟨0, rfl⟩⟩
        rw [HN.out]
        refine ret_bool ?_
        rw [Bool.eq_iff_iff]
        simp
        omega
    · have t6 : decide ((s.size : Int) ≤ 12) = false := by simp; omega
      have HE := Aside0.mk (nm_no s (.inr (by omega)))
      go_enter Tryz.func76, Tryz.ntmps76
      go_wp2_with fail
      go_ret
      exact ⟨by rw [HE.out]; rfl, ⟨0, rfl⟩⟩
theorem or_calls (s : ByteArray) (w : World) : Calls Tryz.prog 77 #[.string s] w fun e w' => e = .returned (.bool (orB s)) ∧ Drawn0 w w' := by
  have CN := Aside0.mk (name_calls s w)
  by_cases h5 : s.toList = []
  · have HE : Aside0 (orB s = true) := ⟨by unfold orB; rw [decide_eq_true (by rw [← Lib.toList_data]; exact h5)]; rfl⟩
    have t5 : s.toList.isEmpty = true := by rw [h5]; rfl
    go_enter Tryz.func77, Tryz.ntmps77
    go_wp2_with fail
    go_ret
    exact ⟨by rw [HE.out]; rfl, ⟨0, rfl⟩⟩
  · have t5 : s.toList.isEmpty = false := by simpa using h5
    have HE : Aside0 (orB s = Nm s) := ⟨by unfold orB; rw [decide_eq_false (by rw [← Lib.toList_data]; exact h5)]; rfl⟩
    clear h5
    generalize Nm s = b at *
    go_enter Tryz.func77, Tryz.ntmps77
    go_wp2_with (first
      | (go_at_call 76; (with_reducible refine Calls.mono CN.out ?_); rintro e w4 ⟨rfl, hd⟩; have HD := Aside0.mk hd; clear hd))
    go_ret
    exact ⟨by rw [HE.out]; simp, HD.out⟩
def tokB (t : STk) : Bool := Nm t.f0 && (if t.f1 = 0 then decide (t.f2 = 0) else decide (0 < t.f1) && decide (t.f1 ≤ 8) && decide (1 ≤ t.f2) && decide (t.f2 ≤ 3))
set_option maxHeartbeats 4000000 in
theorem token_calls (t : STk) (w : World) : Calls Tryz.prog 97 #[.agg #[.string t.f0, .int .i64 t.f1, .int .i64 t.f2]] w fun e w' => e = .returned (.bool (tokB t)) ∧ Below w.heap.size w w' := by
  have HV := Aside0.mk (TBox.new w t)
  have HB := Aside0.mk (below_alloc (Below.refl w.heap.size w) (.cells #[.string t.f0, .int .i64 t.f1, .int .i64 t.f2] 71))
  have CN : Aside0 (∀ w', _) := ⟨fun w' => name_calls t.f0 w'⟩
  have HT : Aside0 (tokB t = (Nm t.f0 && (if t.f1 = 0 then decide (t.f2 = 0) else decide (0 < t.f1) && decide (t.f1 ≤ 8) && decide (1 ≤ t.f2) && decide (t.f2 ≤ 3)))) := ⟨rfl⟩
  generalize tokB t = b at *
  obtain ⟨t0, t1, t2⟩ := t
  dsimp only at *
  generalize Nm t0 = bn at *
  have x0 := HV.out.c0
  have x1 := HV.out.c1
  by_cases h1 : t1 = 0
  · have u1 : (t1 == 0) = true := by simpa using h1
    have HT1 : Aside0 (b = (bn && decide (t2 = 0))) := ⟨by rw [HT.out, if_pos h1]⟩
    clear h1 HT
    go_enter Tryz.func97, Tryz.ntmps97
    go_upto_region 2 with fail
    generalize w.alloc (.cells #[.string t0, .int .i64 t1, .int .i64 t2] 71) = W1 at *
    cases bn with
    | false =>
      go_wp2_with (first
        | (go_at_call 76; (with_reducible refine Calls.mono (CN.out W1) ?_); rintro e w4 ⟨rfl, hd⟩; have HD := Aside0.mk (HB.out.trans ((drawn_below hd).mono HB.out.size)); clear hd))
      go_ret
      exact ⟨by rw [HT1.out]; rfl, HD.out⟩
    | true =>
      go_wp2_with (first
        | (go_at_call 76; (with_reducible refine Calls.mono (CN.out W1) ?_); rintro e w4 ⟨rfl, hd⟩; have HD := Aside0.mk (HB.out.trans ((drawn_below hd).mono HB.out.size)); have x2 := (HV.out.move (drawn_below hd)).c2; clear hd))
      go_ret
      exact ⟨by rw [HT1.out]; refine ret_bool ?_; rw [Bool.eq_iff_iff]; simp, HD.out⟩
  · have u1 : (t1 == 0) = false := by simpa using h1
    have HT1 : Aside0 (b = (bn && (decide (0 < t1) && decide (t1 ≤ 8) && decide (1 ≤ t2) && decide (t2 ≤ 3)))) := ⟨by rw [HT.out, if_neg h1]⟩
    clear h1 HT
    go_enter Tryz.func97, Tryz.ntmps97
    go_upto_region 3 with fail
    generalize w.alloc (.cells #[.string t0, .int .i64 t1, .int .i64 t2] 71) = W1 at *
    cases bn with
    | false =>
      go_wp2_with (first
        | (go_at_call 76; (with_reducible refine Calls.mono (CN.out W1) ?_); rintro e w4 ⟨rfl, hd⟩; have HD := Aside0.mk (HB.out.trans ((drawn_below hd).mono HB.out.size)); clear hd))
      go_ret
      exact ⟨by rw [HT1.out]; rfl, HD.out⟩
    | true =>
      go_wp2_with (first
        | (go_at_call 76; (with_reducible refine Calls.mono (CN.out W1) ?_); rintro e w4 ⟨rfl, hd⟩; have HD := Aside0.mk (HB.out.trans ((drawn_below hd).mono HB.out.size)); have hm := HV.out.move (drawn_below hd); have x1 := hm.c1; have x2 := hm.c2; clear hd hm))
      all_goals (go_ret; refine ⟨?_, HD.out⟩; rw [HT1.out]; refine ret_bool ?_; rw [Bool.eq_iff_iff]; simp only [Bool.and_eq_true, decide_eq_true_eq, true_iff, false_iff, Bool.false_eq_true, true_and]; omega)
end Go.Proofs.YtjhemobplcelbaaGreatDoor.M
