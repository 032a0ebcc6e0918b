/- gram: names, tokens, rules; slices.ContainsFunc at the predicates of gram.May. gram: rules: slices.ContainsFunc at gram.May's predicate. gram: tokens: the predicates of gram.tokens and gram.level. gram: gram.level: the tokens of a level (slices.Clone, slices.DeleteFunc). gram: slices.DeleteFunc at gram.level's predicate; gram.level. gram: gram.tokens. gram: gram.May. gram: gram.Eq (slices.Equal at texts and at tokens; slices.EqualFunc at gram.Eq's function of rules). gram: gram.Eq. -/
import Derived.Test.YteonnadhdmcloaaDoorGx3
import Derived.Lib.IndexBytes
import Derived.Deep.LoopGhost
import Derived.Test.YteonnadhdmcloaaDoorKit
import Derived.Deep.RegionLaw
import Derived.Lib.SliceRun
import Derived.Deep.RegionHeld3
import Derived.Deep.CutBlock
import Derived.Deep.DeepCutAuto
import Derived.Deep.MidRow
import Derived.Lib.LazyBuf
namespace Go.Proofs.YteonnadhdmcloaaDoor.G
open Go.RowKit Go.Proofs.YteonnadhdmcloaaDoorW.PrintWords Go.Proofs.YteonnadhdmcloaaDoorW.PrintLast Go.Proofs.YteonnadhdmcloaaDoorW.PrintMore
set_option linter.unusedVariables false
set_option linter.unusedSimpArgs false
theorem size_list (s : ByteArray) : s.data.toList.length = s.size := by rw [Array.length_toList]; rfl
theorem bt_at (s : ByteArray) (i : Nat) (h : i < s.data.toList.length) : bt s (i : Int) = ((s.data.toList[i]'h).toNat : Int) := by
  have h2 : i < s.size := by rw [← size_list]; exact h
  unfold bt
  rw [Int.toNat_natCast, dif_pos h2]
  simp [ByteArray.getElem_eq_getElem_data]
def nameB (l : List UInt8) : Bool := match l with
  | [] => false
  | c :: r => decide (r.length < 12) && (letterB (c.toNat : Int) && r.all fun b => partB (b.toNat : Int))
theorem runB_all (p : Int → Bool) : ∀ l : List UInt8, (runB p l == l.length) = l.all fun b => p (b.toNat : Int) := by
  intro l
  induction l with
  | nil => rfl
  | cons c l ih =>
    rw [List.all_cons, ← ih]
    unfold runB
    rw [List.takeWhile_cons]
    cases p (c.toNat : Int) with
    | false => simp
    | true => simp
theorem letter_part {c : Int} (h : letterB c = true) : partB c = true := by unfold partB; rw [h]; rfl
theorem lex_name (s : ByteArray) : lex_Name.f s = some (nameB s.data.toList) := by
  unfold lex_Name.f
  rw [Lib.toList_data]
  have hl := size_list s
  rw [letter_eq]
  cases e : s.data.toList with
  | nil => rw [if_pos rfl]; rfl
  | cons c r =>
    rw [e] at hl
    rw [if_neg (by simp)]
    have hb : bt s 0 = (c.toNat : Int) := by
      have := bt_at s 0 (by rw [e]; simp)
      simp only [e, List.getElem_cons_zero] at this
      exact this
    simp only [List.length_cons] at hl
    rw [show nameB (c :: r) = (decide (r.length < 12) && (letterB (c.toNat : Int) && r.all fun b => partB (b.toNat : Int))) from rfl]
    by_cases h12 : (s.size : Int) ≤ 12
    · have hrun : lex_run.f s (Value.func (.func 43) #[] #[]) = some (runB partB s.data.toList : Int) := by
        show (if s.size ≤ 9223372036854775806 then _ else _) = _
        rw [if_pos (by omega)]
        rfl
      rw [if_pos h12, if_pos (by omega), hb, hrun, decide_eq_true (show r.length < 12 by omega), Bool.true_and]
      simp only [Option.bind_some]
      cases hc : letterB (c.toNat : Int) with
      | false => rw [if_neg (by decide)]; rfl
      | true =>
        rw [if_pos rfl, Bool.true_and]
        have := runB_all partB (c :: r)
        rw [List.all_cons, letter_part hc, Bool.true_and] at this
        rw [e, ← this, Option.some.injEq, Bool.eq_iff_iff, beq_iff_eq, beq_iff_eq, List.length_cons]
        omega
    · rw [if_neg h12, decide_eq_false (show ¬ r.length < 12 by omega)]
      rfl
def Nm (s : ByteArray) : Bool := nameB s.data.toList
def orB (s : ByteArray) : Bool := decide (s.data.toList = []) || Nm s
def tokB (t : S35) : Bool := Nm t.f0 && (if t.f1 = 0 then decide (t.f2 = 0) else decide (0 < t.f1) && decide (t.f1 ≤ 8) && decide (1 ≤ t.f2) && decide (t.f2 ≤ 3))
def ruleBad (r : S39) : Bool := !Nm r.f0 || !orB r.f2 || decide (20 < r.f1.length) || r.f1.any fun s => !Nm s
theorem gram_or_eq (s : ByteArray) : gram_or.f s = some (orB s) := by
  unfold gram_or.f orB
  rw [Lib.toList_data, lex_name]
  split
  · rename_i h; rw [decide_eq_true h]; rfl
  · rename_i h; rw [decide_eq_false h]; rfl
theorem gram_token_eq (t : S35) : gram_token.f t.f0 t.f1 t.f2 = some (tokB t) := by
  unfold gram_token.f tokB
  rw [lex_name]
  show _ = some (nameB t.f0.data.toList && _)
  cases nameB t.f0.data.toList
  · simp
  · simp only [Option.bind_some, if_true, Bool.true_and]
    (repeat' split) <;> (rw [Option.some.injEq, Bool.eq_iff_iff]; simp only [Bool.and_eq_true, decide_eq_true_eq, beq_iff_eq, true_iff, false_iff, Bool.false_eq_true]; first | done | omega)
theorem name_calls (s : ByteArray) (w : World) : Calls Tryd.prog 22 #[.string s] w fun e w' => e = .returned (.bool (Nm s)) ∧ Drawn0 w w' := lex_Name.calls s _ w (lex_name s)
theorem or_calls (s : ByteArray) (w : World) : Calls Tryd.prog 23 #[.string s] w fun e w' => e = .returned (.bool (orB s)) ∧ Drawn0 w w' := gram_or.calls s _ w (gram_or_eq s)
theorem token_calls (t : S35) (w : World) : Calls Tryd.prog 45 #[.agg #[.string t.f0, .int .i64 t.f1, .int .i64 t.f2]] w fun e w' => e = .returned (.bool (tokB t)) ∧ Below w.heap.size w w' := gram_token.calls _ _ _ _ w (gram_token_eq t)
/-- What slices.IndexFunc answers. -/
def idxB {α : Type} (p : α → Bool) (xs : List α) : Int := if xs.any p then (xs.findIdx p : Int) else -1
theorem idxB_at {α : Type} {p : α → Bool} {xs : List α} {i : Nat} (hi : i < xs.length) (hp : p xs[i] = true) (hb : ∀ j (h : j < i), p (xs[j]'(by omega)) = false) : idxB p xs = (i : Int) := by
  unfold idxB
  rw [if_pos (List.any_eq_true.2 ⟨_, List.getElem_mem hi, hp⟩), (List.findIdx_eq hi).2 ⟨hp, fun j h => hb j h⟩]
theorem idxB_none {α : Type} {p : α → Bool} {xs : List α} (hb : ∀ j (h : j < xs.length), p xs[j] = false) : idxB p xs = -1 := by
  unfold idxB
  rw [if_neg]
  intro h
  obtain ⟨x, hx, hp⟩ := List.any_eq_true.1 h
  obtain ⟨j, hj, rfl⟩ := List.getElem_of_mem hx
  rw [hb j hj] at hp
  cases hp
theorem idxB_any {α : Type} (p : α → Bool) (xs : List α) : decide (0 ≤ idxB p xs) = xs.any p := by
  unfold idxB
  cases xs.any p
  · rfl
  · rw [if_pos rfl]; exact decide_eq_true (by omega)
def IRel {α : Type} (p : α → Bool) (xs : List α) (w : World) (kq : Nat) (v8 : Value) (w' : World) : Prop :=
  ∃ i : Nat, i + kq = xs.length ∧ v8 = .int .i64 (i : Int) ∧ Below w.heap.size w w' ∧ ∀ j (h : j < i) (h2 : j < xs.length), p xs[j] = false
theorem at_str {w : World} {A : Option Addr} {n : Nat} {xs : List ByteArray} (h : Kd.C Kd.string w A n xs) (i : Nat) (hi : i < xs.length) (hn : n = xs.length) : ∃ ad, A = some ad ∧ w.cell? (ad.add i) = some (.string xs[i]) := by
  obtain ⟨ad, cs, e, _, hK, hc⟩ := Kd.C_get h ⟨#[]⟩ (i : Int) (by omega) (by omega)
  obtain rfl : cs = [.string (xs.getD (i : Int).toNat ⟨#[]⟩)] := hK
  have := hc 0 _ rfl
  simp only [Kd.string, Kd.scalar, Int.toNat_natCast, Nat.mul_one, Nat.add_zero] at this
  rw [List.getD_eq_getElem?_getD, List.getElem?_eq_getElem hi] at this
  exact ⟨ad, e, this⟩
theorem drawn_below {w w' : World} (h : Drawn0 w w') : Below w.heap.size w w' := by
  obtain ⟨n, rfl⟩ := h
  exact pw_below_drewN (Below.refl _ _) n
theorem not_name_calls (s : ByteArray) (w : World) : Calls Tryd.prog 25 #[.string s] w fun e w' => e = .returned (.bool (!Nm s)) ∧ Below w.heap.size w w' := by
  go_enter Tryd.func25, Tryd.ntmps25
  go_wp2_with fail
  go_at_call 22
  refine (name_calls s _).mono ?_
  rintro e w1 ⟨rfl, hd⟩
  have HB := Aside0.mk (drawn_below hd)
  clear hd
  go_wp2_with fail
  go_ret
  exact ⟨by simp, HB.out⟩
set_option maxHeartbeats 2000000 in
theorem index_str (w : World) (A : Option Addr) (c : Nat) (xs : List ByteArray) (hr : Kd.C Kd.string w A xs.length xs) (hxl : xs.length ≤ 17592186044416) :
    Calls Tryd.prog 44 #[.slice A xs.length c, .func (.func 25) #[] #[]] w fun e w' => e = .returned (.int .i64 (idxB (fun s => !Nm s) xs)) ∧ Below w.heap.size w w' := by
  have HR := Aside0.mk hr
  clear hr
  go_enter Tryd.func44, Tryd.ntmps44
  go_wp2_with fail
  go_loopg [8] xs.length (fun kq v8 w' => IRel (fun s => !Nm s) xs w kq v8 w')
  case atStart => exact ⟨0, by omega, rfl, Below.refl _ _, fun j h => absurd h (Nat.not_lt_zero j)⟩
  case round =>
    obtain ⟨i, hi, rfl, hb, hp⟩ := hrel
    have HI := Aside0.mk hi
    have HB := Aside0.mk hb
    have HP := Aside0.mk hp
    clear hi hb hp
    by_cases hil : i < xs.length
    · have t1 : decide ((i : Int) < (xs.length : Int)) = true := by simp; omega
      obtain ⟨ad, e1, hx⟩ := at_str (Kd.C_below HR.out HB.out) i hil rfl
      subst e1
      have HX := Aside0.mk hx
      go_wp2_with fail
      go_at_call 25
      refine (not_name_calls xs[i] _).mono ?_
      rintro e w1 ⟨rfl, hd⟩
      have HB1 := Aside0.mk (HB.out.trans (hd.mono HB.out.size))
      clear hd hx
      obtain ⟨b, hpb⟩ : ∃ b, (!Nm xs[i]) = b := ⟨_, rfl⟩
      rw [hpb]
      have HPB := Aside0.mk hpb
      clear hpb
      cases b with
      | true =>
        go_wp2_with fail
        go_ret
        exact ⟨by rw [idxB_at hil HPB.out (fun j h => HP.out j h (by omega))]; rfl, HB1.out⟩
      | false =>
        go_wp2_with fail
        go_roundg (gk - 1)
        case measure => have := HI.out; omega
        case rel =>
          refine ⟨i + 1, by have := HI.out; omega, by go_num, HB1.out, fun j h h2 => ?_⟩
          by_cases hj : j < i
          · exact HP.out j hj h2
          · obtain rfl : j = i := by omega
            exact HPB.out
    · have t1 : decide ((i : Int) < (xs.length : Int)) = false := by simp; omega
      go_wp2_with fail
      go_ret
      exact ⟨by rw [idxB_none (fun j h => HP.out j (by have := HI.out; omega) h)]; rfl, HB.out⟩
theorem contains_str (w : World) (A : Option Addr) (c : Nat) (xs : List ByteArray) (hr : Kd.C Kd.string w A xs.length xs) (hxl : xs.length ≤ 17592186044416) :
    Calls Tryd.prog 24 #[.slice A xs.length c, .func (.func 25) #[] #[]] w fun e w' => e = .returned (.bool (xs.any fun s => !Nm s)) ∧ Below w.heap.size w w' := by
  have HR := Aside0.mk hr
  clear hr
  go_enter Tryd.func24, Tryd.ntmps24
  go_wp2_with fail
  go_at_call 44
  refine (index_str w A c xs HR.out hxl).mono ?_
  rintro e w1 ⟨rfl, hb⟩
  have HB := Aside0.mk hb
  clear hb
  go_wp2_with fail
  go_ret
  exact ⟨by rw [← idxB_any]; rfl, HB.out⟩
end Go.Proofs.YteonnadhdmcloaaDoor.G
namespace Go.Proofs.YteonnadhdmcloaaDoor.G
open Go.RowKit Go.Proofs.YteonnadhdmcloaaDoorW.PrintWords Go.Proofs.YteonnadhdmcloaaDoorW.PrintLast Go.Proofs.YteonnadhdmcloaaDoorW.PrintMore
set_option linter.unusedVariables false
set_option linter.unusedSimpArgs false
structure RBox (W : World) (X : Nat) (r : S39) (A : Option Addr) (c : Nat) : Prop where
  lt : X < W.heap.size
  c0 : W.cell? ⟨X, 0, none⟩ = some (.string r.f0)
  c1 : W.cell? ⟨X, 1, none⟩ = some (.slice A r.f1.length c)
  c2 : W.cell? ⟨X, 2, none⟩ = some (.string r.f2)
theorem RBox.move {W W' : World} {X : Nat} {r : S39} {A : Option Addr} {c : Nat} (h : RBox W X r A c) (hb : Below W.heap.size W W') : RBox W' X r A c :=
  ⟨Nat.lt_of_lt_of_le h.lt hb.size, (hb.cell (p := ⟨X, 0, none⟩) h.lt).trans h.c0, (hb.cell (p := ⟨X, 1, none⟩) h.lt).trans h.c1, (hb.cell (p := ⟨X, 2, none⟩) h.lt).trans h.c2⟩
theorem RBox.new (w : World) (r : S39) (A : Option Addr) (c : Nat) : RBox (w.alloc (.cells #[.string r.f0, .slice A r.f1.length c, .string r.f2] 39)) w.heap.size r A c :=
  ⟨by rw [World.size_alloc]; omega, by simp [go_sem], by simp [go_sem], by simp [go_sem]⟩
set_option maxHeartbeats 4000000 in
theorem rule_bad_calls (w : World) (r : S39) (A : Option Addr) (c : Nat) (hr : Kd.C Kd.string w A r.f1.length r.f1) (hl : r.f1.length ≤ 17592186044416) :
    Calls Tryd.prog 21 #[.agg #[.string r.f0, .slice A r.f1.length c, .string r.f2]] w fun e w' => e = .returned (.bool (ruleBad r)) ∧ Below w.heap.size w w' := by
  have HX := Aside0.mk (RBox.new w r A c)
  have HB := Aside0.mk (below_alloc (Below.refl w.heap.size w) (.cells #[.string r.f0, .slice A r.f1.length c, .string r.f2] 39))
  have HR := Aside0.mk (Kd.C_below hr HB.out)
  clear hr
  have hbad : ruleBad r = (!Nm r.f0 || !orB r.f2 || decide (20 < r.f1.length) || r.f1.any fun s => !Nm s) := rfl
  obtain ⟨b1, hb1⟩ : ∃ b, Nm r.f0 = b := ⟨_, rfl⟩
  obtain ⟨b2, hb2⟩ : ∃ b, orB r.f2 = b := ⟨_, rfl⟩
  obtain ⟨b4, hb4⟩ : ∃ b, (r.f1.any fun s => !Nm s) = b := ⟨_, rfl⟩
  obtain ⟨b3, hb3⟩ : ∃ b, decide (20 < r.f1.length) = b := ⟨_, rfl⟩
  rw [hb1, hb2, hb3, hb4] at hbad
  rw [hbad]
  have hn := name_calls r.f0
  have ho := or_calls r.f2
  rw [hb1] at hn
  rw [hb2] at ho
  have HN := Aside0.mk hn
  have HO := Aside0.mk ho
  have HB4 := Aside0.mk hb4
  clear hbad hb1 hb2 hb4 hn ho
  go_enter Tryd.func21, Tryd.ntmps21
  have x0 := HX.out.c0
  go_wp2_with fail
  clear x0
  generalize w.alloc (.cells #[.string r.f0, .slice A r.f1.length c, .string r.f2] 39) = W1 at *
  go_at_call 22
  refine (HN.out W1).mono ?_
  rintro e w1 ⟨rfl, hd⟩
  have hb := drawn_below hd
  have HX1 := Aside0.mk (HX.out.move hb)
  have HR1 := Aside0.mk (Kd.C_below HR.out hb)
  have HB1 := Aside0.mk (HB.out.trans (hb.mono HB.out.size))
  clear hd hb HX HR HB
  have x2 := HX1.out.c2
  have x1 := HX1.out.c1
  cases b1 with
  | false =>
    go_wp2_with fail
    go_ret
    exact ⟨by simp, HB1.out⟩
  | true =>
    go_wp2_with fail
    go_at_call 23
    refine (HO.out w1).mono ?_
    rintro e w2 ⟨rfl, hd⟩
    have hb := drawn_below hd
    have HX2 := Aside0.mk (HX1.out.move hb)
    have HR2 := Aside0.mk (Kd.C_below HR1.out hb)
    have HB2 := Aside0.mk (HB1.out.trans (hb.mono HB1.out.size))
    clear hd hb HX1 HR1 HB1 x1 x2
    have x1 := HX2.out.c1
    cases b2 with
    | false =>
      go_wp2_with fail
      go_ret
      exact ⟨by simp, HB2.out⟩
    | true =>
      cases b3 with
      | true =>
        have t1 : decide ((20 : Int) < (r.f1.length : Int)) = true := by have := of_decide_eq_true hb3; simp; omega
        clear hb3
        go_wp2_with fail
        go_ret
        exact ⟨by simp, HB2.out⟩
      | false =>
        have t1 : decide ((20 : Int) < (r.f1.length : Int)) = false := by have := of_decide_eq_false hb3; simp; omega
        clear hb3
        go_wp2_with fail
        go_at_call 24
        refine (contains_str w2 A c r.f1 HR2.out hl).mono ?_
        rintro e w3 ⟨rfl, hb⟩
        have HB3 := Aside0.mk (HB2.out.trans (hb.mono HB2.out.size))
        rw [HB4.out]
        clear hb HX2 HR2 HB2 x1
        go_wp2_with fail
        go_ret
        exact ⟨by simp, HB3.out⟩
theorem at_rule {w : World} {A : Option Addr} {n : Nat} {xs : List S39} (h : Kd.C k39 w A n xs) (i : Nat) (hi : i < xs.length) (hn : n = xs.length) :
    ∃ ad A1 c1, A = some ad ∧ w.cell? (ad.add (i * 3)) = some (.string xs[i].f0) ∧ w.cell? ⟨(ad.add (i * 3)).block, (ad.add (i * 3)).off + 1, none⟩ = some (.slice A1 xs[i].f1.length c1) ∧ w.cell? ⟨(ad.add (i * 3)).block, (ad.add (i * 3)).off + 2, none⟩ = some (.string xs[i].f2) ∧ xs[i].f1.length ≤ c1 ∧ Kd.C Kd.string w A1 xs[i].f1.length xs[i].f1 := by
  obtain ⟨ad, cs, e, _, hK, hc⟩ := Kd.C_get h z39 (i : Int) (by omega) (by omega)
  rw [Int.toNat_natCast, List.getD_eq_getElem?_getD, List.getElem?_eq_getElem hi, Option.getD_some] at hK
  obtain ⟨A1, c1, rfl, l1, g1⟩ := k39_open hK
  have h0 := hc 0 _ rfl
  have h1 := hc 1 _ rfl
  have h2 := hc 2 _ rfl
  rw [Int.toNat_natCast, show k39.sz = 3 from rfl] at h0 h1 h2
  exact ⟨ad, A1, c1, e, h0, by rw [← add_field _ _ 1 (by omega)]; exact h1, by rw [← add_field _ _ 2 (by omega)]; exact h2, l1, g1⟩
set_option maxHeartbeats 2000000 in
theorem index_rule (w : World) (A : Option Addr) (c : Nat) (xs : List S39) (hr : Kd.C k39 w A xs.length xs) (hxl : xs.length ≤ 17592186044416) (hs : ∀ r ∈ xs, r.f1.length ≤ 17592186044416) :
    Calls Tryd.prog 40 #[.slice A xs.length c, .func (.func 21) #[] #[]] w fun e w' => e = .returned (.int .i64 (idxB ruleBad xs)) ∧ Below w.heap.size w w' := by
  have HR := Aside0.mk hr
  clear hr
  go_enter Tryd.func40, Tryd.ntmps40
  go_wp2_with fail
  go_loopg [8] xs.length (fun kq v8 w' => IRel ruleBad xs w kq v8 w')
  case atStart => exact ⟨0, by omega, rfl, Below.refl _ _, fun j h => absurd h (Nat.not_lt_zero j)⟩
  case round =>
    obtain ⟨i, hi, rfl, hb, hp⟩ := hrel
    have HI := Aside0.mk hi
    have HB := Aside0.mk hb
    have HP := Aside0.mk hp
    clear hi hb hp
    by_cases hil : i < xs.length
    · have t1 : decide ((i : Int) < (xs.length : Int)) = true := by simp; omega
      obtain ⟨ad, A1, c1, e1, x0, x1, x2, l1, g1⟩ := at_rule (Kd.C_below HR.out HB.out) i hil rfl
      subst e1
      have HG := Aside0.mk g1
      have HS := Aside0.mk (hs xs[i] (List.getElem_mem hil))
      clear g1
      go_wp2_with fail
      go_at_call 21
      refine (rule_bad_calls _ xs[i] A1 c1 HG.out HS.out).mono ?_
      rintro e w1 ⟨rfl, hd⟩
      have HB1 := Aside0.mk (HB.out.trans (hd.mono HB.out.size))
      clear hd x0 x1 x2
      obtain ⟨b, hpb⟩ : ∃ b, ruleBad xs[i] = b := ⟨_, rfl⟩
      rw [hpb]
      have HPB := Aside0.mk hpb
      clear hpb
      cases b with
      | true =>
        go_wp2_with fail
        go_ret
        exact ⟨by rw [idxB_at hil HPB.out (fun j h => HP.out j h (by omega))]; rfl, HB1.out⟩
      | false =>
        go_wp2_with fail
        go_roundg (gk - 1)
        case measure => have := HI.out; omega
        case rel =>
          refine ⟨i + 1, by have := HI.out; omega, by go_num, HB1.out, fun j h h2 => ?_⟩
          by_cases hj : j < i
          · exact HP.out j hj h2
          · obtain rfl : j = i := by omega
            exact HPB.out
    · have t1 : decide ((i : Int) < (xs.length : Int)) = false := by simp; omega
      go_wp2_with fail
      go_ret
      exact ⟨by rw [idxB_none (fun j h => HP.out j (by have := HI.out; omega) h)]; rfl, HB.out⟩
theorem contains_rule (w : World) (A : Option Addr) (c : Nat) (xs : List S39) (hr : Kd.C k39 w A xs.length xs) (hxl : xs.length ≤ 17592186044416) (hs : ∀ r ∈ xs, r.f1.length ≤ 17592186044416) :
    Calls Tryd.prog 20 #[.slice A xs.length c, .func (.func 21) #[] #[]] w fun e w' => e = .returned (.bool (xs.any ruleBad)) ∧ Below w.heap.size w w' := by
  have HR := Aside0.mk hr
  have HS := Aside0.mk hs
  clear hr hs
  go_enter Tryd.func20, Tryd.ntmps20
  go_wp2_with fail
  go_at_call 40
  refine (index_rule w A c xs HR.out hxl HS.out).mono ?_
  rintro e w1 ⟨rfl, hb⟩
  have HB := Aside0.mk hb
  clear hb
  go_wp2_with fail
  go_ret
  exact ⟨by rw [← idxB_any]; rfl, HB.out⟩
end Go.Proofs.YteonnadhdmcloaaDoor.G
namespace Go.Proofs.YteonnadhdmcloaaDoor.G
open Go.RowKit Go.Proofs.YteonnadhdmcloaaDoorW.PrintWords Go.Proofs.YteonnadhdmcloaaDoorW.PrintLast Go.Proofs.YteonnadhdmcloaaDoorW.PrintMore
set_option linter.unusedVariables false
set_option linter.unusedSimpArgs false
structure TBox (W : World) (X : Nat) (t : S35) : Prop where
  lt : X < W.heap.size
  c0 : W.cell? ⟨X, 0, none⟩ = some (.string t.f0)
  c1 : W.cell? ⟨X, 1, none⟩ = some (.int .i64 t.f1)
  c2 : W.cell? ⟨X, 2, none⟩ = some (.int .i64 t.f2)
theorem TBox.move {W W' : World} {X : Nat} {t : S35} (h : TBox W X t) (hb : Below W.heap.size W W') : TBox W' X t :=
  ⟨Nat.lt_of_lt_of_le h.lt hb.size, (hb.cell (p := ⟨X, 0, none⟩) h.lt).trans h.c0, (hb.cell (p := ⟨X, 1, none⟩) h.lt).trans h.c1, (hb.cell (p := ⟨X, 2, none⟩) h.lt).trans h.c2⟩
theorem TBox.new (w : World) (t : S35) : TBox (w.alloc (.cells #[.string t.f0, .int .i64 t.f1, .int .i64 t.f2] 35)) w.heap.size t :=
  ⟨by rw [World.size_alloc]; omega, by simp [go_sem], by simp [go_sem], by simp [go_sem]⟩
def likeB (t u : S35) : Bool := decide (u.f0 = t.f0) || (decide (u.f1 = t.f1) && !decide (u.f2 = t.f2))
theorem toList_eq {a b : ByteArray} : a.toList = b.toList ↔ a = b := by
  rw [Lib.toList_data, Lib.toList_data]
  constructor
  · intro h
    cases a
    cases b
    congr
    exact Array.toList_inj.1 h
  · rintro rfl
    rfl
set_option maxHeartbeats 4000000 in
theorem like_calls (w : World) (t u : S35) (X : Nat) (ht : TBox w X t) :
    Calls Tryd.prog 47 #[.agg #[.string u.f0, .int .i64 u.f1, .int .i64 u.f2], .pointer (some ⟨X, 0, none⟩)] w fun e w' => e = .returned (.bool (likeB t u)) ∧ Below w.heap.size w w' := by
  have HB := Aside0.mk (below_alloc (Below.refl w.heap.size w) (.cells #[.string u.f0, .int .i64 u.f1, .int .i64 u.f2] 35))
  have x0 := (ht.move HB.out).c0
  have x1 := (ht.move HB.out).c1
  have x2 := (ht.move HB.out).c2
  have y0 := (TBox.new w u).c0
  have y1 := (TBox.new w u).c1
  have y2 := (TBox.new w u).c2
  clear ht
  obtain ⟨tn, tl, ta⟩ := t
  obtain ⟨un, ul, ua⟩ := u
  dsimp only at *
  have hlk : likeB ⟨tn, tl, ta⟩ ⟨un, ul, ua⟩ = (decide (un = tn) || (decide (ul = tl) && !decide (ua = ta))) := rfl
  by_cases h1 : un.toList = tn.toList
  · have HL : Aside0 (likeB ⟨tn, tl, ta⟩ ⟨un, ul, ua⟩ = true) := ⟨by rw [hlk, decide_eq_true (toList_eq.1 h1)]; rfl⟩
    clear hlk
    go_enter Tryd.func47, Tryd.ntmps47
    go_wp2_with fail
    go_ret
    exact ⟨by rw [HL.out]; rfl, by first | exact HB.out | exact below_alloc (Below.refl _ _) _⟩
  · rw [decide_eq_false (fun h => h1 (toList_eq.2 h)), Bool.false_or] at hlk
    by_cases h2 : ul = tl
    · subst h2
      rw [decide_eq_true rfl, Bool.true_and] at hlk
      by_cases h3 : ua = ta
      · subst h3
        have HL : Aside0 (likeB ⟨tn, ul, ua⟩ ⟨un, ul, ua⟩ = false) := ⟨by rw [hlk, decide_eq_true rfl]; rfl⟩
        clear hlk
        go_enter Tryd.func47, Tryd.ntmps47
        go_wp2_with fail
        go_ret
        exact ⟨by rw [HL.out]; simp [h1], by first | exact HB.out | exact below_alloc (Below.refl _ _) _⟩
      · have HL : Aside0 (likeB ⟨tn, ul, ta⟩ ⟨un, ul, ua⟩ = true) := ⟨by rw [hlk, decide_eq_false h3]; rfl⟩
        clear hlk
        have t3 : (ua == ta) = false := beq_eq_false_iff_ne.mpr h3
        go_enter Tryd.func47, Tryd.ntmps47
        go_wp2_with fail
        go_ret
        exact ⟨by rw [HL.out]; simp [h1, h3], by first | exact HB.out | exact below_alloc (Below.refl _ _) _⟩
    · have HL : Aside0 (likeB ⟨tn, tl, ta⟩ ⟨un, ul, ua⟩ = false) := ⟨by rw [hlk, decide_eq_false h2]; rfl⟩
      clear hlk
      have t2 : (ul == tl) = false := beq_eq_false_iff_ne.mpr h2
      go_enter Tryd.func47, Tryd.ntmps47
      go_wp2_with fail
      go_ret
      exact ⟨by rw [HL.out]; simp [h1, h2], by first | exact HB.out | exact below_alloc (Below.refl _ _) _⟩
theorem at_tok {w : World} {A : Option Addr} {n : Nat} {xs : List S35} (h : Kd.C k35 w A n xs) (i : Nat) (hi : i < xs.length) (hn : n = xs.length) :
    ∃ ad, A = some ad ∧ w.cell? (ad.add (i * 3)) = some (.string xs[i].f0) ∧ w.cell? ⟨(ad.add (i * 3)).block, (ad.add (i * 3)).off + 1, none⟩ = some (.int .i64 xs[i].f1) ∧ w.cell? ⟨(ad.add (i * 3)).block, (ad.add (i * 3)).off + 2, none⟩ = some (.int .i64 xs[i].f2) := by
  obtain ⟨ad, cs, e, _, hK, hc⟩ := Kd.C_get h z35 (i : Int) (by omega) (by omega)
  rw [Int.toNat_natCast, List.getD_eq_getElem?_getD, List.getElem?_eq_getElem hi, Option.getD_some] at hK
  obtain rfl := k35_open hK
  have h0 := hc 0 _ rfl
  have h1 := hc 1 _ rfl
  have h2 := hc 2 _ rfl
  rw [Int.toNat_natCast, show k35.sz = 3 from rfl] at h0 h1 h2
  exact ⟨ad, e, h0, by rw [← add_field _ _ 1 (by omega)]; exact h1, by rw [← add_field _ _ 2 (by omega)]; exact h2⟩
set_option maxHeartbeats 2000000 in
theorem index_like (w : World) (A : Option Addr) (c : Nat) (xs : List S35) (X : Nat) (t : S35) (hr : Kd.C k35 w A xs.length xs) (hxl : xs.length ≤ 17592186044416) (ht : TBox w X t) :
    Calls Tryd.prog 55 #[.slice A xs.length c, .func (.func 47) #[] #[.pointer (some ⟨X, 0, none⟩)]] w fun e w' => e = .returned (.int .i64 (idxB (likeB t) xs)) ∧ Below w.heap.size w w' := by
  have HR := Aside0.mk hr
  have HT := Aside0.mk ht
  clear hr ht
  go_enter Tryd.func55, Tryd.ntmps55
  go_wp2_with fail
  go_loopg [8] xs.length (fun kq v8 w' => IRel (likeB t) xs w kq v8 w')
  case atStart => exact ⟨0, by omega, rfl, Below.refl _ _, fun j h => absurd h (Nat.not_lt_zero j)⟩
  case round =>
    obtain ⟨i, hi, rfl, hb, hp⟩ := hrel
    have HI := Aside0.mk hi
    have HB := Aside0.mk hb
    have HP := Aside0.mk hp
    clear hi hb hp
    by_cases hil : i < xs.length
    · have t1 : decide ((i : Int) < (xs.length : Int)) = true := by simp; omega
      obtain ⟨ad, e1, x0, x1, x2⟩ := at_tok (Kd.C_below HR.out HB.out) i hil rfl
      subst e1
      go_wp2_with fail
      go_at_call 47
      refine (like_calls _ t xs[i] X (HT.out.move HB.out)).mono ?_
      rintro e w1 ⟨rfl, hd⟩
      have HB1 := Aside0.mk (HB.out.trans (hd.mono HB.out.size))
      clear hd x0 x1 x2
      obtain ⟨b, hpb⟩ : ∃ b, (likeB t) xs[i] = b := ⟨_, rfl⟩
      rw [show likeB t xs[i] = b from hpb]
      have HPB := Aside0.mk hpb
      clear hpb
      cases b with
      | true =>
        go_wp2_with fail
        go_ret
        exact ⟨by rw [idxB_at hil HPB.out (fun j h => HP.out j h (by omega))]; rfl, HB1.out⟩
      | false =>
        go_wp2_with fail
        go_roundg (gk - 1)
        case measure => have := HI.out; omega
        case rel =>
          refine ⟨i + 1, by have := HI.out; omega, by go_num, HB1.out, fun j h h2 => ?_⟩
          by_cases hj : j < i
          · exact HP.out j hj h2
          · obtain rfl : j = i := by omega
            exact HPB.out
    · have t1 : decide ((i : Int) < (xs.length : Int)) = false := by simp; omega
      go_wp2_with fail
      go_ret
      exact ⟨by rw [idxB_none (fun j h => HP.out j (by have := HI.out; omega) h)]; rfl, HB.out⟩
theorem contains_like (w : World) (A : Option Addr) (c : Nat) (xs : List S35) (X : Nat) (t : S35) (hr : Kd.C k35 w A xs.length xs) (hxl : xs.length ≤ 17592186044416) (ht : TBox w X t) :
    Calls Tryd.prog 46 #[.slice A xs.length c, .func (.func 47) #[] #[.pointer (some ⟨X, 0, none⟩)]] w fun e w' => e = .returned (.bool (xs.any (likeB t))) ∧ Below w.heap.size w w' := by
  have HC := Aside0.mk (index_like w A c xs X t hr hxl ht)
  clear hr ht
  go_enter Tryd.func46, Tryd.ntmps46
  go_wp2_with fail
  go_at_call 55
  refine HC.out.mono ?_
  rintro e w1 ⟨rfl, hb⟩
  have HB := Aside0.mk hb
  clear hb
  go_wp2_with fail
  go_ret
  exact ⟨by rw [← idxB_any]; rfl, HB.out⟩
end Go.Proofs.YteonnadhdmcloaaDoor.G
namespace Go.Proofs.YteonnadhdmcloaaDoor.G
open Go.RowKit Go.Proofs.YteonnadhdmcloaaDoorW.PrintWords Go.Proofs.YteonnadhdmcloaaDoorW.PrintLast Go.Proofs.YteonnadhdmcloaaDoorW.PrintMore
set_option linter.unusedVariables false
set_option linter.unusedSimpArgs false
def offB (n : Int) (u : S35) : Bool := !decide (u.f1 = n)
set_option maxHeartbeats 4000000 in
theorem off_calls (w : World) (n : Int) (u : S35) (X : Nat) (ht : X < w.heap.size ∧ w.cell? ⟨X, 0, none⟩ = some (.int .i64 n)) :
    Calls Tryd.prog 50 #[.agg #[.string u.f0, .int .i64 u.f1, .int .i64 u.f2], .pointer (some ⟨X, 0, none⟩)] w fun e w' => e = .returned (.bool (offB n u)) ∧ Below w.heap.size w w' := by
  have HB := Aside0.mk (below_alloc (Below.refl w.heap.size w) (.cells #[.string u.f0, .int .i64 u.f1, .int .i64 u.f2] 35))
  have x0 := (HB.out.cell (p := ⟨X, 0, none⟩) ht.1).trans ht.2
  have y1 := (TBox.new w u).c1
  clear ht
  have hof : offB n u = !decide (u.f1 = n) := rfl
  by_cases h1 : u.f1 = n
  · have HL : Aside0 (offB n u = false) := ⟨by rw [hof, decide_eq_true h1]; rfl⟩
    obtain ⟨un, ul, ua⟩ := u
    dsimp only at *
    subst h1
    clear hof
    go_enter Tryd.func50, Tryd.ntmps50
    go_wp2_with fail
    go_ret
    exact ⟨by rw [HL.out]; simp, by first | exact HB.out | exact below_alloc (Below.refl _ _) _⟩
  · have HL : Aside0 (offB n u = true) := ⟨by rw [hof, decide_eq_false h1]; rfl⟩
    have t1 : (u.f1 == n) = false := beq_eq_false_iff_ne.mpr h1
    clear hof
    go_enter Tryd.func50, Tryd.ntmps50
    go_wp2_with fail
    go_ret
    exact ⟨by rw [HL.out]; simp [h1], by first | exact HB.out | exact below_alloc (Below.refl _ _) _⟩
/-- A kind whose cells hang on no world. -/
structure Flat {α : Type} (d : Kd α) (enc : α → List Value) : Prop where
  M : ∀ {w base ok x cs}, d.M w base ok x cs ↔ cs = enc x
theorem flat_tok : Flat k35 (fun x => [.string x.f0, .int .i64 x.f1, .int .i64 x.f2]) := by
  refine ⟨?_⟩
  intro w base ok x cs
  constructor
  · intro h; exact k35_openM h
  · rintro rfl
    exact k35_mkM _ _ _ x
def own (v : Value) (k : Nat) : Prop := some k = v.ownBlock
def Row {α : Type} (d : Kd α) (e : Nat) (w : World) (B : Nat) (v : Value) (xs : List α) : Prop := d.R e w B (own v) v xs
theorem Row.of_R {α : Type} {d : Kd α} {enc : α → List Value} {e B : Nat} {w : World} {v : Value} {xs : List α} {ok : Nat → Prop} (hf : Flat d enc) (h : d.R e w B ok v xs) : Row d e w B v xs := by
  obtain ⟨_, inner, ho, hr⟩ := h
  exact ⟨fun k hk => hk.symm, inner, ho, hr.imp_ (fun p c hp => hf.M.2 (hf.M.1 hp))⟩
set_option maxHeartbeats 1000000 in
theorem clone_tok (l : List S35) (A : Option Addr) (c : Nat) (w : World) (hl : l.length ≤ 1000000) (hr : Kd.C k35 w A l.length l) (hc : l.length ≤ c) :
    Calls Tryd.prog 49 #[.slice A l.length c] w fun e w' => ∃ v : Value, e = .returned v ∧ Row k35 35 w' w.heap.size v l ∧ Below w.heap.size w w' := by
  have he := fun (w : World) (A : Option Addr) (n c : Nat) => Lib.run_eql_slice_nil (P := Tryd.prog) w 22 35 A n c 0 0 Tryd.underlying22
  cases A with
  | none =>
    have h0 : l = [] := by
      rcases Nat.eq_zero_or_pos l.length with h | h
      · exact List.length_eq_zero_iff.1 h
      · obtain ⟨ad, h2, _⟩ := hr.2.2 h
        cases h2
    subst h0
    go_enter Tryd.func49, Tryd.ntmps49
    go_wp2_with fail
    go_ret
    exact ⟨_, rfl, Kd.R_nil _ _ _ _ _, by repeat (first | (with_reducible first | exact Below.refl _ _ | apply below_alloc | apply pw_below_drewN | apply below_drew1))⟩
  | some ad =>
    have HR := Aside0.mk hr
    clear hr
    go_enter Tryd.func49, Tryd.ntmps49
    go_wp2_with (first
      | ((with_reducible refine gate_dst (N := 5) rfl ?_); refine Kd.R_lit k35 w.heap.size 35 rfl (N := 5) rfl (xs := []) (inner := []) (ok := fun _ => True) (okp := fun _ => True) ?hr ?hp (fun _ hk => hk) trivial (Below.refl _ _) (Nat.le_refl _) (by simp) ?_; (case hr => first | (go_simp; done) | (go_simp; rfl)); (case hp => exact Reps.none _ _); intro v1 w1 ho1 hb1 hg1 hn1; clear hg1 hn1; have HO := Aside0.mk ho1; have HB := Aside0.mk hb1; clear ho1 hb1; obtain ⟨Ao, co, eo⟩ := Kd.R_slice HO.out; subst eo)
      | ((with_reducible refine gate_builtin (b := .append) (xs := #[.tmp 5, .tmp 6]) rfl ?_); at_builtin; refine Kd.R_append_rows k35 (w0 := w) w.heap.size rfl (.tmp 5) (.tmp 6) 22 35 (.agg #[(.string ⟨#[]⟩), (.int .i64 0), (.int .i64 0)]) 32 rfl Tryd.underlying22 info35 rfl (by decide) (by omega) _ [] l _ _ _ (fun _ => True) (fun _ => False) rfl rfl HO.out (HR.out.imp_ HB.out (fun _ _ h => h)) (fun _ _ h => h) (fun _ h => h.elim) (fun _ _ => trivial) HB.out HB.out.size (by simp only [List.length_nil]; omega) ?_; intro v2 w2 ho2 hb2 hg2 hn2; clear hg2 hn2 HO HB; have HO := Aside0.mk ho2; have HB := Aside0.mk hb2; clear ho2 hb2))
    go_ret
    exact ⟨_, rfl, Row.of_R flat_tok HO.out, HB.out⟩
end Go.Proofs.YteonnadhdmcloaaDoor.G
namespace Go.Proofs.YteonnadhdmcloaaDoor.G
open Go.RowKit Go.Proofs.YteonnadhdmcloaaDoorW.PrintWords Go.Proofs.YteonnadhdmcloaaDoorW.PrintLast Go.Proofs.YteonnadhdmcloaaDoorW.PrintMore
set_option linter.unusedVariables false
set_option linter.unusedSimpArgs false
set_option maxHeartbeats 2000000 in
theorem index_off (w : World) (A : Option Addr) (c : Nat) (xs : List S35) (X : Nat) (n : Int) (hr : Kd.C k35 w A xs.length xs) (hxl : xs.length ≤ 17592186044416) (ht : X < w.heap.size ∧ w.cell? ⟨X, 0, none⟩ = some (.int .i64 n)) :
    Calls Tryd.prog 55 #[.slice A xs.length c, .func (.func 50) #[] #[.pointer (some ⟨X, 0, none⟩)]] w fun e w' => e = .returned (.int .i64 (idxB (offB n) xs)) ∧ Below w.heap.size w w' := by
  have HR := Aside0.mk hr
  have HT := Aside0.mk ht
  clear hr ht
  go_enter Tryd.func55, Tryd.ntmps55
  go_wp2_with fail
  go_loopg [8] xs.length (fun kq v8 w' => IRel (offB n) xs w kq v8 w')
  case atStart => exact ⟨0, by omega, rfl, Below.refl _ _, fun j h => absurd h (Nat.not_lt_zero j)⟩
  case round =>
    obtain ⟨i, hi, rfl, hb, hp⟩ := hrel
    have HI := Aside0.mk hi
    have HB := Aside0.mk hb
    have HP := Aside0.mk hp
    clear hi hb hp
    by_cases hil : i < xs.length
    · have t1 : decide ((i : Int) < (xs.length : Int)) = true := by simp; omega
      obtain ⟨ad, e1, x0, x1, x2⟩ := at_tok (Kd.C_below HR.out HB.out) i hil rfl
      subst e1
      go_wp2_with fail
      go_at_call 50
      refine (off_calls _ n xs[i] X ⟨Nat.lt_of_lt_of_le HT.out.1 HB.out.size, (HB.out.cell (p := ⟨X, 0, none⟩) HT.out.1).trans HT.out.2⟩).mono ?_
      rintro e w1 ⟨rfl, hd⟩
      have HB1 := Aside0.mk (HB.out.trans (hd.mono HB.out.size))
      clear hd x0 x1 x2
      obtain ⟨b, hpb⟩ : ∃ b, (offB n) xs[i] = b := ⟨_, rfl⟩
      rw [show offB n xs[i] = b from hpb]
      have HPB := Aside0.mk hpb
      clear hpb
      cases b with
      | true =>
        go_wp2_with fail
        go_ret
        exact ⟨by rw [idxB_at hil HPB.out (fun j h => HP.out j h (by omega))]; rfl, HB1.out⟩
      | false =>
        go_wp2_with fail
        go_roundg (gk - 1)
        case measure => have := HI.out; omega
        case rel =>
          refine ⟨i + 1, by have := HI.out; omega, by go_num, HB1.out, fun j h h2 => ?_⟩
          by_cases hj : j < i
          · exact HP.out j hj h2
          · obtain rfl : j = i := by omega
            exact HPB.out
    · have t1 : decide ((i : Int) < (xs.length : Int)) = false := by simp; omega
      go_wp2_with fail
      go_ret
      exact ⟨by rw [idxB_none (fun j h => HP.out j (by have := HI.out; omega) h)]; rfl, HB.out⟩
theorem run_clear_tok (w : World) (b o n c : Nat) (hn : 0 < n) (hc : ∀ j, j < n * 3 → (w.cell? ⟨b, o + j, none⟩).isSome = true) (hf : ∀ j, j < n * 3 → w.frozen? ⟨b, o + j, none⟩ = false) :
    ∃ zs : List Value, zs.length = n * 3 ∧ ∀ ty : TypeId, (Builtin.clear_ #[22] ty #[.slice (some ⟨b, o, none⟩) n c]).run Tryd.prog w = .ok (.tuple #[]) (w.setCells b o zs) := by
  have hv : ∀ w, (zeroValue 35).run Tryd.prog w = .ok (.agg #[(.string ⟨#[]⟩), (.int .i64 0), (.int .i64 0)]) w := Tryd.zeroValue35
  obtain ⟨zs, hzs⟩ : ∃ zs, zs = (Builtin.zeroCells (Value.agg #[(.string ⟨#[]⟩), (.int .i64 0), (.int .i64 0)]).cells n).toList := ⟨_, rfl⟩
  have hl : zs.length = n * 3 := by rw [hzs]; simp [Builtin.zeroCells, Value.cells]
  have h1 : ∀ u ∈ zs, u.oneCell' = true := by
    intro u hu
    rw [hzs] at hu
    simp only [Builtin.zeroCells, Value.cells, Array.toList_map, List.mem_map] at hu
    obtain ⟨j, _, rfl⟩ := hu
    have h3 : j % 3 < 3 := Nat.mod_lt _ (by decide)
    show (#[(Value.string ⟨#[]⟩), (.int .i64 0), (.int .i64 0)][j % 3]!).oneCell' = true
    rcases (show j % 3 = 0 ∨ j % 3 = 1 ∨ j % 3 = 2 by omega) with h | h | h <;> rw [h] <;> rfl
  have hst := run_storeCells_cells (P := Tryd.prog) b o zs 0 w (by rw [hl]; simpa using hc) (by rw [hl]; simpa using hf) h1
  simp only [Nat.add_zero] at hst
  refine ⟨zs, hl, fun ty => ?_⟩
  obtain ⟨m, rfl⟩ : ∃ m, n = m + 1 := ⟨n - 1, by omega⟩
  rw [hzs] at hst ⊢
  simp [Builtin.clear_, run_underlying Tryd.underlying22, hv, hst]
def keepB (n : Int) (l : List S35) : List S35 := l.filter fun u => !offB n u
def DRel (n : Int) (l : List S35) (w : World) (B : Nat) (v : Value) (kq : Nat) (v5 v6 : Value) (w' : World) : Prop :=
  ∃ i j : Nat, ∃ cur : List S35, j + kq = l.length ∧ v5 = .int .i64 (i : Int) ∧ v6 = .int .i64 (j : Int) ∧ i < j ∧ cur.length = l.length ∧ cur.take i = keepB n (l.take j) ∧ cur.drop j = l.drop j ∧ Below B w w' ∧ Kd.Q k35 35 w' B (own v) v cur
theorem keep_snoc {n : Int} {l : List S35} {j : Nat} (hj : j < l.length) : keepB n (l.take (j + 1)) = keepB n (l.take j) ++ (if offB n l[j] then [] else [l[j]]) := by
  unfold keepB
  rw [List.take_succ_eq_append_getElem hj, List.filter_append]
  cases h : offB n l[j] <;> simp [List.filter_cons, h]
theorem keep_all {n : Int} {l : List S35} (h : ∀ (j : Nat) (hj : j < l.length), offB n l[j] = false) : keepB n l = l := by
  unfold keepB
  rw [List.filter_eq_self]
  intro a ha
  obtain ⟨j, hj, rfl⟩ := List.getElem_of_mem ha
  rw [h j hj]; rfl
theorem at_new (W : World) (b o n c i : Nat) (hi : i < n) (hc : n ≤ c) (hn : n ≤ 17592186044416) :
    (Instr.slice 22 (.slice (some ⟨b, o, none⟩) n c) (some (.int .i64 (i : Int))) none none).run Tryd.prog W = .ok (.slice (some ⟨b, o + i * 3, none⟩) (n - i) (c - i)) W := by
  obtain ⟨i0, hi0, _, hsz, _⟩ := info_parts info35
  have hc2 := cut_from (P := Tryd.prog) 22 35 .i64 Tryd.underlying22 hi0 3 hsz (some ⟨b, o, none⟩) n c (i : Int) (by omega) (by omega)
  rw [Int.toNat_natCast, if_neg (by omega)] at hc2
  have e := hc2 W
  rw [show Option.map (fun x : Addr => x.add (i * 3)) (some ⟨b, o, none⟩) = some ⟨b, o + i * 3, none⟩ from (by simp [Addr.add])] at e
  exact e
theorem C_before {w : World} {g o : Nat} {xs : List S35} (h : Kd.C k35 w (some ⟨g, o, none⟩) xs.length xs) (zs : List Value) (p : Nat) (hp : o + xs.length * 3 ≤ p) : Kd.C k35 (w.setCells g p zs) (some ⟨g, o, none⟩) xs.length xs := by
  refine ⟨h.1, h.2.1, fun hn => ?_⟩
  obtain ⟨ad, e, hc⟩ := h.2.2 hn
  injection e with e
  subst e
  refine ⟨_, rfl, fun j q hj => ?_⟩
  obtain ⟨c, hl, hR, hu⟩ := hc j q hj
  obtain rfl := k35_open hR
  refine ⟨_, hl, k35_mk _ _, fun i u hi => ?_⟩
  have hjl : j < xs.length := (List.getElem?_eq_some_iff.1 hj).1
  have hil : i < 3 := (List.getElem?_eq_some_iff.1 hi).1
  have h1 := hu i u hi
  rw [add_at] at h1 ⊢
  have h3 : w.rangeAt g (o + (j * k35.sz + i)) [u] := by
    intro k v hk
    cases k with
    | zero => simp only [List.getElem?_cons_zero] at hk; injection hk with hk; subst hk; exact h1
    | succ k => simp at hk
  have h4 := World.rangeAt_setCells_apart h3 g p zs (.inr (.inl (by show o + (j * 3 + i) + 1 ≤ p; omega)))
  exact h4 0 u rfl
set_option maxHeartbeats 8000000 in
set_option maxRecDepth 100000 in
theorem delete_calls (w : World) (B : Nat) (A : Option Addr) (c : Nat) (l : List S35) (X : Nat) (n : Int) (hq : Kd.Q k35 35 w B (own (.slice A l.length c)) (.slice A l.length c) l) (hcl : l.length ≤ c) (hl : l.length ≤ 100000) (hB : B ≤ w.heap.size) (hX : X < B ∧ w.cell? ⟨X, 0, none⟩ = some (.int .i64 n)) :
    Calls Tryd.prog 48 #[.slice A l.length c, .func (.func 50) #[] #[.pointer (some ⟨X, 0, none⟩)]] w fun e w' => ∃ A' c', e = .returned (.slice A' (keepB n l).length c') ∧ (keepB n l).length ≤ c' ∧ Kd.C k35 w' A' (keepB n l).length (keepB n l) ∧ Below B w w' := by
  have HQ := Aside0.mk hq
  have HX := Aside0.mk hX
  have HBW := Aside0.mk hB
  clear hq hX hB
  go_enter Tryd.func48, Tryd.ntmps48
  go_wp2_with fail
  go_at_call 55
  refine (index_off w A c l X n (Kd.Q_reads' HQ.out).2.2 (by omega) ⟨Nat.lt_of_lt_of_le HX.out.1 HBW.out, HX.out.2⟩).mono ?_
  rintro e w1 ⟨rfl, hb⟩
  have HB1 := Aside0.mk (hb.mono HBW.out)
  have HQ1 := Aside0.mk (Kd.Q_below HQ.out hb)
  clear hb HQ
  by_cases hany : l.any (offB n) = true
  · obtain ⟨i0, hi0, e0⟩ : ∃ i0 : Nat, i0 < l.length ∧ l.findIdx (offB n) = i0 := by
      obtain ⟨x, hx, hp⟩ := List.any_eq_true.1 hany
      exact ⟨_, List.findIdx_lt_length_of_exists ⟨x, hx, hp⟩, rfl⟩
    have hix : idxB (offB n) l = (i0 : Int) := by unfold idxB; rw [if_pos hany, e0]
    rw [hix]
    have hp0 := ((List.findIdx_eq hi0).1 e0)
    have t0 : ((i0 : Int) == -1) = false := by simp
    have h0 : Aside0 (l.take i0 = keepB n (l.take (i0 + 1))) := ⟨by
      rw [keep_snoc hi0, hp0.1, keep_all, if_pos rfl, List.append_nil]
      intro j hj
      rw [List.length_take] at hj
      rw [List.getElem_take]
      exact hp0.2 j (by omega)⟩
    clear hp0 e0 hix hany
    obtain ⟨g, o, c2, ev, hgB, hgl, _⟩ := Kd.Q_form HQ1.out (by omega)
    injection ev with ev1 ev2 ev3
    subst ev1
    clear ev2 ev3
    go_wp2_with fail
    go_loopg [5, 6] (l.length - (i0 + 1)) (fun kq v5 v6 w' => DRel n l w B (.slice (some ⟨g, o, none⟩) l.length c) kq v5 v6 w')
    case atStart => exact ⟨i0, i0 + 1, l, by omega, rfl, by go_num, by omega, rfl, h0.out, rfl, HB1.out, HQ1.out⟩
    case round =>
      obtain ⟨i, j, cur, hj, rfl, rfl, hij, hcl2, htk, hdr, hb, hq⟩ := hrel
      clear HQ1 HB1 h0
      have HJ := Aside0.mk hj
      have HTK := Aside0.mk htk
      have HDR := Aside0.mk hdr
      have HB := Aside0.mk hb
      have HQ := Aside0.mk hq
      have HL2 := Aside0.mk hcl2
      have hxc := (hb.cell (p := ⟨X, 0, none⟩) HX.out.1).trans HX.out.2
      have HXC := Aside0.mk hxc
      clear hj htk hdr hb hq hcl2 hxc
      by_cases hjl : j < l.length
      · have hcj : j < cur.length := by have := HL2.out; omega
        have hje : cur[j]'hcj = l[j] := by
          have h := congrArg (fun t => t[0]?) HDR.out
          simp only [List.getElem?_drop, Nat.add_zero] at h
          rw [List.getElem?_eq_getElem hcj, List.getElem?_eq_getElem hjl] at h
          exact Option.some.inj h
        obtain ⟨hn0, hnc, hC0⟩ := Kd.Q_reads' HQ.out
        obtain ⟨ad, e1, x0, x1, x2⟩ := at_tok hC0 j hcj rfl
        injection e1 with e1
        subst e1
        rw [hje] at x0 x1 x2
        simp only [add_at] at x0 x1 x2
        have t1 : decide ((j : Int) < (l.length : Int)) = true := by simp; omega
        have HJE := Aside0.mk hje
        have HSZ := Aside0.mk (Nat.le_trans HBW.out HB.out.size)
        clear hje hC0 hn0
        have hbv := below_alloc (Below.refl wr.heap.size wr) (.cells #[.string l[j].f0, .int .i64 l[j].f1, .int .i64 l[j].f2] 35)
        have HV := Aside0.mk (TBox.new wr l[j])
        have hxv := (hbv.cell (p := ⟨X, 0, none⟩) (Nat.lt_of_lt_of_le HX.out.1 HSZ.out)).trans HXC.out
        have HXV := Aside0.mk hxv
        have HBV := Aside0.mk hbv
        clear hxv hbv
        go_wp2_with fail
        go_at_call 50
        refine (off_calls _ n l[j] X ⟨by have := HX.out.1; have := HSZ.out; simp; omega, HXV.out⟩).mono ?_
        rintro e w2 ⟨rfl, hd⟩
        have HT2 := Aside0.mk (HV.out.move hd)
        have HS2 := Aside0.mk (HBV.out.trans (hd.mono HBV.out.size))
        clear hd HV HXV HBV x0 x1 x2
        have HB2 := Aside0.mk (HB.out.trans (HS2.out.mono HSZ.out))
        have HQ2 := Aside0.mk (Kd.Q_below HQ.out HS2.out)
        clear HB HQ HXC
        obtain ⟨b, hpb⟩ : ∃ b, offB n l[j] = b := ⟨_, rfl⟩
        have hks := keep_snoc (n := n) hjl
        rw [hpb] at hks
        have HKS := Aside0.mk hks
        rw [hpb]
        clear hpb hks
        cases b with
        | true =>
          go_wp2_with fail
          go_roundg (gk - 1)
          case measure => have := HJ.out; omega
          case rel =>
            exact ⟨i, j + 1, cur, by have := HJ.out; omega, by go_num, by go_num, by omega, HL2.out, by rw [HKS.out, HTK.out]; simp, by rw [← List.drop_drop, HDR.out, List.drop_drop], HB2.out, HQ2.out⟩
        | false =>
          obtain ⟨cc, hcc1, hcc2, hcc3, hcc4⟩ := Kd.Q_elem HQ2.out z35 (i : Int) (by omega) (by omega)
          obtain rfl := k35_openM hcc2
          have hin : ((i : Int)).toNat = i := Int.toNat_natCast i
          have y0 := hcc3 0 _ rfl
          have y1 := hcc3 1 _ rfl
          have y2 := hcc3 2 _ rfl
          have g0 := hcc4 0
          have g1 := hcc4 1
          have g2 := hcc4 2
          rw [hin, show k35.sz = 3 from rfl, Nat.add_zero] at y0 g0
          rw [hin, show k35.sz = 3 from rfl] at y1 y2 g1 g2
          obtain ⟨hq3, hg3⟩ := Kd.Q_seg HQ2.out (i : Int) (by omega) (by omega) (seg := [.string l[j].f0, .int .i64 l[j].f1, .int .i64 l[j].f2]) (j := 0) (x' := l[j]) (okp := fun k => own (Value.slice (some { block := g, off := o }) l.length c) k ∧ k ≠ g) hcc1 hcc3 (by simp [show k35.sz = 3 from rfl]) (by simpa using k35_mkM _ _ _ l[j]) (fun _ hk => hk)
          rw [hin, show k35.sz = 3 from rfl, Nat.add_zero] at hq3 hg3
          have HQ3 := Aside0.mk hq3
          have HB3 := Aside0.mk (pw_below_grown HB2.out (some g) (Nat.le_trans HSZ.out HS2.out.size) hg3 (fun k hk => by injection hk with hk; omega))
          have v0 := HT2.out.c0
          have v1 := HT2.out.c1
          have v2 := HT2.out.c2
          have s1 : decide ((i : Int) < (l.length : Int)) = true := by simp; omega
          clear hcc1 hcc2 hcc3 hcc4 hin hq3 hg3 HQ2 HB2
          go_wp2_with fail
          go_roundg (gk - 1)
          case measure => have := HJ.out; omega
          case rel =>
            refine ⟨i + 1, j + 1, cur.set i l[j], by have := HJ.out; omega, by go_num, by go_num, by omega, by rw [List.length_set]; exact HL2.out, ?_, ?_, HB3.out, HQ3.out⟩
            · rw [HKS.out, ← HTK.out, if_neg (by decide), List.take_set, List.take_succ_eq_append_getElem (by omega), List.set_append_right _ _ (by rw [List.length_take]; omega)]
              simp [List.length_take, Nat.min_eq_left (show i ≤ cur.length by omega)]
            · rw [List.drop_set_of_lt (by omega), ← List.drop_drop, HDR.out, List.drop_drop]
      · have hjl2 : j = l.length := by have := HJ.out; omega
        subst hjl2
        have t1 : decide ((l.length : Int) < (l.length : Int)) = false := by simp
        have hce : ∀ k, k < (l.length - i) * 3 → (wr.cell? ⟨g, o + i * 3 + k, none⟩).isSome = true ∧ wr.frozen? ⟨g, o + i * 3 + k, none⟩ = false := by
          intro k hk
          obtain ⟨cc, hcc1, hcc2, hcc3, hcc4⟩ := Kd.Q_elem HQ.out z35 ((i + k / 3 : Nat) : Int) (by omega) (by omega)
          have e3 : o + (((i + k / 3 : Nat) : Int)).toNat * k35.sz + k % 3 = o + i * 3 + k := by rw [Int.toNat_natCast, show k35.sz = 3 from rfl]; omega
          refine ⟨?_, by rw [← e3]; exact hcc4 _⟩
          have hlt : k % 3 < cc.length := by rw [hcc1]; exact Nat.mod_lt _ (by decide)
          rw [← e3, hcc3 (k % 3) _ (List.getElem?_eq_getElem hlt)]
          rfl
        obtain ⟨zs, hzl, hcl⟩ := run_clear_tok wr g (o + i * 3) (l.length - i) (c - i) (by omega) (fun k hk => (hce k hk).1) (fun k hk => (hce k hk).2)
        have hsl := fun W => at_new W g o l.length c i (by omega) (by omega) (by omega)
        have hCi : Kd.C k35 wr (some ⟨g, o, none⟩) (cur.take i).length (cur.take i) := Kd.C_take (Kd.Q_reads' HQ.out).2.2 (by have := HL2.out; omega)
        have htl : (cur.take i).length = i := by rw [List.length_take]; have := HL2.out; omega
        have HC := Aside0.mk (C_before hCi zs (o + i * 3) (by rw [htl]; omega))
        have HK : Aside0 (keepB n l = cur.take i) := ⟨by rw [HTK.out, List.take_length]⟩
        have HTL := Aside0.mk htl
        have HBZ := Aside0.mk (Go.below_setCells (B := B) (a := w) (b := g) hgB zs (o + i * 3) wr HB.out)
        clear hce hCi htl hzl HQ HB HTK HDR
        go_wp2_with fail
        go_ret
        exact ⟨some ⟨g, o, none⟩, c, by rw [HK.out, HTL.out]; rfl, by rw [HK.out, HTL.out]; omega, by rw [HK.out]; exact HC.out, HBZ.out⟩
  · have hix : idxB (offB n) l = -1 := by unfold idxB; rw [if_neg hany]
    have HK : Aside0 (keepB n l = l) := ⟨keep_all fun j hj => by
      have h2 := hany
      rw [Bool.not_eq_true, List.any_eq_false] at h2
      have := h2 l[j] (List.getElem_mem hj)
      simpa using this⟩
    rw [hix]
    clear hix hany
    go_wp2_with fail
    go_ret
    exact ⟨A, c, by rw [HK.out]; rfl, by rw [HK.out]; exact hcl, by rw [HK.out]; exact (Kd.Q_reads' HQ1.out).2.2, HB1.out⟩
def KeptPost (n : Int) (l : List S35) (B : Nat) (w : World) (e : Ending) (w' : World) : Prop := ∃ A' c', e = .returned (.slice A' (keepB n l).length c') ∧ (keepB n l).length ≤ c' ∧ Kd.C k35 w' A' (keepB n l).length (keepB n l) ∧ Below B w w'
set_option maxHeartbeats 4000000 in
theorem level_calls (w : World) (A : Option Addr) (c : Nat) (l : List S35) (st : ByteArray) (ex n : Int) (A2 : Option Addr) (n2 c2 : Nat) (hr : Kd.C k35 w A l.length l) (hcl : l.length ≤ c) (hl : l.length ≤ 100000) :
    Calls Tryd.prog 29 #[.agg #[.slice A l.length c, .string st, .int .i64 ex, .slice A2 n2 c2], .int .i64 n] w (KeptPost n l w.heap.size w) := by
  have HB := Aside0.mk (below_alloc (below_alloc (Below.refl w.heap.size w) (.cells #[.slice A l.length c, .string st, .int .i64 ex, .slice A2 n2 c2] 25)) (.cells #[.int .i64 n] 3))
  have HR := Aside0.mk (Kd.C_below hr HB.out)
  clear hr
  go_enter Tryd.func29, Tryd.ntmps29
  go_wp2_with fail
  generalize hW1 : (w.alloc (.cells #[.slice A l.length c, .string st, .int .i64 ex, .slice A2 n2 c2] 25)).alloc (.cells #[.int .i64 n] 3) = W1 at *
  have hx1 : w.heap.size + 1 < W1.heap.size ∧ W1.cell? ⟨w.heap.size + 1, 0, none⟩ = some (.int .i64 n) := by subst hW1; exact ⟨by simp, by simp [go_sem]⟩
  have HX := Aside0.mk hx1
  clear hW1 hx1
  go_at_call 49
  refine (clone_tok l A c W1 (by omega) HR.out hcl).mono ?_
  rintro e w1 ⟨v, rfl, hrow, hb⟩
  obtain ⟨A1, c1, rfl, hc1, _⟩ := Kd.Q_reads (Kd.Q_of_R hrow)
  have HQ := Aside0.mk (Kd.Q_of_R hrow)
  have HX1 := Aside0.mk ((hb.cell (p := ⟨w.heap.size + 1, 0, none⟩) HX.out.1).trans HX.out.2)
  have HB1 := Aside0.mk hb
  clear hb hrow HR
  go_wp2_with fail
  go_at_call 48
  refine (delete_calls w1 W1.heap.size A1 c1 l (w.heap.size + 1) n HQ.out hc1 hl HB1.out.size ⟨HX.out.1, HX1.out⟩).mono ?_
  rintro e w2 ⟨A3, c3, rfl, h3, hC3, hb3⟩
  have HC3 := Aside0.mk hC3
  have HB3 := Aside0.mk (HB.out.trans ((HB1.out.trans hb3).mono HB.out.size))
  clear hC3 hb3 HQ HX HX1 HB HB1
  go_wp2_with fail
  go_ret
  exact ⟨A3, c3, rfl, h3, HC3.out, HB3.out⟩
end Go.Proofs.YteonnadhdmcloaaDoor.G
namespace Go.Proofs.YteonnadhdmcloaaDoor.G
open Go.RowKit Go.Proofs.YteonnadhdmcloaaDoorW.PrintWords Go.Proofs.YteonnadhdmcloaaDoorW.PrintLast Go.Proofs.YteonnadhdmcloaaDoorW.PrintMore
set_option linter.unusedVariables false
set_option linter.unusedSimpArgs false
structure Box4 (W : World) (X : Nat) (a b c d : Value) : Prop where
  lt : X < W.heap.size
  c0 : W.cell? ⟨X, 0, none⟩ = some a
  c1 : W.cell? ⟨X, 1, none⟩ = some b
  c2 : W.cell? ⟨X, 2, none⟩ = some c
  c3 : W.cell? ⟨X, 3, none⟩ = some d
theorem Box4.move {W W' : World} {X B : Nat} {a b c d : Value} (h : Box4 W X a b c d) (hb : Below B W W') (hX : X < B) : Box4 W' X a b c d :=
  ⟨Nat.lt_of_lt_of_le h.lt hb.size, (hb.cell (p := ⟨X, 0, none⟩) hX).trans h.c0, (hb.cell (p := ⟨X, 1, none⟩) hX).trans h.c1, (hb.cell (p := ⟨X, 2, none⟩) hX).trans h.c2, (hb.cell (p := ⟨X, 3, none⟩) hX).trans h.c3⟩
theorem Box4.new (w : World) (a b c d : Value) (t : TypeId) : Box4 (w.alloc (.cells #[a, b, c, d] t)) w.heap.size a b c d :=
  ⟨by rw [World.size_alloc]; omega, by simp [go_sem], by simp [go_sem], by simp [go_sem], by simp [go_sem]⟩
def mostB (l : List S35) : Int := l.foldl (fun m t => max m t.f1) 0
def newB (l : List S35) (i : Nat) (t : S35) : Bool := tokB t && !(l.take i).any (likeB t)
def newsB (l : List S35) : Bool := (List.range l.length).all fun i => match l[i]? with | some t => newB l i t | none => true
def levelsB (l : List S35) : Bool := (List.range (mostB l).toNat).all fun k => !(keepB ((k : Int) + 1) l).isEmpty
def tokensB (l : List S35) : Bool := newsB l && levelsB l && decide (l.length ≤ 40)
theorem newsB_iff {l : List S35} : newsB l = true ↔ ∀ i (h : i < l.length), newB l i l[i] = true := by
  unfold newsB
  rw [List.all_eq_true]
  constructor
  · intro h i hi
    have := h i (List.mem_range.2 hi)
    rw [List.getElem?_eq_getElem hi] at this
    exact this
  · intro h i hi
    have hi := List.mem_range.1 hi
    rw [List.getElem?_eq_getElem hi]
    exact h i hi
theorem mostB_snoc {l : List S35} {i : Nat} (h : i < l.length) : mostB (l.take (i + 1)) = max (mostB (l.take i)) l[i].f1 := by
  unfold mostB
  rw [List.take_succ_eq_append_getElem h, List.foldl_append]
  rfl
theorem mostB_le (l : List S35) : (∀ t ∈ l, t.f1 ≤ 8) → 0 ≤ mostB l ∧ mostB l ≤ 8 := by
  have : ∀ (l : List S35) (m : Int), 0 ≤ m → m ≤ 8 → (∀ t ∈ l, t.f1 ≤ 8) → 0 ≤ l.foldl (fun m t => max m t.f1) m ∧ l.foldl (fun m t => max m t.f1) m ≤ 8 := by
    intro l
    induction l with
    | nil => intro m h0 h1 _; exact ⟨h0, h1⟩
    | cons t l ih =>
      intro m h0 h1 h
      have := h t (by simp)
      exact ih (max m t.f1) (by omega) (by omega) (fun u hu => h u (by simp [hu]))
  exact this l 0 (by decide) (by decide)
theorem tokB_le {t : S35} (h : tokB t = true) : 0 ≤ t.f1 ∧ t.f1 ≤ 8 := by
  unfold tokB at h
  rw [Bool.and_eq_true] at h
  obtain ⟨_, h⟩ := h
  split at h
  · omega
  · simp only [Bool.and_eq_true, decide_eq_true_eq] at h
    omega
def GRel (l : List S35) (w : World) (X : Nat) (a b c d : Value) (kq : Nat) (v3 v10 : Value) (w' : World) : Prop :=
  ∃ i : Nat, i + kq = l.length ∧ v10 = .int .i64 (i : Int) ∧ v3 = .int .i64 (mostB (l.take i)) ∧ Below w.heap.size w w' ∧ Box4 w' X a b c d ∧ ∀ j (h : j < i) (h2 : j < l.length), newB l j l[j] = true
set_option maxHeartbeats 8000000 in
set_option maxRecDepth 100000 in
theorem tokens_calls (w : World) (A : Option Addr) (c : Nat) (l : List S35) (st : ByteArray) (ex : Int) (A2 : Option Addr) (n2 c2 : Nat) (hr : Kd.C k35 w A l.length l) (hcl : l.length ≤ c) (hl : l.length ≤ 100000) :
    Calls Tryd.prog 26 #[.agg #[.slice A l.length c, .string st, .int .i64 ex, .slice A2 n2 c2]] w fun e w' => e = .returned (.bool (tokensB l)) ∧ Below w.heap.size w w' := by
  have HX := Aside0.mk (Box4.new w (.slice A l.length c) (.string st) (.int .i64 ex) (.slice A2 n2 c2) 25)
  have HB := Aside0.mk (below_alloc (Below.refl w.heap.size w) (.cells #[.slice A l.length c, .string st, .int .i64 ex, .slice A2 n2 c2] 25))
  have HR := Aside0.mk hr
  clear hr
  obtain ⟨X, hX⟩ : ∃ X, X = w.heap.size := ⟨_, rfl⟩
  rw [← hX] at HX
  have HXE := Aside0.mk hX
  go_enter Tryd.func26, Tryd.ntmps26
  have x0 := HX.out.c0
  rw [hX] at x0
  clear hX
  go_wp2_with fail
  clear x0
  rw [← HXE.out]
  go_loopg [3, 10] l.length (fun kq v3 v10 w' => GRel l w X (.slice A l.length c) (.string st) (.int .i64 ex) (.slice A2 n2 c2) kq v3 v10 w')
  case atStart => exact ⟨0, by omega, rfl, rfl, HB.out, HX.out, fun j h => absurd h (Nat.not_lt_zero j)⟩
  case round =>
    obtain ⟨i, hi, rfl, rfl, hb, hx, hn⟩ := hrel
    have HI := Aside0.mk hi
    have HB1 := Aside0.mk hb
    have HX1 := Aside0.mk hx
    have HN := Aside0.mk hn
    clear hi hb hx hn HB HX
    by_cases hil : i < l.length
    · have t1 : decide ((i : Int) < (l.length : Int)) = true := by simp; omega
      obtain ⟨ad, e1, x0, x1, x2⟩ := at_tok (Kd.C_below HR.out HB1.out) i hil rfl
      subst e1
      have HV := Aside0.mk (TBox.new wr l[i])
      have HBV := Aside0.mk (below_alloc (Below.refl wr.heap.size wr) (.cells #[.string l[i].f0, .int .i64 l[i].f1, .int .i64 l[i].f2] 35))
      have HNB := Aside0.mk (show newB l i l[i] = (tokB l[i] && !(l.take i).any (likeB l[i])) from rfl)
      obtain ⟨b1, hb1⟩ : ∃ b, tokB l[i] = b := ⟨_, rfl⟩
      obtain ⟨b2, hb2⟩ : ∃ b, (l.take i).any (likeB l[i]) = b := ⟨_, rfl⟩
      have ht := token_calls l[i]
      rw [hb1] at ht
      have HT := Aside0.mk ht
      have HE1 := Aside0.mk hb1
      have HE2 := Aside0.mk hb2
      clear ht hb1 hb2
      go_wp2_with fail
      go_at_call 45
      refine (HT.out _).mono ?_
      rintro e w2 ⟨rfl, hd⟩
      have HV2 := Aside0.mk (HV.out.move hd)
      have hbb := HBV.out.trans (hd.mono HBV.out.size)
      have HX2 := Aside0.mk (HX1.out.move hbb HX1.out.lt)
      have HB2 := Aside0.mk (HB1.out.trans (hbb.mono HB1.out.size))
      clear hd hbb HV HBV HX1 HB1 x0 x1 x2
      cases b1 with
      | false =>
        have HF : Aside0 (tokensB l = false) := ⟨by
          unfold tokensB
          rw [show newsB l = false from by
            rw [← Bool.not_eq_true, newsB_iff]
            intro h
            have := h i hil
            rw [HNB.out, HE1.out] at this
            cases this]
          rfl⟩
        go_wp2_with fail
        go_ret
        exact ⟨by rw [HF.out]; rfl, HB2.out⟩
      | true =>
        have y0 := HX2.out.c0
        have hcc := contains_like w2 (some ad) c (l.take i) wr.heap.size l[i] (Kd.C_take (Kd.C_below HR.out HB2.out) (by omega)) (by rw [List.length_take]; omega) HV2.out
        rw [List.length_take, Nat.min_eq_left (by omega), HE2.out] at hcc
        have HCC := Aside0.mk hcc
        clear hcc
        go_wp2_with fail
        go_at_call 46
        refine HCC.out.mono ?_
        rintro e w3 ⟨rfl, hd⟩
        have HV3 := Aside0.mk (HV2.out.move hd)
        have HX3 := Aside0.mk (HX2.out.move hd HX2.out.lt)
        have HB3 := Aside0.mk (HB2.out.trans (hd.mono HB2.out.size))
        clear hd HV2 HX2 HB2 y0 HCC HT
        cases b2 with
        | true =>
          have HF : Aside0 (tokensB l = false) := ⟨by
            unfold tokensB
            rw [show newsB l = false from by
              rw [← Bool.not_eq_true, newsB_iff]
              intro h
              have := h i hil
              rw [HNB.out, HE1.out, HE2.out] at this
              cases this]
            rfl⟩
          go_wp2_with fail
          go_ret
          exact ⟨by rw [HF.out]; rfl, HB3.out⟩
        | false =>
          have v1 := HV3.out.c1
          have HMS := Aside0.mk (mostB_snoc hil)
          go_wp2_with fail
          go_roundg (gk - 1)
          case measure => have := HI.out; omega
          case rel =>
            refine ⟨i + 1, by have := HI.out; omega, by go_num, ?_, HB3.out, HX3.out, fun j h h2 => ?_⟩
            · rw [HMS.out]
            · by_cases hj : j < i
              · exact HN.out j hj h2
              · obtain rfl : j = i := by omega
                rw [HNB.out, HE1.out, HE2.out]; rfl
    · have hi2 : i = l.length := by have := HI.out; omega
      subst hi2
      have t1 : decide ((l.length : Int) < (l.length : Int)) = false := by simp
      have hnews : newsB l = true := newsB_iff.2 fun j hj => HN.out j hj hj
      have hle8 : ∀ t ∈ l, t.f1 ≤ 8 := by
        intro t ht
        obtain ⟨j, hj, rfl⟩ := List.getElem_of_mem ht
        have := HN.out j hj hj
        unfold newB at this
        rw [Bool.and_eq_true] at this
        exact (tokB_le this.1).2
      have hmb := mostB_le l hle8
      have HNW := Aside0.mk hnews
      obtain ⟨m, hm⟩ : ∃ m : Nat, mostB l = (m : Int) := ⟨(mostB l).toNat, by omega⟩
      rw [List.take_length, hm]
      have hm8 : m ≤ 8 := by omega
      have HM := Aside0.mk hm
      clear hnews hle8 hmb hm HN
      go_wp2_with fail
      go_loopg [6] m (fun kq v6 w' => ∃ j : Nat, j + kq = m ∧ v6 = .int .i64 ((j : Int) + 1) ∧ Below w.heap.size w w' ∧ Box4 w' X (.slice A l.length c) (.string st) (.int .i64 ex) (.slice A2 n2 c2) ∧ ∀ k : Nat, k < j → (keepB ((k : Int) + 1) l).isEmpty = false)
      case atStart => exact ⟨0, by omega, rfl, HB1.out, HX1.out, fun k h => absurd h (Nat.not_lt_zero k)⟩
      case round =>
        obtain ⟨j, hj, rfl, hb, hx, hn⟩ := hrel
        have HJ := Aside0.mk hj
        have HB2 := Aside0.mk hb
        have HX2 := Aside0.mk hx
        have HN := Aside0.mk hn
        have x0 := hx.c0
        have x1 := hx.c1
        have x2 := hx.c2
        have x3 := hx.c3
        clear hj hb hx hn HB1 HX1
        by_cases hjm : j < m
        · have t2 : decide ((j : Int) + 1 ≤ (m : Int)) = true := by simp; omega
          go_wp2_with fail
          go_at_call 29
          refine (level_calls _ A c l st ex ((j : Int) + 1) A2 n2 c2 (Kd.C_below HR.out HB2.out) hcl hl).mono ?_
          rintro e w3 ⟨A3, c3, rfl, hc3, hC3, hd⟩
          have HX3 := Aside0.mk (HX2.out.move hd HX2.out.lt)
          have HB3 := Aside0.mk (HB2.out.trans (hd.mono HB2.out.size))
          clear hd HX2 HB2 x0 x1 x2 x3 hC3 hc3
          obtain ⟨kl, hkl⟩ : ∃ kl, keepB ((j : Int) + 1) l = kl := ⟨_, rfl⟩
          rw [hkl]
          have HKL := Aside0.mk hkl
          clear hkl
          cases kl with
          | nil =>
            have HF : Aside0 (tokensB l = false) := ⟨by
              unfold tokensB
              rw [show levelsB l = false from by
                unfold levelsB
                rw [← Bool.not_eq_true, List.all_eq_true]
                intro h
                have := h j (List.mem_range.2 (by rw [HM.out]; omega))
                rw [HKL.out] at this
                cases this]
              simp⟩
            go_wp2_with fail
            go_ret
            exact ⟨by rw [HF.out]; rfl, HB3.out⟩
          | cons u r =>
            have t3 : (((u :: r).length : Int) == 0) = false := by simp; omega
            go_wp2_with fail
            go_roundg (gk - 1)
            case measure => have := HJ.out; omega
            case rel =>
              refine ⟨j + 1, by have := HJ.out; omega, by go_num, HB3.out, HX3.out, fun k h => ?_⟩
              by_cases hk : k < j
              · exact HN.out k hk
              · obtain rfl : k = j := by omega
                rw [HKL.out]; rfl
        · have hjm2 : j = m := by have := HJ.out; omega
          subst hjm2
          have t2 : decide ((j : Int) + 1 ≤ (j : Int)) = false := by simp; omega
          have HL : Aside0 (tokensB l = decide (l.length ≤ 40)) := ⟨by
            unfold tokensB
            rw [HNW.out, show levelsB l = true from by
              unfold levelsB
              rw [List.all_eq_true]
              intro k hk
              have hk := List.mem_range.1 hk
              rw [HM.out, Int.toNat_natCast] at hk
              rw [HN.out k hk]; rfl]
            rfl⟩
          go_wp2_with fail
          go_ret
          exact ⟨by rw [HL.out]; simp; omega, HB2.out⟩
end Go.Proofs.YteonnadhdmcloaaDoor.G
namespace Go.Proofs.YteonnadhdmcloaaDoor.G
open Go.RowKit Go.Proofs.YteonnadhdmcloaaDoorW.PrintWords Go.Proofs.YteonnadhdmcloaaDoorW.PrintLast Go.Proofs.YteonnadhdmcloaaDoorW.PrintMore
set_option linter.unusedVariables false
set_option linter.unusedSimpArgs false
def mayB (l : List S35) (st : ByteArray) (ex : Int) (rs : List S39) : Bool := !rs.any ruleBad && decide (rs.length ≤ 100) && orB st && decide (0 ≤ ex) && decide (ex ≤ 9999) && tokensB l
set_option maxHeartbeats 8000000 in
set_option maxRecDepth 100000 in
theorem may_calls (w : World) (A : Option Addr) (c : Nat) (l : List S35) (st : ByteArray) (ex : Int) (A2 : Option Addr) (c2 : Nat) (rs : List S39) (hr : Kd.C k35 w A l.length l) (hcl : l.length ≤ c) (hl : l.length ≤ 100000) (hr2 : Kd.C k39 w A2 rs.length rs) (hl2 : rs.length ≤ 17592186044416) (hs : ∀ r ∈ rs, r.f1.length ≤ 17592186044416) :
    Calls Tryd.prog 10 #[.agg #[.slice A l.length c, .string st, .int .i64 ex, .slice A2 rs.length c2]] w fun e w' => e = .returned (.bool (mayB l st ex rs)) ∧ Below w.heap.size w w' := by
  have HX := Aside0.mk (Box4.new w (.slice A l.length c) (.string st) (.int .i64 ex) (.slice A2 rs.length c2) 25)
  have HB := Aside0.mk (below_alloc (Below.refl w.heap.size w) (.cells #[.slice A l.length c, .string st, .int .i64 ex, .slice A2 rs.length c2] 25))
  have HR := Aside0.mk hr
  have HR2 := Aside0.mk hr2
  have HS := Aside0.mk hs
  clear hr hr2 hs
  have hbad : mayB l st ex rs = (!rs.any ruleBad && decide (rs.length ≤ 100) && orB st && decide (0 ≤ ex) && decide (ex ≤ 9999) && tokensB l) := rfl
  obtain ⟨b1, hb1⟩ : ∃ b, rs.any ruleBad = b := ⟨_, rfl⟩
  obtain ⟨b2, hb2⟩ : ∃ b, decide (rs.length ≤ 100) = b := ⟨_, rfl⟩
  obtain ⟨b3, hb3⟩ : ∃ b, orB st = b := ⟨_, rfl⟩
  obtain ⟨b4, hb4⟩ : ∃ b, decide (0 ≤ ex) = b := ⟨_, rfl⟩
  obtain ⟨b5, hb5⟩ : ∃ b, decide (ex ≤ 9999) = b := ⟨_, rfl⟩
  obtain ⟨b6, hb6⟩ : ∃ b, tokensB l = b := ⟨_, rfl⟩
  have ho := or_calls st
  rw [hb3] at ho
  rw [hb1, hb2, hb3, hb4, hb5, hb6] at hbad
  rw [hbad]
  have HO := Aside0.mk ho
  have HE1 := Aside0.mk hb1
  have HE6 := Aside0.mk hb6
  have HE4 := Aside0.mk hb4
  have HE5 := Aside0.mk hb5
  clear ho hb1 hb3 hb6 hb4 hb5 hbad
  go_enter Tryd.func10, Tryd.ntmps10
  have x3 := HX.out.c3
  go_wp2_with fail
  clear x3
  generalize hW1 : w.alloc (.cells #[.slice A l.length c, .string st, .int .i64 ex, .slice A2 rs.length c2] 25) = W1 at *
  clear hW1
  go_at_call 20
  refine (contains_rule W1 A2 c2 rs (Kd.C_below HR2.out HB.out) hl2 HS.out).mono ?_
  rw [HE1.out]
  rintro e w1 ⟨rfl, hd⟩
  have HX1 := Aside0.mk (HX.out.move hd HX.out.lt)
  have HB1 := Aside0.mk (HB.out.trans (hd.mono HB.out.size))
  clear hd HX HB
  have x3 := HX1.out.c3
  cases b1 with
  | true =>
    go_wp2_with fail
    go_ret
    exact ⟨by simp, HB1.out⟩
  | false =>
    cases b2 with
    | false =>
      have t2 : decide ((rs.length : Int) ≤ 100) = false := by have := of_decide_eq_false hb2; simp; omega
      clear hb2
      go_wp2_with fail
      go_ret
      exact ⟨by simp, HB1.out⟩
    | true =>
      have t2 : decide ((rs.length : Int) ≤ 100) = true := by have := of_decide_eq_true hb2; simp; omega
      clear hb2
      have x1 := HX1.out.c1
      go_wp2_with fail
      go_at_call 23
      refine (HO.out w1).mono ?_
      rintro e w2 ⟨rfl, hd⟩
      have hb := drawn_below hd
      have HX2 := Aside0.mk (HX1.out.move hb HX1.out.lt)
      have HB2 := Aside0.mk (HB1.out.trans (hb.mono HB1.out.size))
      clear hd hb HX1 HB1 x1 x3
      have x2 := HX2.out.c2
      cases b3 with
      | false =>
        go_wp2_with fail
        go_ret
        exact ⟨by simp, HB2.out⟩
      | true =>
        cases b4 with
        | false =>
          have t4 := HE4.out
          go_wp2_with fail
          go_ret
          exact ⟨by simp, HB2.out⟩
        | true =>
          have t4 := HE4.out
          cases b5 with
          | false =>
            have t5 := HE5.out
            go_wp2_with fail
            go_ret
            exact ⟨by simp, HB2.out⟩
          | true =>
            have t5 := HE5.out
            have x0 := HX2.out.c0
            have x1 := HX2.out.c1
            have x3 := HX2.out.c3
            go_wp2_with fail
            go_at_call 26
            refine (tokens_calls w2 A c l st ex A2 rs.length c2 (Kd.C_below HR.out HB2.out) hcl hl).mono ?_
            rw [HE6.out]
            rintro e w3 ⟨rfl, hd⟩
            have HB3 := Aside0.mk (HB2.out.trans (hd.mono HB2.out.size))
            clear hd HX2 HB2 x0 x1 x2 x3
            go_wp2_with fail
            go_ret
            exact ⟨by simp, HB3.out⟩
end Go.Proofs.YteonnadhdmcloaaDoor.G
namespace Go.Proofs.YteonnadhdmcloaaDoor.G
open Go.RowKit Go.Proofs.YteonnadhdmcloaaDoorW.PrintWords Go.Proofs.YteonnadhdmcloaaDoorW.PrintLast Go.Proofs.YteonnadhdmcloaaDoorW.PrintMore
set_option linter.unusedVariables false
set_option linter.unusedSimpArgs false
theorem wrap_one {i : Nat} (h : i ≤ 17592186044416) : wrap64 ((i : Int) + 1) = ((i + 1 : Nat) : Int) := by unfold wrap64; omega
theorem rd_at {α : Type} (z : α) (xs : List α) (i : Nat) (h : i < xs.length) : xs.getD ((i : Int)).toNat z = xs[i] := by
  rw [Int.toNat_natCast, List.getD_eq_getElem?_getD, List.getElem?_eq_getElem h, Option.getD_some]
theorem eq_str_from (xs ys : List ByteArray) (hl : xs.length = ys.length) (hb : xs.length ≤ 17592186044416) : ∀ d i k, i + d = xs.length → d < k → slices_Equal_string_string.l0 k xs ys (xs.length : Int) (i : Int) = some (decide (xs.drop i = ys.drop i)) := by
  intro d
  induction d with
  | zero =>
    intro i k hi hk
    obtain ⟨k, rfl⟩ : ∃ m, k = m + 1 := ⟨k - 1, by omega⟩
    rw [slices_Equal_string_string.l0, if_neg (by omega), List.drop_of_length_le (by omega), List.drop_of_length_le (by omega)]
    rfl
  | succ d ih =>
    intro i k hi hk
    obtain ⟨k, rfl⟩ : ∃ m, k = m + 1 := ⟨k - 1, by omega⟩
    have h1 : i < xs.length := by omega
    have h2 : i < ys.length := by omega
    rw [slices_Equal_string_string.l0, if_pos (by omega), if_pos (by omega), if_pos (by omega), if_pos (by omega)]
    unfold rdOf
    rw [rd_at _ _ _ h1, rd_at _ _ _ h2, wrap_one (by omega), ih (i + 1) k (by omega) (by omega), List.drop_eq_getElem_cons h1, List.drop_eq_getElem_cons h2]
    by_cases h : xs[i] = ys[i]
    · rw [if_pos (by rw [h])]; simp only [List.cons.injEq, h, true_and]
    · rw [if_neg (fun e => h (toList_eq.1 e))]; simp only [List.cons.injEq, h, false_and, decide_false]
theorem eq_str (xs ys : List ByteArray) (hb : xs.length ≤ 17592186044416) : slices_Equal_string_string.f (xs.length + 1) xs ys = some (decide (xs = ys)) := by
  unfold slices_Equal_string_string.f
  by_cases hl : xs.length = ys.length
  · rw [if_pos (by omega)]
    have := eq_str_from xs ys hl hb xs.length 0 (xs.length + 1) (by omega) (by omega)
    simpa using this
  · rw [if_neg (by omega), decide_eq_false (fun e => hl (by rw [e]))]
theorem S35_ext {a b : S35} : a = b ↔ a.f0 = b.f0 ∧ a.f1 = b.f1 ∧ a.f2 = b.f2 := by
  cases a
  cases b
  simp
instance decS35 : DecidableEq S35 := fun _ _ => decidable_of_iff _ S35_ext.symm
theorem eq_tok_from (xs ys : List S35) (hl : xs.length = ys.length) (hb : xs.length ≤ 17592186044416) : ∀ d i k, i + d = xs.length → d < k → api_Tok.l0 k xs ys (xs.length : Int) (i : Int) = some (decide (xs.drop i = ys.drop i)) := by
  intro d
  induction d with
  | zero =>
    intro i k hi hk
    obtain ⟨k, rfl⟩ : ∃ m, k = m + 1 := ⟨k - 1, by omega⟩
    rw [api_Tok.l0, if_neg (by omega), List.drop_of_length_le (by omega), List.drop_of_length_le (by omega)]
    rfl
  | succ d ih =>
    intro i k hi hk
    obtain ⟨k, rfl⟩ : ∃ m, k = m + 1 := ⟨k - 1, by omega⟩
    have h1 : i < xs.length := by omega
    have h2 : i < ys.length := by omega
    rw [api_Tok.l0, if_pos (by omega), if_pos (by omega), if_pos (by omega), if_pos (by omega)]
    unfold rd_T35
    rw [rd_at _ _ _ h1, rd_at _ _ _ h2, wrap_one (by omega), ih (i + 1) k (by omega) (by omega), List.drop_eq_getElem_cons h1, List.drop_eq_getElem_cons h2]
    by_cases h : xs[i] = ys[i]
    · rw [if_neg (by rw [h]; simp)]; simp only [List.cons.injEq, h, true_and]
    · rw [if_pos]
      · simp only [List.cons.injEq, h, false_and, decide_false]
      · generalize xs[i] = a at h
        generalize ys[i] = b at h
        by_cases e0 : a.f0 = b.f0
        · by_cases e1 : a.f1 = b.f1
          · have e2 : ¬ a.f2 = b.f2 := fun e2 => h (S35_ext.2 ⟨e0, e1, e2⟩)
            simp [e2]
          · simp [e1]
        · have e3 : ¬ a.f0.toList = b.f0.toList := fun e => e0 (toList_eq.1 e)
          simp [e3]
theorem eq_tok (xs ys : List S35) (hb : xs.length ≤ 17592186044416) : api_Tok.f (xs.length + 1) xs ys = some (decide (xs = ys)) := by
  unfold api_Tok.f
  by_cases hl : xs.length = ys.length
  · rw [if_pos (by omega)]
    have := eq_tok_from xs ys hl hb xs.length 0 (xs.length + 1) (by omega) (by omega)
    simpa using this
  · rw [if_neg (by omega), decide_eq_false (fun e => hl (by rw [e]))]
def ruleEq (x y : S39) : Bool := decide (x.f0 = y.f0) && decide (x.f2 = y.f2) && decide (x.f1 = y.f1)
set_option maxHeartbeats 4000000 in
theorem rule_eq_calls (w : World) (x y : S39) (A1 : Option Addr) (c1 : Nat) (A2 : Option Addr) (c2 : Nat) (hx : Kd.C Kd.string w A1 x.f1.length x.f1) (hy : Kd.C Kd.string w A2 y.f1.length y.f1) (hcx : x.f1.length ≤ c1) (hcy : y.f1.length ≤ c2) (hlx : x.f1.length ≤ 17592186044416) :
    Calls Tryd.prog 34 #[.agg #[.string x.f0, .slice A1 x.f1.length c1, .string x.f2], .agg #[.string y.f0, .slice A2 y.f1.length c2, .string y.f2]] w fun e w' => e = .returned (.bool (ruleEq x y)) ∧ Below w.heap.size w w' := by
  have hb1 := below_alloc (Below.refl w.heap.size w) (.cells #[.string x.f0, .slice A1 x.f1.length c1, .string x.f2] 39)
  have hb2 := below_alloc (Below.refl (w.alloc (.cells #[.string x.f0, .slice A1 x.f1.length c1, .string x.f2] 39)).heap.size (w.alloc (.cells #[.string x.f0, .slice A1 x.f1.length c1, .string x.f2] 39))) (.cells #[.string y.f0, .slice A2 y.f1.length c2, .string y.f2] 39)
  have HX := Aside0.mk ((RBox.new w x A1 c1).move hb2)
  have HY := Aside0.mk (RBox.new (w.alloc (.cells #[.string x.f0, .slice A1 x.f1.length c1, .string x.f2] 39)) y A2 c2)
  have HB := Aside0.mk (hb1.trans (hb2.mono hb1.size))
  have HCX := Aside0.mk (Kd.C_below hx HB.out)
  have HCY := Aside0.mk (Kd.C_below hy HB.out)
  have HEQ := Aside0.mk (eq_str x.f1 y.f1 hlx)
  clear hb1 hb2 hx hy
  have hlk : ruleEq x y = (decide (x.f0 = y.f0) && decide (x.f2 = y.f2) && decide (x.f1 = y.f1)) := rfl
  have x0 := HX.out.c0
  have x1 := HX.out.c1
  have x2 := HX.out.c2
  have y0 := HY.out.c0
  have y1 := HY.out.c1
  have y2 := HY.out.c2
  rw [World.size_alloc] at y0 y1 y2
  by_cases h1 : x.f0.toList = y.f0.toList
  · rw [decide_eq_true (toList_eq.1 h1), Bool.true_and] at hlk
    by_cases h2 : x.f2.toList = y.f2.toList
    · rw [decide_eq_true (toList_eq.1 h2), Bool.true_and] at hlk
      have HL := Aside0.mk hlk
      clear hlk
      go_enter Tryd.func34, Tryd.ntmps34
      go_wp2_with fail
      generalize (w.alloc (.cells #[.string x.f0, .slice A1 x.f1.length c1, .string x.f2] 39)).alloc (.cells #[.string y.f0, .slice A2 y.f1.length c2, .string y.f2] 39) = W at *
      go_at_call 35
      refine (slices_Equal_string_string.calls _ A1 c1 x.f1 A2 c2 y.f1 _ W HCX.out hcx HCY.out hcy HEQ.out).mono ?_
      rintro e w1 ⟨rfl, hd⟩
      have HB1 := Aside0.mk (HB.out.trans ((drawn_below hd).mono HB.out.size))
      clear hd x0 x1 x2 y0 y1 y2 HX HY HB HCX HCY HEQ
      go_wp2_with fail
      go_ret
      exact ⟨by rw [HL.out]; rfl, HB1.out⟩
    · rw [decide_eq_false (fun h => h2 (by rw [h])), Bool.false_and] at hlk
      have HL := Aside0.mk hlk
      clear hlk
      go_enter Tryd.func34, Tryd.ntmps34
      go_wp2_with fail
      go_ret
      exact ⟨by rw [HL.out]; simp [h1, h2], HB.out⟩
  · rw [decide_eq_false (fun h => h1 (by rw [h])), Bool.false_and, Bool.false_and] at hlk
    have HL := Aside0.mk hlk
    clear hlk
    go_enter Tryd.func34, Tryd.ntmps34
    go_wp2_with fail
    go_ret
    exact ⟨by rw [HL.out]; simp [h1], HB.out⟩
theorem S39_ext {a b : S39} : a = b ↔ a.f0 = b.f0 ∧ a.f1 = b.f1 ∧ a.f2 = b.f2 := by
  cases a
  cases b
  simp
instance decS39 : DecidableEq S39 := fun _ _ => decidable_of_iff _ S39_ext.symm
theorem ruleEq_eq (x y : S39) : ruleEq x y = decide (x = y) := by
  unfold ruleEq
  rw [Bool.eq_iff_iff]
  simp only [Bool.and_eq_true, decide_eq_true_eq]
  rw [S39_ext]
  constructor
  · rintro ⟨⟨a, b⟩, c⟩; exact ⟨a, c, b⟩
  · rintro ⟨a, b, c⟩; exact ⟨⟨a, c⟩, b⟩
def ERel (xs ys : List S39) (w : World) (kq : Nat) (v17 : Value) (w' : World) : Prop :=
  ∃ i : Nat, i + kq = xs.length ∧ v17 = .int .i64 (i : Int) ∧ Below w.heap.size w w' ∧ xs.take i = ys.take i
set_option maxHeartbeats 4000000 in
theorem equal_rules (w : World) (A1 : Option Addr) (c1 : Nat) (xs : List S39) (A2 : Option Addr) (c2 : Nat) (ys : List S39) (hx : Kd.C k39 w A1 xs.length xs) (hy : Kd.C k39 w A2 ys.length ys) (hl : xs.length ≤ 17592186044416) (hs : ∀ r ∈ xs, r.f1.length ≤ 17592186044416) :
    Calls Tryd.prog 33 #[.slice A1 xs.length c1, .slice A2 ys.length c2, .func (.func 34) #[] #[]] w fun e w' => e = .returned (.bool (decide (xs = ys))) ∧ Below w.heap.size w w' := by
  have HRX := Aside0.mk hx
  have HRY := Aside0.mk hy
  have HS := Aside0.mk hs
  have HWB := Aside0.mk (Below.refl w.heap.size w)
  clear hx hy hs
  by_cases hlen : xs.length = ys.length
  · have t0 : ((xs.length : Int) == (ys.length : Int)) = true := by simp [hlen]
    have HLE := Aside0.mk hlen
    have hyl : ys.length ≤ 17592186044416 := by omega
    rw [← hlen]
    clear hlen
    go_enter Tryd.func33, Tryd.ntmps33
    go_wp2_with fail
    go_loopg [17] xs.length (fun kq v17 w' => ERel xs ys w kq v17 w')
    case atStart => exact ⟨0, by omega, rfl, HWB.out, rfl⟩
    case round =>
      obtain ⟨i, hi, rfl, hb, hp⟩ := hrel
      have HI := Aside0.mk hi
      have HB := Aside0.mk hb
      have HP := Aside0.mk hp
      clear hi hb hp
      by_cases hil : i < xs.length
      · have t1 : decide ((i : Int) < (xs.length : Int)) = true := by simp; omega
        have hiy : i < ys.length := by have := HLE.out; omega
        obtain ⟨ad, P1, d1, e1, x0, x1, x2, l1, g1⟩ := at_rule (Kd.C_below HRX.out HB.out) i hil rfl
        obtain ⟨bd, P2, d2, e2, y0, y1, y2, l2, g2⟩ := at_rule (Kd.C_below HRY.out HB.out) i hiy rfl
        subst e1
        subst e2
        have hb1 := below_alloc (Below.refl wr.heap.size wr) (.cells #[.string xs[i].f0, .slice P1 xs[i].f1.length d1, .string xs[i].f2] 39)
        have z0 := pw_cell_below hb1 y0
        have z1 := pw_cell_below hb1 y1
        have z2 := pw_cell_below hb1 y2
        have hb2 := below_alloc (Below.refl (wr.alloc (.cells #[.string xs[i].f0, .slice P1 xs[i].f1.length d1, .string xs[i].f2] 39)).heap.size (wr.alloc (.cells #[.string xs[i].f0, .slice P1 xs[i].f1.length d1, .string xs[i].f2] 39))) (.cells #[.string ys[i].f0, .slice P2 ys[i].f1.length d2, .string ys[i].f2] 39)
        have HBW := Aside0.mk (hb1.trans (hb2.mono hb1.size))
        have HG1 := Aside0.mk (Kd.C_below g1 HBW.out)
        have HG2 := Aside0.mk (Kd.C_below g2 HBW.out)
        have HSL := Aside0.mk (HS.out xs[i] (List.getElem_mem hil))
        have HL1 := Aside0.mk l1
        have HL2 := Aside0.mk l2
        clear hb1 hb2 g1 g2 y0 y1 y2 l1 l2
        go_wp2_with fail
        go_at_call 34
        refine (rule_eq_calls _ xs[i] ys[i] P1 d1 P2 d2 HG1.out HG2.out HL1.out HL2.out HSL.out).mono ?_
        rintro e w1 ⟨rfl, hd⟩
        have hbb := HBW.out.trans (hd.mono HBW.out.size)
        have HB1 := Aside0.mk (HB.out.trans (hbb.mono HB.out.size))
        clear hd hbb x0 x1 x2 z0 z1 z2 HBW HG1 HG2 HSL HL1 HL2
        rw [ruleEq_eq]
        by_cases he : xs[i] = ys[i]
        · rw [decide_eq_true he]
          have HE : Aside0 (xs.take (i + 1) = ys.take (i + 1)) := ⟨by rw [List.take_succ_eq_append_getElem hil, List.take_succ_eq_append_getElem hiy, HP.out, he]⟩
          clear he
          go_wp2_with fail
          go_roundg (gk - 1)
          case measure => have := HI.out; omega
          case rel => exact ⟨i + 1, by have := HI.out; omega, by go_num, HB1.out, HE.out⟩
        · rw [decide_eq_false he]
          have HE : Aside0 (decide (xs = ys) = false) := ⟨decide_eq_false fun e => he (by subst e; rfl)⟩
          clear he
          go_wp2_with fail
          go_ret
          exact ⟨by rw [HE.out]; rfl, HB1.out⟩
      · have t1 : decide ((i : Int) < (xs.length : Int)) = false := by simp; omega
        have HE : Aside0 (decide (xs = ys) = true) := ⟨by
          have := HI.out
          have h2 := HLE.out
          have h3 := HP.out
          rw [List.take_of_length_le (by omega), List.take_of_length_le (by omega)] at h3
          exact decide_eq_true h3⟩
        go_wp2_with fail
        go_ret
        exact ⟨by rw [HE.out]; rfl, HB.out⟩
  · have t0 : ((xs.length : Int) == (ys.length : Int)) = false := by simp; omega
    have HE : Aside0 (decide (xs = ys) = false) := ⟨decide_eq_false fun e => hlen (by rw [e])⟩
    go_enter Tryd.func33, Tryd.ntmps33
    go_wp2_with fail
    go_ret
    exact ⟨by rw [HE.out]; rfl, HWB.out⟩
end Go.Proofs.YteonnadhdmcloaaDoor.G
namespace Go.Proofs.YteonnadhdmcloaaDoor.G
open Go.RowKit Go.Proofs.YteonnadhdmcloaaDoorW.PrintWords Go.Proofs.YteonnadhdmcloaaDoorW.PrintLast Go.Proofs.YteonnadhdmcloaaDoorW.PrintMore
set_option linter.unusedVariables false
set_option linter.unusedSimpArgs false
def geqB (la : List S35) (sa : ByteArray) (ea : Int) (ra : List S39) (lb : List S35) (sb : ByteArray) (eb : Int) (rb : List S39) : Bool := decide (ra = rb) && decide (sa = sb) && decide (ea = eb) && decide (la = lb)
set_option maxHeartbeats 8000000 in
set_option maxRecDepth 100000 in
theorem geq_calls (w : World) (A : Option Addr) (c : Nat) (la : List S35) (sa : ByteArray) (ea : Int) (A2 : Option Addr) (c2 : Nat) (ra : List S39) (B : Option Addr) (d : Nat) (lb : List S35) (sb : ByteArray) (eb : Int) (B2 : Option Addr) (d2 : Nat) (rb : List S39)
    (hr : Kd.C k35 w A la.length la) (hcl : la.length ≤ c) (hl : la.length ≤ 17592186044416) (hr2 : Kd.C k39 w A2 ra.length ra) (hl2 : ra.length ≤ 17592186044416) (hs : ∀ r ∈ ra, r.f1.length ≤ 17592186044416)
    (kr : Kd.C k35 w B lb.length lb) (kcl : lb.length ≤ d) (kr2 : Kd.C k39 w B2 rb.length rb) :
    Calls Tryd.prog 14 #[.agg #[.slice A la.length c, .string sa, .int .i64 ea, .slice A2 ra.length c2], .agg #[.slice B lb.length d, .string sb, .int .i64 eb, .slice B2 rb.length d2]] w fun e w' => e = .returned (.bool (geqB la sa ea ra lb sb eb rb)) ∧ Below w.heap.size w w' := by
  have hb1 := below_alloc (Below.refl w.heap.size w) (.cells #[.slice A la.length c, .string sa, .int .i64 ea, .slice A2 ra.length c2] 25)
  have hb2 := below_alloc (Below.refl (w.alloc (.cells #[.slice A la.length c, .string sa, .int .i64 ea, .slice A2 ra.length c2] 25)).heap.size (w.alloc (.cells #[.slice A la.length c, .string sa, .int .i64 ea, .slice A2 ra.length c2] 25))) (.cells #[.slice B lb.length d, .string sb, .int .i64 eb, .slice B2 rb.length d2] 25)
  have HX := Aside0.mk ((Box4.new w (.slice A la.length c) (.string sa) (.int .i64 ea) (.slice A2 ra.length c2) 25).move hb2 (by simp))
  have HY := Aside0.mk (Box4.new (w.alloc (.cells #[.slice A la.length c, .string sa, .int .i64 ea, .slice A2 ra.length c2] 25)) (.slice B lb.length d) (.string sb) (.int .i64 eb) (.slice B2 rb.length d2) 25)
  have HB := Aside0.mk (hb1.trans (hb2.mono hb1.size))
  have HR := Aside0.mk hr
  have HR2 := Aside0.mk hr2
  have KR := Aside0.mk kr
  have KR2 := Aside0.mk kr2
  have HS := Aside0.mk hs
  have HEQ := Aside0.mk (eq_tok la lb hl)
  clear hb1 hb2 hr hr2 kr kr2 hs
  have hlk : geqB la sa ea ra lb sb eb rb = (decide (ra = rb) && decide (sa = sb) && decide (ea = eb) && decide (la = lb)) := rfl
  obtain ⟨b1, hb1⟩ : ∃ b, decide (ra = rb) = b := ⟨_, rfl⟩
  rw [hb1] at hlk
  have HE1 := Aside0.mk hb1
  clear hb1
  have HLK := Aside0.mk hlk
  clear hlk
  go_enter Tryd.func14, Tryd.ntmps14
  have x3 := HX.out.c3
  have y3 := HY.out.c3
  rw [World.size_alloc] at y3
  go_wp2_with fail
  clear x3 y3
  generalize hW1 : (w.alloc (.cells #[.slice A la.length c, .string sa, .int .i64 ea, .slice A2 ra.length c2] 25)).alloc (.cells #[.slice B lb.length d, .string sb, .int .i64 eb, .slice B2 rb.length d2] 25) = W1 at *
  rw [World.size_alloc] at HY
  clear hW1
  go_at_call 33
  refine (equal_rules W1 A2 c2 ra B2 d2 rb (Kd.C_below HR2.out HB.out) (Kd.C_below KR2.out HB.out) hl2 HS.out).mono ?_
  rw [HE1.out]
  rintro e w1 ⟨rfl, hd⟩
  have HX1 := Aside0.mk (HX.out.move hd HX.out.lt)
  have HY1 := Aside0.mk (HY.out.move hd HY.out.lt)
  have HB1 := Aside0.mk (HB.out.trans (hd.mono HB.out.size))
  clear hd HX HY HB
  cases b1 with
  | false =>
    go_wp2_with fail
    go_ret
    exact ⟨by rw [HLK.out]; simp, HB1.out⟩
  | true =>
    have x1 := HX1.out.c1
    have x2 := HX1.out.c2
    have x0 := HX1.out.c0
    have y1 := HY1.out.c1
    have y2 := HY1.out.c2
    have y0 := HY1.out.c0
    by_cases h1 : sa.toList = sb.toList
    · have h1d : decide (sa = sb) = true := decide_eq_true (toList_eq.1 h1)
      by_cases h2 : ea = eb
      · have HL : Aside0 (geqB la sa ea ra lb sb eb rb = decide (la = lb)) := ⟨by rw [HLK.out, h1d, decide_eq_true h2]; rfl⟩
        have t2 : (ea == eb) = true := beq_iff_eq.2 h2
        clear h1d h2 
        go_wp2_with fail
        go_at_call 36
        refine (api_Tok.calls _ A c la B d lb _ w1 (Kd.C_below HR.out HB1.out) hcl (Kd.C_below KR.out HB1.out) kcl HEQ.out).mono ?_
        rintro e w2 ⟨rfl, hd⟩
        have HB2 := Aside0.mk (HB1.out.trans ((drawn_below hd).mono HB1.out.size))
        clear hd HX1 HY1 HB1 x0 x1 x2 y0 y1 y2
        go_wp2_with fail
        go_ret
        exact ⟨by rw [HL.out]; rfl, HB2.out⟩
      · have HL : Aside0 (geqB la sa ea ra lb sb eb rb = false) := ⟨by rw [HLK.out, h1d, decide_eq_false h2]; rfl⟩
        have t2 : (ea == eb) = false := beq_eq_false_iff_ne.2 h2
        clear h1d
        go_wp2_with fail
        go_ret
        exact ⟨by rw [HL.out]; simp [h2], HB1.out⟩
    · have HL : Aside0 (geqB la sa ea ra lb sb eb rb = false) := ⟨by rw [HLK.out, decide_eq_false (fun h => h1 (by rw [h]))]; rfl⟩
      go_wp2_with fail
      go_ret
      exact ⟨by rw [HL.out]; simp [h1], HB1.out⟩
end Go.Proofs.YteonnadhdmcloaaDoor.G
