/- may: gram: tokens: the predicates of gram.tokens and gram.level (turned by mkmay.py out of wip/gram). -/
import Derived.Test.YtjhemobplcelbaaGreatDoorMayC
namespace Go.Proofs.YtjhemobplcelbaaGreatDoor.M
open Go.RowKit Go.Proofs.YtjhemobplcelbaaGreatDoorW.PrintWords Go.Proofs.YtjhemobplcelbaaGreatDoorW.PrintLast Go.Proofs.YtjhemobplcelbaaGreatDoorW.PrintMore
open Go.Proofs.YtjhemobplcelbaaGreatDoor.O (STk SRu kTk kRu zTk zRu kTk_open kRu_open kTk_openM kTk_mkM kTk_mk kRu_mk)
set_option linter.unusedVariables false
set_option linter.unusedSimpArgs false
def likeB (t u : STk) : Bool := decide (u.f0 = t.f0) || (decide (u.f1 = t.f1) && !decide (u.f2 = t.f2))
theorem toList_eq {a b : ByteArray} : a.toList = b.toList ↔ a = b := by
  rw [Lib.toList_data, Lib.toList_data]
  constructor
  · intro h
    cases a
    cases b
    congr
    exact Array.toList_inj.1 h
  · rintro rfl
    rfl
set_option maxHeartbeats 4000000 in
theorem like_calls (w : World) (t u : STk) (X : Nat) (ht : TBox w X t) :
    Calls Tryz.prog 99 #[.agg #[.string u.f0, .int .i64 u.f1, .int .i64 u.f2], .pointer (some ⟨X, 0, none⟩)] w fun e w' => e = .returned (.bool (likeB t u)) ∧ Below w.heap.size w w' := by
  have HB := Aside0.mk (below_alloc (Below.refl w.heap.size w) (.cells #[.string u.f0, .int .i64 u.f1, .int .i64 u.f2] 71))
  have x0 := (ht.move HB.out).c0
  have x1 := (ht.move HB.out).c1
  have x2 := (ht.move HB.out).c2
  have y0 := (TBox.new w u).c0
  have y1 := (TBox.new w u).c1
  have y2 := (TBox.new w u).c2
  clear ht
  obtain ⟨tn, tl, ta⟩ := t
  obtain ⟨un, ul, ua⟩ := u
  dsimp only at *
  have hlk : likeB ⟨tn, tl, ta⟩ ⟨un, ul, ua⟩ = (decide (un = tn) || (decide (ul = tl) && !decide (ua = ta))) := rfl
  by_cases h1 : un.toList = tn.toList
  · have HL : Aside0 (likeB ⟨tn, tl, ta⟩ ⟨un, ul, ua⟩ = true) := ⟨by rw [hlk, decide_eq_true (toList_eq.1 h1)]; rfl⟩
    clear hlk
    go_enter Tryz.func99, Tryz.ntmps99
    go_wp2_with fail
    go_ret
    exact ⟨by rw [HL.out]; rfl, by first | exact HB.out | exact below_alloc (Below.refl _ _) _⟩
  · rw [decide_eq_false (fun h => h1 (toList_eq.2 h)), Bool.false_or] at hlk
    by_cases h2 : ul = tl
    · subst h2
      rw [decide_eq_true rfl, Bool.true_and] at hlk
      by_cases h3 : ua = ta
      · subst h3
        have HL : Aside0 (likeB ⟨tn, ul, ua⟩ ⟨un, ul, ua⟩ = false) := ⟨by rw [hlk, decide_eq_true rfl]; rfl⟩
        clear hlk
        go_enter Tryz.func99, Tryz.ntmps99
        go_wp2_with fail
        go_ret
        exact ⟨by rw [HL.out]; simp [h1], by first | exact HB.out | exact below_alloc (Below.refl _ _) _⟩
      · have HL : Aside0 (likeB ⟨tn, ul, ta⟩ ⟨un, ul, ua⟩ = true) := ⟨by rw [hlk, decide_eq_false h3]; rfl⟩
        clear hlk
        have t3 : (ua == ta) = false := beq_eq_false_iff_ne.mpr h3
        go_enter Tryz.func99, Tryz.ntmps99
        go_wp2_with fail
        go_ret
        exact ⟨by rw [HL.out]; simp [h1, h3], by first | exact HB.out | exact below_alloc (Below.refl _ _) _⟩
    · have HL : Aside0 (likeB ⟨tn, tl, ta⟩ ⟨un, ul, ua⟩ = false) := ⟨by rw [hlk, decide_eq_false h2]; rfl⟩
      clear hlk
      have t2 : (ul == tl) = false := beq_eq_false_iff_ne.mpr h2
      go_enter Tryz.func99, Tryz.ntmps99
      go_wp2_with fail
      go_ret
      exact ⟨by rw [HL.out]; simp [h1, h2], by first | exact HB.out | exact below_alloc (Below.refl _ _) _⟩
set_option maxHeartbeats 2000000 in
theorem index_like (w : World) (A : Option Addr) (c : Nat) (xs : List STk) (X : Nat) (t : STk) (hr : Kd.C kTk w A xs.length xs) (hxl : xs.length ≤ 17592186044416) (ht : TBox w X t) :
    Calls Tryz.prog 101 #[.slice A xs.length c, .func (.func 99) #[] #[.pointer (some ⟨X, 0, none⟩)]] w fun e w' => e = .returned (.int .i64 (idxB (likeB t) xs)) ∧ Below w.heap.size w w' := by
  have HR := Aside0.mk hr
  have HT := Aside0.mk ht
  clear hr ht
  go_enter Tryz.func101, Tryz.ntmps101
  go_wp2_with fail
  go_loopg [8] xs.length (fun kq v8 w' => IRel (likeB t) xs w kq v8 w')
  case atStart => exact ⟨0, by omega, rfl, Below.refl _ _, fun j h => absurd h (Nat.not_lt_zero j)⟩
  case round =>
    obtain ⟨i, hi, rfl, hb, hp⟩ := hrel
    have HI := Aside0.mk hi
    have HB := Aside0.mk hb
    have HP := Aside0.mk hp
    clear hi hb hp
    by_cases hil : i < xs.length
    · have t1 : decide ((i : Int) < (xs.length : Int)) = true := by simp; omega
      obtain ⟨ad, e1, x0, x1, x2⟩ := at_tok (Kd.C_below HR.out HB.out) i hil rfl
      subst e1
      go_wp2_with fail
      go_at_call 99
      refine (like_calls _ t xs[i] X (HT.out.move HB.out)).mono ?_
      rintro e w1 ⟨rfl, hd⟩
      have HB1 := Aside0.mk (HB.out.trans (hd.mono HB.out.size))
      clear hd x0 x1 x2
      obtain ⟨b, hpb⟩ : ∃ b, (likeB t) xs[i] = b := ⟨_, rfl⟩
      rw [show likeB t xs[i] = b from hpb]
      have HPB := Aside0.mk hpb
      clear hpb
      cases b with
      | true =>
        go_wp2_with fail
        go_ret
        exact ⟨by rw [idxB_at hil HPB.out (fun j h => HP.out j h (by omega))]; rfl, HB1.out⟩
      | false =>
        go_wp2_with fail
        go_roundg (gk - 1)
        case measure => have := HI.out; omega
        case rel =>
          refine ⟨i + 1, by have := HI.out; omega, by go_num, HB1.out, fun j h h2 => ?_⟩
          by_cases hj : j < i
          · exact HP.out j hj h2
          · obtain rfl : j = i := by omega
            exact HPB.out
    · have t1 : decide ((i : Int) < (xs.length : Int)) = false := by simp; omega
      go_wp2_with fail
      go_ret
      exact ⟨by rw [idxB_none (fun j h => HP.out j (by have := HI.out; omega) h)]; rfl, HB.out⟩
theorem contains_like (w : World) (A : Option Addr) (c : Nat) (xs : List STk) (X : Nat) (t : STk) (hr : Kd.C kTk w A xs.length xs) (hxl : xs.length ≤ 17592186044416) (ht : TBox w X t) :
    Calls Tryz.prog 98 #[.slice A xs.length c, .func (.func 99) #[] #[.pointer (some ⟨X, 0, none⟩)]] w fun e w' => e = .returned (.bool (xs.any (likeB t))) ∧ Below w.heap.size w w' := by
  have HC := Aside0.mk (index_like w A c xs X t hr hxl ht)
  clear hr ht
  go_enter Tryz.func98, Tryz.ntmps98
  go_wp2_with fail
  go_at_call 101
  refine HC.out.mono ?_
  rintro e w1 ⟨rfl, hb⟩
  have HB := Aside0.mk hb
  clear hb
  go_wp2_with fail
  go_ret
  exact ⟨by rw [← idxB_any]; rfl, HB.out⟩
end Go.Proofs.YtjhemobplcelbaaGreatDoor.M
