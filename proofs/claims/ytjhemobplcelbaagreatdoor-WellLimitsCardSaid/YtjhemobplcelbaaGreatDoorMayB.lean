/- may: gram: names, tokens, rules; slices.ContainsFunc at the predicates of gram.May (turned by mkmay.py out of wip/gram). -/
import Derived.Test.YtjhemobplcelbaaGreatDoorMayA
namespace Go.Proofs.YtjhemobplcelbaaGreatDoor.M
open Go.RowKit Go.Proofs.YtjhemobplcelbaaGreatDoorW.PrintWords Go.Proofs.YtjhemobplcelbaaGreatDoorW.PrintLast Go.Proofs.YtjhemobplcelbaaGreatDoorW.PrintMore
open Go.Proofs.YtjhemobplcelbaaGreatDoor.O (STk SRu kTk kRu zTk zRu kTk_open kRu_open kTk_openM kTk_mkM kTk_mk kRu_mk)
set_option linter.unusedVariables false
set_option linter.unusedSimpArgs false
/-- What slices.IndexFunc answers. -/
def idxB {α : Type} (p : α → Bool) (xs : List α) : Int := if xs.any p then (xs.findIdx p : Int) else -1
theorem idxB_at {α : Type} {p : α → Bool} {xs : List α} {i : Nat} (hi : i < xs.length) (hp : p xs[i] = true) (hb : ∀ j (h : j < i), p (xs[j]'(by omega)) = false) : idxB p xs = (i : Int) := by
  unfold idxB
  rw [if_pos (List.any_eq_true.2 ⟨_, List.getElem_mem hi, hp⟩), (List.findIdx_eq hi).2 ⟨hp, fun j h => hb j h⟩]
theorem idxB_none {α : Type} {p : α → Bool} {xs : List α} (hb : ∀ j (h : j < xs.length), p xs[j] = false) : idxB p xs = -1 := by
  unfold idxB
  rw [if_neg]
  intro h
  obtain ⟨x, hx, hp⟩ := List.any_eq_true.1 h
  obtain ⟨j, hj, rfl⟩ := List.getElem_of_mem hx
  rw [hb j hj] at hp
  cases hp
theorem idxB_any {α : Type} (p : α → Bool) (xs : List α) : decide (0 ≤ idxB p xs) = xs.any p := by
  unfold idxB
  cases xs.any p
  · rfl
  · rw [if_pos rfl]; exact decide_eq_true (by omega)
def IRel {α : Type} (p : α → Bool) (xs : List α) (w : World) (kq : Nat) (v8 : Value) (w' : World) : Prop :=
  ∃ i : Nat, i + kq = xs.length ∧ v8 = .int .i64 (i : Int) ∧ Below w.heap.size w w' ∧ ∀ j (h : j < i) (h2 : j < xs.length), p xs[j] = false
theorem not_name_calls (s : ByteArray) (w : World) : Calls Tryz.prog 79 #[.string s] w fun e w' => e = .returned (.bool (!Nm s)) ∧ Below w.heap.size w w' := by
  go_enter Tryz.func79, Tryz.ntmps79
  go_wp2_with fail
  go_at_call 76
  refine (name_calls s _).mono ?_
  rintro e w1 ⟨rfl, hd⟩
  have HB := Aside0.mk (drawn_below hd)
  clear hd
  go_wp2_with fail
  go_ret
  exact ⟨by simp, HB.out⟩
set_option maxHeartbeats 2000000 in
theorem index_str (w : World) (A : Option Addr) (c : Nat) (xs : List ByteArray) (hr : Kd.C Kd.string w A xs.length xs) (hxl : xs.length ≤ 17592186044416) :
    Calls Tryz.prog 96 #[.slice A xs.length c, .func (.func 79) #[] #[]] w fun e w' => e = .returned (.int .i64 (idxB (fun s => !Nm s) xs)) ∧ Below w.heap.size w w' := by
  have HR := Aside0.mk hr
  clear hr
  go_enter Tryz.func96, Tryz.ntmps96
  go_wp2_with fail
  go_loopg [8] xs.length (fun kq v8 w' => IRel (fun s => !Nm s) xs w kq v8 w')
  case atStart => exact ⟨0, by omega, rfl, Below.refl _ _, fun j h => absurd h (Nat.not_lt_zero j)⟩
  case round =>
    obtain ⟨i, hi, rfl, hb, hp⟩ := hrel
    have HI := Aside0.mk hi
    have HB := Aside0.mk hb
    have HP := Aside0.mk hp
    clear hi hb hp
    by_cases hil : i < xs.length
    · have t1 : decide ((i : Int) < (xs.length : Int)) = true := by simp; omega
      obtain ⟨ad, e1, hx⟩ := at_str (Kd.C_below HR.out HB.out) i hil rfl
      subst e1
      have HX := Aside0.mk hx
      go_wp2_with fail
      go_at_call 79
      refine (not_name_calls xs[i] _).mono ?_
      rintro e w1 ⟨rfl, hd⟩
      have HB1 := Aside0.mk (HB.out.trans (hd.mono HB.out.size))
      clear hd hx
      obtain ⟨b, hpb⟩ : ∃ b, (!Nm xs[i]) = b := ⟨_, rfl⟩
      rw [hpb]
      have HPB := Aside0.mk hpb
      clear hpb
      cases b with
      | true =>
        go_wp2_with fail
        go_ret
        exact ⟨by rw [idxB_at hil HPB.out (fun j h => HP.out j h (by omega))]; rfl, HB1.out⟩
      | false =>
        go_wp2_with fail
        go_roundg (gk - 1)
        case measure => have := HI.out; omega
        case rel =>
          refine ⟨i + 1, by have := HI.out; omega, by go_num, HB1.out, fun j h h2 => ?_⟩
          by_cases hj : j < i
          · exact HP.out j hj h2
          · obtain rfl : j = i := by omega
            exact HPB.out
    · have t1 : decide ((i : Int) < (xs.length : Int)) = false := by simp; omega
      go_wp2_with fail
      go_ret
      exact ⟨by rw [idxB_none (fun j h => HP.out j (by have := HI.out; omega) h)]; rfl, HB.out⟩
theorem contains_str (w : World) (A : Option Addr) (c : Nat) (xs : List ByteArray) (hr : Kd.C Kd.string w A xs.length xs) (hxl : xs.length ≤ 17592186044416) :
    Calls Tryz.prog 78 #[.slice A xs.length c, .func (.func 79) #[] #[]] w fun e w' => e = .returned (.bool (xs.any fun s => !Nm s)) ∧ Below w.heap.size w w' := by
  have HR := Aside0.mk hr
  clear hr
  go_enter Tryz.func78, Tryz.ntmps78
  go_wp2_with fail
  go_at_call 96
  refine (index_str w A c xs HR.out hxl).mono ?_
  rintro e w1 ⟨rfl, hb⟩
  have HB := Aside0.mk hb
  clear hb
  go_wp2_with fail
  go_ret
  exact ⟨by rw [← idxB_any]; rfl, HB.out⟩
end Go.Proofs.YtjhemobplcelbaaGreatDoor.M
