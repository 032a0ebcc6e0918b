/- may: gram: rules: slices.ContainsFunc at gram.May's predicate (turned by mkmay.py out of wip/gram). -/
import Derived.Test.YtjhemobplcelbaaGreatDoorMayB
namespace Go.Proofs.YtjhemobplcelbaaGreatDoor.M
open Go.RowKit Go.Proofs.YtjhemobplcelbaaGreatDoorW.PrintWords Go.Proofs.YtjhemobplcelbaaGreatDoorW.PrintLast Go.Proofs.YtjhemobplcelbaaGreatDoorW.PrintMore
open Go.Proofs.YtjhemobplcelbaaGreatDoor.O (STk SRu kTk kRu zTk zRu kTk_open kRu_open kTk_openM kTk_mkM kTk_mk kRu_mk)
set_option linter.unusedVariables false
set_option linter.unusedSimpArgs false
set_option maxHeartbeats 4000000 in
theorem rule_bad_calls (w : World) (r : SRu) (A : Option Addr) (c : Nat) (hr : Kd.C Kd.string w A r.f1.length r.f1) (hl : r.f1.length ≤ 17592186044416) :
    Calls Tryz.prog 75 #[.agg #[.string r.f0, .slice A r.f1.length c, .string r.f2]] w fun e w' => e = .returned (.bool (ruleBad r)) ∧ Below w.heap.size w w' := by
  have HX := Aside0.mk (RBox.new w r A c)
  have HB := Aside0.mk (below_alloc (Below.refl w.heap.size w) (.cells #[.string r.f0, .slice A r.f1.length c, .string r.f2] 73))
  have HR := Aside0.mk (Kd.C_below hr HB.out)
  clear hr
  have hbad : ruleBad r = (!Nm r.f0 || !orB r.f2 || decide (20 < r.f1.length) || r.f1.any fun s => !Nm s) := rfl
  obtain ⟨b1, hb1⟩ : ∃ b, Nm r.f0 = b := ⟨_, rfl⟩
  obtain ⟨b2, hb2⟩ : ∃ b, orB r.f2 = b := ⟨_, rfl⟩
  obtain ⟨b4, hb4⟩ : ∃ b, (r.f1.any fun s => !Nm s) = b := ⟨_, rfl⟩
  obtain ⟨b3, hb3⟩ : ∃ b, decide (20 < r.f1.length) = b := ⟨_, rfl⟩
  rw [hb1, hb2, hb3, hb4] at hbad
  rw [hbad]
  have hn := name_calls r.f0
  have ho := or_calls r.f2
  rw [hb1] at hn
  rw [hb2] at ho
  have HN := Aside0.mk hn
  have HO := Aside0.mk ho
  have HB4 := Aside0.mk hb4
  clear hbad hb1 hb2 hb4 hn ho
  go_enter Tryz.func75, Tryz.ntmps75
  have x0 := HX.out.c0
  go_wp2_with fail
  clear x0
  generalize w.alloc (.cells #[.string r.f0, .slice A r.f1.length c, .string r.f2] 73) = W1 at *
  go_at_call 76
  refine (HN.out W1).mono ?_
  rintro e w1 ⟨rfl, hd⟩
  have hb := drawn_below hd
  have HX1 := Aside0.mk (HX.out.move hb)
  have HR1 := Aside0.mk (Kd.C_below HR.out hb)
  have HB1 := Aside0.mk (HB.out.trans (hb.mono HB.out.size))
  clear hd hb HX HR HB
  have x2 := HX1.out.c2
  have x1 := HX1.out.c1
  cases b1 with
  | false =>
    go_wp2_with fail
    go_ret
    exact ⟨by simp, HB1.out⟩
  | true =>
    go_wp2_with fail
    go_at_call 77
    refine (HO.out w1).mono ?_
    rintro e w2 ⟨rfl, hd⟩
    have hb := drawn_below hd
    have HX2 := Aside0.mk (HX1.out.move hb)
    have HR2 := Aside0.mk (Kd.C_below HR1.out hb)
    have HB2 := Aside0.mk (HB1.out.trans (hb.mono HB1.out.size))
    clear hd hb HX1 HR1 HB1 x1 x2
    have x1 := HX2.out.c1
    cases b2 with
    | false =>
      go_wp2_with fail
      go_ret
      exact ⟨by simp, HB2.out⟩
    | true =>
      cases b3 with
      | true =>
        have t1 : decide ((20 : Int) < (r.f1.length : Int)) = true := by have := of_decide_eq_true hb3; simp; omega
        clear hb3
        go_wp2_with fail
        go_ret
        exact ⟨by simp, HB2.out⟩
      | false =>
        have t1 : decide ((20 : Int) < (r.f1.length : Int)) = false := by have := of_decide_eq_false hb3; simp; omega
        clear hb3
        go_wp2_with fail
        go_at_call 78
        refine (contains_str w2 A c r.f1 HR2.out hl).mono ?_
        rintro e w3 ⟨rfl, hb⟩
        have HB3 := Aside0.mk (HB2.out.trans (hb.mono HB2.out.size))
        rw [HB4.out]
        clear hb HX2 HR2 HB2 x1
        go_wp2_with fail
        go_ret
        exact ⟨by simp, HB3.out⟩
set_option maxHeartbeats 2000000 in
theorem index_rule (w : World) (A : Option Addr) (c : Nat) (xs : List SRu) (hr : Kd.C kRu w A xs.length xs) (hxl : xs.length ≤ 17592186044416) (hs : ∀ r ∈ xs, r.f1.length ≤ 17592186044416) :
    Calls Tryz.prog 92 #[.slice A xs.length c, .func (.func 75) #[] #[]] w fun e w' => e = .returned (.int .i64 (idxB ruleBad xs)) ∧ Below w.heap.size w w' := by
  have HR := Aside0.mk hr
  clear hr
  go_enter Tryz.func92, Tryz.ntmps92
  go_wp2_with fail
  go_loopg [8] xs.length (fun kq v8 w' => IRel ruleBad xs w kq v8 w')
  case atStart => exact ⟨0, by omega, rfl, Below.refl _ _, fun j h => absurd h (Nat.not_lt_zero j)⟩
  case round =>
    obtain ⟨i, hi, rfl, hb, hp⟩ := hrel
    have HI := Aside0.mk hi
    have HB := Aside0.mk hb
    have HP := Aside0.mk hp
    clear hi hb hp
    by_cases hil : i < xs.length
    · have t1 : decide ((i : Int) < (xs.length : Int)) = true := by simp; omega
      obtain ⟨ad, A1, c1, e1, x0, x1, x2, l1, g1⟩ := at_rule (Kd.C_below HR.out HB.out) i hil rfl
      subst e1
      have HG := Aside0.mk g1
      have HS := Aside0.mk (hs xs[i] (List.getElem_mem hil))
      clear g1
      go_wp2_with fail
      go_at_call 75
      refine (rule_bad_calls _ xs[i] A1 c1 HG.out HS.out).mono ?_
      rintro e w1 ⟨rfl, hd⟩
      have HB1 := Aside0.mk (HB.out.trans (hd.mono HB.out.size))
      clear hd x0 x1 x2
      obtain ⟨b, hpb⟩ : ∃ b, ruleBad xs[i] = b := ⟨_, rfl⟩
      rw [hpb]
      have HPB := Aside0.mk hpb
      clear hpb
      cases b with
      | true =>
        go_wp2_with fail
        go_ret
        exact ⟨by rw [idxB_at hil HPB.out (fun j h => HP.out j h (by omega))]; rfl, HB1.out⟩
      | false =>
        go_wp2_with fail
        go_roundg (gk - 1)
        case measure => have := HI.out; omega
        case rel =>
          refine ⟨i + 1, by have := HI.out; omega, by go_num, HB1.out, fun j h h2 => ?_⟩
          by_cases hj : j < i
          · exact HP.out j hj h2
          · obtain rfl : j = i := by omega
            exact HPB.out
    · have t1 : decide ((i : Int) < (xs.length : Int)) = false := by simp; omega
      go_wp2_with fail
      go_ret
      exact ⟨by rw [idxB_none (fun j h => HP.out j (by have := HI.out; omega) h)]; rfl, HB.out⟩
theorem contains_rule (w : World) (A : Option Addr) (c : Nat) (xs : List SRu) (hr : Kd.C kRu w A xs.length xs) (hxl : xs.length ≤ 17592186044416) (hs : ∀ r ∈ xs, r.f1.length ≤ 17592186044416) :
    Calls Tryz.prog 74 #[.slice A xs.length c, .func (.func 75) #[] #[]] w fun e w' => e = .returned (.bool (xs.any ruleBad)) ∧ Below w.heap.size w w' := by
  have HR := Aside0.mk hr
  have HS := Aside0.mk hs
  clear hr hs
  go_enter Tryz.func74, Tryz.ntmps74
  go_wp2_with fail
  go_at_call 92
  refine (index_rule w A c xs HR.out hxl HS.out).mono ?_
  rintro e w1 ⟨rfl, hb⟩
  have HB := Aside0.mk hb
  clear hb
  go_wp2_with fail
  go_ret
  exact ⟨by rw [← idxB_any]; rfl, HB.out⟩
end Go.Proofs.YtjhemobplcelbaaGreatDoor.M
