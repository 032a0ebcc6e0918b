/- may: gram: gram.May (turned by mkmay.py out of wip/gram). -/
import Derived.Test.YtjhemobplcelbaaGreatDoorMayG
namespace Go.Proofs.YtjhemobplcelbaaGreatDoor.M
open Go.RowKit Go.Proofs.YtjhemobplcelbaaGreatDoorW.PrintWords Go.Proofs.YtjhemobplcelbaaGreatDoorW.PrintLast Go.Proofs.YtjhemobplcelbaaGreatDoorW.PrintMore
open Go.Proofs.YtjhemobplcelbaaGreatDoor.O (STk SRu kTk kRu zTk zRu kTk_open kRu_open kTk_openM kTk_mkM kTk_mk kRu_mk)
set_option linter.unusedVariables false
set_option linter.unusedSimpArgs false
def mayB (l : List STk) (st : ByteArray) (ex : Int) (rs : List SRu) : Bool := !rs.any ruleBad && decide (rs.length ≤ 100) && orB st && decide (0 ≤ ex) && decide (ex ≤ 9999) && tokensB l
set_option maxHeartbeats 8000000 in
set_option maxRecDepth 100000 in
theorem may_calls (w : World) (A : Option Addr) (c : Nat) (l : List STk) (st : ByteArray) (ex : Int) (A2 : Option Addr) (c2 : Nat) (rs : List SRu) (hr : Kd.C kTk w A l.length l) (hcl : l.length ≤ c) (hl : l.length ≤ 100000) (hr2 : Kd.C kRu w A2 rs.length rs) (hl2 : rs.length ≤ 17592186044416) (hs : ∀ r ∈ rs, r.f1.length ≤ 17592186044416) :
    Calls Tryz.prog 61 #[.agg #[.slice A l.length c, .string st, .int .i64 ex, .slice A2 rs.length c2]] w fun e w' => e = .returned (.bool (mayB l st ex rs)) ∧ Below w.heap.size w w' := by
  have HX := Aside0.mk (Box4.new w (.slice A l.length c) (.string st) (.int .i64 ex) (.slice A2 rs.length c2) 25)
  have HB := Aside0.mk (below_alloc (Below.refl w.heap.size w) (.cells #[.slice A l.length c, .string st, .int .i64 ex, .slice A2 rs.length c2] 25))
  have HR := Aside0.mk hr
  have HR2 := Aside0.mk hr2
  have HS := Aside0.mk hs
  clear hr hr2 hs
  have hbad : mayB l st ex rs = (!rs.any ruleBad && decide (rs.length ≤ 100) && orB st && decide (0 ≤ ex) && decide (ex ≤ 9999) && tokensB l) := rfl
  obtain ⟨b1, hb1⟩ : ∃ b, rs.any ruleBad = b := ⟨_, rfl⟩
  obtain ⟨b2, hb2⟩ : ∃ b, decide (rs.length ≤ 100) = b := ⟨_, rfl⟩
  obtain ⟨b3, hb3⟩ : ∃ b, orB st = b := ⟨_, rfl⟩
  obtain ⟨b4, hb4⟩ : ∃ b, decide (0 ≤ ex) = b := ⟨_, rfl⟩
  obtain ⟨b5, hb5⟩ : ∃ b, decide (ex ≤ 9999) = b := ⟨_, rfl⟩
  obtain ⟨b6, hb6⟩ : ∃ b, tokensB l = b := ⟨_, rfl⟩
  have ho := or_calls st
  rw [hb3] at ho
  rw [hb1, hb2, hb3, hb4, hb5, hb6] at hbad
  rw [hbad]
  have HO := Aside0.mk ho
  have HE1 := Aside0.mk hb1
  have HE6 := Aside0.mk hb6
  have HE4 := Aside0.mk hb4
  have HE5 := Aside0.mk hb5
  clear ho hb1 hb3 hb6 hb4 hb5 hbad
  go_enter Tryz.func61, Tryz.ntmps61
  have x3 := HX.out.c3
  go_wp2_with fail
  clear x3
  generalize hW1 : w.alloc (.cells #[.slice A l.length c, .string st, .int .i64 ex, .slice A2 rs.length c2] 25) = W1 at *
  clear hW1
  go_at_call 74
  refine (contains_rule W1 A2 c2 rs (Kd.C_below HR2.out HB.out) hl2 HS.out).mono ?_
  rw [HE1.out]
  rintro e w1 ⟨rfl, hd⟩
  have HX1 := Aside0.mk (HX.out.move hd HX.out.lt)
  have HB1 := Aside0.mk (HB.out.trans (hd.mono HB.out.size))
  clear hd HX HB
  have x3 := HX1.out.c3
  cases b1 with
  | true =>
    go_wp2_with fail
    go_ret
    exact ⟨by simp, HB1.out⟩
  | false =>
    cases b2 with
    | false =>
      have t2 : decide ((rs.length : Int) ≤ 100) = false := by have := of_decide_eq_false hb2; simp; omega
      clear hb2
      go_wp2_with fail
      go_ret
      exact ⟨by simp, HB1.out⟩
    | true =>
      have t2 : decide ((rs.length : Int) ≤ 100) = true := by have := of_decide_eq_true hb2; simp; omega
      clear hb2
      have x1 := HX1.out.c1
      go_wp2_with fail
      go_at_call 77
      refine (HO.out w1).mono ?_
      rintro e w2 ⟨rfl, hd⟩
      have hb := drawn_below hd
      have HX2 := Aside0.mk (HX1.out.move hb HX1.out.lt)
      have HB2 := Aside0.mk (HB1.out.trans (hb.mono HB1.out.size))
      clear hd hb HX1 HB1 x1 x3
      have x2 := HX2.out.c2
      cases b3 with
      | false =>
        go_wp2_with fail
        go_ret
        exact ⟨by simp, HB2.out⟩
      | true =>
        cases b4 with
        | false =>
          have t4 := HE4.out
          go_wp2_with fail
          go_ret
          exact ⟨by simp, HB2.out⟩
        | true =>
          have t4 := HE4.out
          cases b5 with
          | false =>
            have t5 := HE5.out
            go_wp2_with fail
            go_ret
            exact ⟨by simp, HB2.out⟩
          | true =>
            have t5 := HE5.out
            have x0 := HX2.out.c0
            have x1 := HX2.out.c1
            have x3 := HX2.out.c3
            go_wp2_with fail
            go_at_call 80
            refine (tokens_calls w2 A c l st ex A2 rs.length c2 (Kd.C_below HR.out HB2.out) hcl hl).mono ?_
            rw [HE6.out]
            rintro e w3 ⟨rfl, hd⟩
            have HB3 := Aside0.mk (HB2.out.trans (hd.mono HB2.out.size))
            clear hd HX2 HB2 x0 x1 x2 x3
            go_wp2_with fail
            go_ret
            exact ⟨by simp, HB3.out⟩
end Go.Proofs.YtjhemobplcelbaaGreatDoor.M
