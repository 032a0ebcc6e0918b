/- of: long of donatusref4. -/
import Derived.Test.YtjhemobplcelbaaGreatDoorOfB
namespace Go.Proofs.YtjhemobplcelbaaGreatDoor.O
open Go.RowKit Go.Proofs.YtjhemobplcelbaaGreatDoorW.PrintWords Go.Proofs.YtjhemobplcelbaaGreatDoorW.PrintLast Go.Proofs.YtjhemobplcelbaaGreatDoorW.PrintMore
set_option linter.unusedVariables false
set_option linter.unusedSimpArgs false
def longB (ts : List STk) (rs : List SRu) : Bool := rs.any (fun r => decide (6 < r.f1.length)) || (decide (12 < ts.length) || (decide (30 < rs.length) || decide (10 < (leftsF rs).length)))
def LgRel (W1 : World) (rs : List SRu) (kq : Nat) (v : Value) (w' : World) : Prop := ∃ i : Nat, i + kq = rs.length ∧ v = .int .i64 (i : Int) ∧ w' = W1 ∧ rs.any (fun r => decide (6 < r.f1.length)) = (rs.drop i).any (fun r => decide (6 < r.f1.length))
set_option maxHeartbeats 4000000 in
theorem long_calls (w : World) (A : Option Addr) (c : Nat) (ts : List STk) (st : ByteArray) (ex : Int) (A2 : Option Addr) (c2 : Nat) (rs : List SRu) (hrs : Kd.C kRu w A2 rs.length rs) (hc : rs.length ≤ c2) (hl : rs.length ≤ 1000000) :
    Calls Tryz.prog 42 #[.agg #[.slice A ts.length c, .string st, .int .i64 ex, .slice A2 rs.length c2]] w fun e w' => e = .returned (.bool (longB ts rs)) ∧ Below w.heap.size w w' := by
  have hb := below_alloc (Below.refl w.heap.size w) (.cells #[.slice A ts.length c, .string st, .int .i64 ex, .slice A2 rs.length c2] 25)
  have hx : GBox (w.alloc (.cells #[.slice A ts.length c, .string st, .int .i64 ex, .slice A2 rs.length c2] 25)) w.heap.size _ _ _ _ := GBox.new w
  have HX := Aside0.mk (And.intro (Kd.C_below hrs hb) (And.intro hb hl))
  have CL := Aside0.mk (lefts_calls (w.alloc (.cells #[.slice A ts.length c, .string st, .int .i64 ex, .slice A2 rs.length c2] 25)) A ts.length c st ex A2 c2 rs HX.out.1 hc hl)
  clear hrs hl
  go_enter Tryz.func42, Tryz.ntmps42
  go_upto_region 1 with fail
  generalize w.alloc (.cells #[.slice A ts.length c, .string st, .int .i64 ex, .slice A2 rs.length c2] 25) = W1 at *
  generalize hXe : w.heap.size = X at hx ⊢
  have x0 := hx.c0
  have x1 := hx.c1
  have x2 := hx.c2
  have x3 := hx.c3
  clear hx hb
  go_wp2_with fail
  go_loopg [3] rs.length (fun kq v3 w' => LgRel W1 rs kq v3 w')
  case atStart => exact ⟨0, by omega, rfl, rfl, rfl⟩
  case round =>
    obtain ⟨i, hi, rfl, rfl, hs⟩ := hrel
    have HI := Aside0.mk hi
    have HS := Aside0.mk hs
    clear hi hs
    by_cases hil : i < rs.length
    · have t1 : decide ((i : Int) < (rs.length : Int)) = true := by simp; omega
      have hin : (i : Int) < (rs.length : Int) := by omega
      obtain ⟨ad, A1, c1, e1, _, hcl, _⟩ := ru_at HX.out.1 i hil
      have HST : Aside0 (rs.any (fun r => decide (6 < r.f1.length)) = (decide (6 < rs[i].f1.length) || (rs.drop (i + 1)).any (fun r => decide (6 < r.f1.length)))) := ⟨by rw [HS.out, List.drop_eq_getElem_cons hil, List.any_cons]⟩
      have HIL := Aside0.mk hil
      generalize rs[i].f1.length = n1 at *
      subst e1
      by_cases hn : 6 < n1
      · have t5 : decide ((n1 : Int) > 6) = true := by simp; omega
        have HE : Aside0 (longB ts rs = true) := ⟨by unfold longB; rw [HST.out, decide_eq_true hn]; simp⟩
        go_wp2_with fail
        go_ret
        rw [HE.out]
        exact ⟨rfl, HX.out.2.1⟩
      · have t5 : decide ((n1 : Int) > 6) = false := by simp; omega
        have HD := Aside0.mk (decide_eq_false hn)
        go_wp2_with fail
        go_roundg (gk - 1)
        case measure => have := HI.out; have := HIL.out; omega
        case rel => exact ⟨i + 1, by have := HI.out; have := HIL.out; omega, by have h1 := HIL.out; have h2 := HX.out.2.2; congr 1; unfold wrap64; omega, rfl, by rw [HST.out, HD.out, Bool.false_or]⟩
    · have t1 : decide ((i : Int) < (rs.length : Int)) = false := by simp; omega
      have HN : Aside0 (longB ts rs = (decide (12 < ts.length) || (decide (30 < rs.length) || decide (10 < (leftsF rs).length)))) := ⟨by unfold longB; rw [HS.out, List.drop_of_length_le (by omega)]; rfl⟩
      by_cases ha : 12 < ts.length
      · have t2 : decide ((ts.length : Int) > 12) = true := by simp; omega
        have HE : Aside0 (longB ts rs = true) := ⟨by rw [HN.out, decide_eq_true ha]; rfl⟩
        go_wp2_with fail
        go_ret
        rw [HE.out]
        exact ⟨rfl, HX.out.2.1⟩
      · have t2 : decide ((ts.length : Int) > 12) = false := by simp; omega
        by_cases hb2 : 30 < rs.length
        · have t3 : decide ((rs.length : Int) > 30) = true := by simp; omega
          have HE : Aside0 (longB ts rs = true) := ⟨by rw [HN.out, decide_eq_false ha, decide_eq_true hb2]; rfl⟩
          go_wp2_with fail
          go_ret
          rw [HE.out]
          exact ⟨rfl, HX.out.2.1⟩
        · have t3 : decide ((rs.length : Int) > 30) = false := by simp; omega
          have HE : Aside0 (longB ts rs = decide (10 < (leftsF rs).length)) := ⟨by rw [HN.out, decide_eq_false ha, decide_eq_false hb2]; rfl⟩
          go_wp2_with fail
          go_at_call 44
          refine CL.out.mono ?_
          rintro e w3 ⟨v, rfl, ho, hbl⟩
          obtain ⟨Al, cl, rfl, _, _⟩ := Kd.R_reads ho
          have HBL := Aside0.mk (HX.out.2.1.trans (hbl.mono HX.out.2.1.size))
          clear ho hbl
          go_wp2_with fail
          go_ret
          rw [HE.out, show decide (10 < (leftsF rs).length) = decide (((leftsF rs).length : Int) > 10) from decide_eq_decide.2 (by omega)]
          refine ⟨?_, HBL.out⟩
          first | rfl | simp
end Go.Proofs.YtjhemobplcelbaaGreatDoor.O
