/- well: the law WellRules answers true. -/
import Derived.Test.YtjhemobplcelbaaGreatDoorWellH
import Derived.Test.YtjhemobplcelbaaGreatDoorEvY7
namespace Go.Proofs.YtjhemobplcelbaaGreatDoor.U
open Go.RowKit Go.Proofs.YtjhemobplcelbaaGreatDoorW.PrintWords Go.Proofs.YtjhemobplcelbaaGreatDoorW.PrintLast Go.Proofs.YtjhemobplcelbaaGreatDoorW.PrintMore
set_option linter.unusedVariables false
set_option linter.unusedSimpArgs false
theorem begun_yes (w : World) : Calls Tryz.prog 34 #[] w fun e w' => e = .returned (.bool true) ∧ Below w.heap.size w w' := V.yes_Y7 w
set_option maxRecDepth 100000 in
set_option maxHeartbeats 4000000 in
theorem wellrules_walk (w : World) (tk : Int) (ht : (Lit.int .i64 tk).wf = true) (nt : Int) (hn : (Lit.int .i64 nt).wf = true) (A : Option Addr) (c : Nat) (l : List (List Int)) (hl : Kd.C (Kd.slice 3 (Kd.int .i64)) w A l.length l) (hc : l.length ≤ c) {ok : Prop} (hok : ok) :
    Calls Tryz.prog 10 #[.int .i64 tk, .int .i64 nt, .slice A l.length c] w fun e w' => e = .returned (.bool true) ∧ Below w.heap.size w w' := by
  have HL := Aside0.mk (And.intro hl hc)
  clear hl hok ht hn
  go_enter Tryz.func10, Tryz.ntmps10
  go_wp2_with fail
  go_at_call 34
  refine (begun_yes _).mono ?_
  rintro e w3 ⟨rfl, hb⟩
  have HB := Aside0.mk hb
  clear hb
  go_wp2_with fail
  go_at_call 36
  refine (rules_calls w3 tk nt A c l (Kd.C_below HL.out.1 HB.out) HL.out.2).mono ?_
  rintro e w4 ⟨t, n, st, A4, A5, A6, A7, n4, c4, n5, c5, n6, c6, c7, rs, rfl, h1, h2, h3, h4, h5, h6, h7, hb⟩
  have HB4 := Aside0.mk (HB.out.trans (hb.mono HB.out.size))
  have C := Aside0.mk (sets_walk w4 t n st 0 A4 A5 A6 A7 n4 c4 n5 c5 n6 c6 c7 rs h1 h2 h3 h4 h5 (by omega) h7)
  clear h1 h2 h3 h4 h5 h6 h7 hb
  go_wp2_with fail
  go_at_call 35
  refine C.out.mono ?_
  rintro e w5 ⟨rfl, hb⟩
  have HB5 := Aside0.mk (HB4.out.trans (hb.mono HB4.out.size))
  clear hb C
  go_wp2_with fail
  go_ret
  exact ⟨rfl, HB5.out⟩
end Go.Proofs.YtjhemobplcelbaaGreatDoor.U
