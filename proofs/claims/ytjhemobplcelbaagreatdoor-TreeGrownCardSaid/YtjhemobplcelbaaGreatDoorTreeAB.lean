/- tree: the law TreeAll as the row wants it. -/
import Derived.Test.YtjhemobplcelbaaGreatDoorTreeAA
import Derived.Test.YtjhemobplcelbaaGreatDoorOfK
namespace Go.Proofs.YtjhemobplcelbaaGreatDoor.T
open Go.RowKit Go.Proofs.YtjhemobplcelbaaGreatDoorW.PrintWords Go.Proofs.YtjhemobplcelbaaGreatDoorW.PrintLast Go.Proofs.YtjhemobplcelbaaGreatDoorW.PrintMore
set_option linter.unusedVariables false
abbrev k71 : Kd O.STk := O.kTk
abbrev k73 : Kd O.SRu := O.kRu
abbrev k25 : Kd O.SGr := O.k25
theorem k25_open {w : World} {x : O.SGr} {cs : List Value} (h : k25.K w x cs) : ∃ A0 c0 A3 c3, cs = [.slice A0 x.f0.length c0, .string x.f1, .int .i64 x.f2, .slice A3 x.f3.length c3] ∧ x.f0.length ≤ c0 ∧ O.kTk.C w A0 x.f0.length x.f0 ∧ x.f3.length ≤ c3 ∧ O.kRu.C w A3 x.f3.length x.f3 := O.k25_open h
theorem treeall_row (w : World) (A0 : Option Addr) (c0 : Nat) (A3 : Option Addr) (c3 : Nat) (x : O.SGr) (r0 : O.kTk.C w A0 x.f0.length x.f0) (e0 : x.f0.length ≤ c0) (r3 : O.kRu.C w A3 x.f3.length x.f3) (e3 : x.f3.length ≤ c3) {ok : Prop} (hok : ok)
    (B1 : Option Addr) (d1 : Nat) (la : List S87) (ha : Kd.C k87 w B1 la.length la) (hd1 : la.length ≤ d1) {ok1 : Prop} (hok1 : ok1) (B2 : Option Addr) (d2 : Nat) (lb : List S87) (hb : Kd.C k87 w B2 lb.length lb) (hd2 : lb.length ≤ d2) {ok2 : Prop} (hok2 : ok2) :
    Calls Tryz.prog 3 #[.agg #[.slice A0 x.f0.length c0, .string x.f1, .int .i64 x.f2, .slice A3 x.f3.length c3], .slice B1 la.length d1, .slice B2 lb.length d2] w fun e w' => e = .returned (.bool true) ∧ Below w.heap.size w w' :=
  treeall_walk w A0 c0 x.f0 x.f1 x.f2 A3 c3 x.f3 r0 e0 r3 e3 B1 d1 la ha B2 d2 lb hb hd1 hd2 hok
end Go.Proofs.YtjhemobplcelbaaGreatDoor.T
