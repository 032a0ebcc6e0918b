/- of: a grammar as an argument: its kind, under the names that the row wants. -/
import Derived.Test.YtjhemobplcelbaaGreatDoorOfA
namespace Go.Proofs.YtjhemobplcelbaaGreatDoor.O
open Go.RowKit Go.Proofs.YtjhemobplcelbaaGreatDoorW.PrintWords Go.Proofs.YtjhemobplcelbaaGreatDoorW.PrintLast Go.Proofs.YtjhemobplcelbaaGreatDoorW.PrintMore
structure SGr where
  f0 : List STk
  f1 : ByteArray
  f2 : Int
  f3 : List SRu
abbrev k71 : Kd STk := kTk
abbrev k73 : Kd SRu := kRu
def k25 : Kd SGr := Kd.iso (Kd.pair (Kd.slice 71 kTk) (Kd.pair Kd.string (Kd.pair (Kd.int .i64) (Kd.slice 73 kRu)))) (fun x : SGr => (x.f0, x.f1, x.f2, x.f3))
theorem k25_open {w : World} {x : SGr} {cs : List Value} (h : k25.K w x cs) : ∃ A0 c0 A3 c3, cs = [.slice A0 x.f0.length c0, .string x.f1, .int .i64 x.f2, .slice A3 x.f3.length c3] ∧ x.f0.length ≤ c0 ∧ kTk.C w A0 x.f0.length x.f0 ∧ x.f3.length ≤ c3 ∧ kRu.C w A3 x.f3.length x.f3 := by
  obtain ⟨_, _, rfl, ⟨A0, c0, rfl, l0, g0⟩, ⟨_, _, rfl, rfl, ⟨_, _, rfl, rfl, ⟨A3, c3, rfl, l3, g3⟩⟩⟩⟩ := h
  exact ⟨A0, c0, A3, c3, rfl, l0, g0, l3, g3⟩
end Go.Proofs.YtjhemobplcelbaaGreatDoor.O
