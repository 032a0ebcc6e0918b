/- What donatuslaw2.begun answers: true, whatever the world. No condition. -/
import Derived.Test.YtkooodnkgipaeaaCrcx1
import Derived.Lib.SlBytesConst
namespace Go.Proofs.Ytkooodnkgipaeaa.Crc
open Go.RowKit Go.Proofs.YtkooodnkgipaeaaW.PrintWords Go.Proofs.YtkooodnkgipaeaaW.PrintLast Go.Proofs.YtkooodnkgipaeaaW.PrintMore

def donatuslaw2_begun.f : Option Bool := some true
theorem sum9 : crc_Sum.f 100 [49, 50, 51, 52, 53, 54, 55, 56, 57] = some 3421780262 := by decide +kernel
theorem sum0 : crc_Sum.f 100 [] = some 0 := by decide +kernel
theorem lit9 (w : World) : Kd.C (Kd.int .u8) (w.alloc (.cells #[.int .u8 49, .int .u8 50, .int .u8 51, .int .u8 52, .int .u8 53, .int .u8 54, .int .u8 55, .int .u8 56, .int .u8 57] 5 (9, 10))) (some ⟨w.heap.size, 0, none⟩) ([49, 50, 51, 52, 53, 54, 55, 56, 57] : List Int).length [49, 50, 51, 52, 53, 54, 55, 56, 57] := by
  refine ⟨rfl, by simp, fun _ => ⟨_, rfl, fun j p hj => ⟨[.int .u8 p], rfl, rfl, fun i u hu => ?_⟩⟩⟩
  have hjl := (List.getElem?_eq_some_iff.1 hj).1
  match i, hu with
  | 0, hu =>
    obtain rfl := Option.some.inj hu
    simp only [List.length_cons, List.length_nil] at hjl
    have : j = 0 ∨ j = 1 ∨ j = 2 ∨ j = 3 ∨ j = 4 ∨ j = 5 ∨ j = 6 ∨ j = 7 ∨ j = 8 := by omega
    rcases this with rfl | rfl | rfl | rfl | rfl | rfl | rfl | rfl | rfl <;>
      (obtain rfl := Option.some.inj hj; simp [Kd.int, Kd.scalar, Addr.add, World.cell?_alloc_mark])
theorem call9 (w : World) : Calls Try.prog 10 #[.slice (some ⟨w.heap.size, 0, none⟩) 9 9] (w.alloc (.cells #[.int .u8 49, .int .u8 50, .int .u8 51, .int .u8 52, .int .u8 53, .int .u8 54, .int .u8 55, .int .u8 56, .int .u8 57] 5 (9, 10)))
    fun e w' => e = .returned (.int .u32 3421780262) ∧ Drawn0 (w.alloc (.cells #[.int .u8 49, .int .u8 50, .int .u8 51, .int .u8 52, .int .u8 53, .int .u8 54, .int .u8 55, .int .u8 56, .int .u8 57] 5 (9, 10))) w' :=
  crc_Sum.calls 100 _ 9 [49, 50, 51, 52, 53, 54, 55, 56, 57] _ _ (lit9 w) (by decide) sum9
theorem call0 (w : World) : Calls Try.prog 10 #[.slice none 0 0] w fun e w' => e = .returned (.int .u32 0) ∧ Drawn0 w w' :=
  crc_Sum.calls 100 _ 0 [] _ _ (Kd.C_nil _ _) (Nat.le_refl _) sum0
set_option maxHeartbeats 400000 in
theorem donatuslaw2_begun.calls (r : Bool) (w : World) (h : donatuslaw2_begun.f = some r) :
    Calls Try.prog 8 #[] w fun e w' => e = .returned (.bool r) ∧ Below w.heap.size w w' := by
  obtain rfl := Option.some.inj h
  clear h
  have kc := fun (w : World) (C : Array Value) (n c : Nat) => Lib.run_convert_bytes_const (P := Try.prog) w 24 5 C n c Try.underlying24 Try.underlying5
  go_enter Try.func8, Try.ntmps8
  go_wp2_with fail
  go_at_call 10
  refine (call9 _).mono ?_
  rintro e w' ⟨rfl, ⟨nd, rfl⟩⟩
  clear kc
  go_wp2_with fail
  go_at_call 10
  refine (call0 _).mono ?_
  rintro e w' ⟨rfl, ⟨nd2, rfl⟩⟩
  go_wp2_with fail
  go_ret
  exact ⟨rfl, by repeat (first | (with_reducible first | exact Below.refl _ _ | apply below_alloc | apply pw_below_drewN | apply below_drew1))⟩
end Go.Proofs.Ytkooodnkgipaeaa.Crc
