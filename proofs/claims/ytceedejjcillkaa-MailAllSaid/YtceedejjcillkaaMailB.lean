/- mail: New, Len. -/
import Derived.Test.YtceedejjcillkaaMailA
import Derived.Test.YtceedejjcillkaaWWords
import Derived.Deep.Draws
import Derived.Below
import Derived.WalkKit
import Derived.Tactics
import Derived.RowKit3
import Derived.Conc.LoneCalls
import Derived.Conc.LoneSelectN
namespace Go.Proofs.Ytceedejjcillkaa.M
open Go.Conc Go.RowKit
set_option linter.unusedVariables false
set_option linter.unusedSimpArgs false

theorem len_run (c : Nat) (cap s r : Nat) (buf : Array Value) (w : World) (hc : w.heap[c]? = some (.chan cap buf false s r false)) :
    Sem.run Try.prog (Builtin.len_ #[48] 3 #[Value.chan (some c)]) w = .ok (.int .i64 (buf.size : Int)) w := by
  exact run_len_chan 48 3 Try.underlying48 hc
theorem bytes3 : ∃ i, Try.prog.info? 3 = some i ∧ i.bytes = 8 := by
  have h : (Try.prog.info? 3).map (·.bytes) = some 8 := by kernel_rfl
  obtain ⟨i, hi, hb⟩ := Option.map_eq_some_iff.1 h
  exact ⟨i, hi, hb⟩
theorem mk (m : Nat) (hm : m ≤ 64) (w : World) : (Instr.makeChan 48 (.int .i64 (m : Int))).run Try.prog w = .ok (.chan (some w.heap.size)) (w.alloc (.chan m #[] false 0 0 false)) := by
  obtain ⟨i, hi, hb⟩ := bytes3
  simpa using run_makeChan (P := Try.prog) (w := w) Try.underlying48 hi .i64 m (by omega) (by rw [hb]; omega)
theorem len_calls (b c : Nat) (cap s r : Nat) (buf : Array Value) (w : World) (hp : w.cell? ⟨b, 0, none⟩ = some (.chan (some c))) (hc : w.heap[c]? = some (.chan cap buf false s r false)) :
    Calls Try.prog 12 #[.pointer (some ⟨b, 0, none⟩)] w fun e w' => e = .returned (.int .i64 (buf.size : Int)) ∧ w' = w := by
  have hl := len_run c cap s r buf w hc
  go_enter Try.func12, Try.ntmps12
  go_wp2
  go_ret
  exact ⟨rfl, rfl⟩
theorem new_calls (n : Int) (w : World) :
    Calls Try.prog 8 #[.int .i64 n] w fun e w' => e = .returned (.pointer (some ⟨w.heap.size + 1, 0, none⟩)) ∧ w' = (w.alloc (.chan (max 1 (min n 64)).toNat #[] false 0 0 false)).alloc (.cells #[.chan (some w.heap.size)] 50 (0, 0)) := by
  by_cases h1 : n < 1
  · have hm : (Instr.makeChan 48 (.int .i64 1)).run Try.prog w = .ok (.chan (some w.heap.size)) (w.alloc (.chan 1 #[] false 0 0 false)) := mk 1 (by omega) w
    have e : (max 1 (min n 64)).toNat = 1 := by omega
    rw [e]
    clear e
    go_enter Try.func8, Try.ntmps8
    go_wp2

    go_ret
    exact ⟨rfl, rfl⟩
  by_cases h2 : 64 < n
  · have hm : (Instr.makeChan 48 (.int .i64 64)).run Try.prog w = .ok (.chan (some w.heap.size)) (w.alloc (.chan 64 #[] false 0 0 false)) := mk 64 (by omega) w
    have e : (max 1 (min n 64)).toNat = 64 := by omega
    rw [e]
    clear e
    go_enter Try.func8, Try.ntmps8
    go_wp2
    go_ret
    exact ⟨rfl, rfl⟩
  · obtain ⟨m, rfl⟩ : ∃ m : Nat, n = (m : Int) := ⟨n.toNat, by omega⟩
    have hm := mk m (by omega) w
    have e : (max 1 (min (m : Int) 64)).toNat = m := by omega
    rw [e]
    clear e
    go_enter Try.func8, Try.ntmps8
    go_wp2
    go_ret
    exact ⟨rfl, rfl⟩

/-! ### Of strings -/
theorem len_runS (c : Nat) (cap s r : Nat) (buf : Array Value) (w : World) (hc : w.heap[c]? = some (.chan cap buf false s r false)) :
    Sem.run Try.prog (Builtin.len_ #[51] 3 #[Value.chan (some c)]) w = .ok (.int .i64 (buf.size : Int)) w := by
  exact run_len_chan 51 3 Try.underlying51 hc
theorem bytes3S : ∃ i, Try.prog.info? 9 = some i ∧ i.bytes = 16 := by
  have h : (Try.prog.info? 9).map (·.bytes) = some 16 := by kernel_rfl
  obtain ⟨i, hi, hb⟩ := Option.map_eq_some_iff.1 h
  exact ⟨i, hi, hb⟩
theorem mkS (m : Nat) (hm : m ≤ 64) (w : World) : (Instr.makeChan 51 (.int .i64 (m : Int))).run Try.prog w = .ok (.chan (some w.heap.size)) (w.alloc (.chan m #[] false 0 0 false)) := by
  obtain ⟨i, hi, hb⟩ := bytes3S
  simpa using run_makeChan (P := Try.prog) (w := w) Try.underlying51 hi .i64 m (by omega) (by rw [hb]; omega)
theorem len_callsS (b c : Nat) (cap s r : Nat) (buf : Array Value) (w : World) (hp : w.cell? ⟨b, 0, none⟩ = some (.chan (some c))) (hc : w.heap[c]? = some (.chan cap buf false s r false)) :
    Calls Try.prog 16 #[.pointer (some ⟨b, 0, none⟩)] w fun e w' => e = .returned (.int .i64 (buf.size : Int)) ∧ w' = w := by
  have hl := len_runS c cap s r buf w hc
  go_enter Try.func16, Try.ntmps16
  go_wp2
  go_ret
  exact ⟨rfl, rfl⟩
theorem new_callsS (n : Int) (w : World) :
    Calls Try.prog 13 #[.int .i64 n] w fun e w' => e = .returned (.pointer (some ⟨w.heap.size + 1, 0, none⟩)) ∧ w' = (w.alloc (.chan (max 1 (min n 64)).toNat #[] false 0 0 false)).alloc (.cells #[.chan (some w.heap.size)] 53 (0, 0)) := by
  by_cases h1 : n < 1
  · have hm : (Instr.makeChan 51 (.int .i64 1)).run Try.prog w = .ok (.chan (some w.heap.size)) (w.alloc (.chan 1 #[] false 0 0 false)) := mkS 1 (by omega) w
    have e : (max 1 (min n 64)).toNat = 1 := by omega
    rw [e]
    clear e
    go_enter Try.func13, Try.ntmps13
    go_wp2

    go_ret
    exact ⟨rfl, rfl⟩
  by_cases h2 : 64 < n
  · have hm : (Instr.makeChan 51 (.int .i64 64)).run Try.prog w = .ok (.chan (some w.heap.size)) (w.alloc (.chan 64 #[] false 0 0 false)) := mkS 64 (by omega) w
    have e : (max 1 (min n 64)).toNat = 64 := by omega
    rw [e]
    clear e
    go_enter Try.func13, Try.ntmps13
    go_wp2
    go_ret
    exact ⟨rfl, rfl⟩
  · obtain ⟨m, rfl⟩ : ∃ m : Nat, n = (m : Int) := ⟨n.toNat, by omega⟩
    have hm := mkS m (by omega) w
    have e : (max 1 (min (m : Int) 64)).toNat = m := by omega
    rw [e]
    clear e
    go_enter Try.func13, Try.ntmps13
    go_wp2
    go_ret
    exact ⟨rfl, rfl⟩
end Go.Proofs.Ytceedejjcillkaa.M
