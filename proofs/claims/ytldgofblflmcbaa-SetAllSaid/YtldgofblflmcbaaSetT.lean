/- oset: donatuslaw3.SetAll answers true, in either order. -/
import Derived.Test.YtldgofblflmcbaaSetR
namespace Go.Proofs.Ytldgofblflmcbaa.S
open Go.RowKit Go.Proofs.YtldgofblflmcbaaW.PrintWords
theorem All_row (w : World) (A0 : Option Addr) (c0 : Nat) (xs : List S29) (hr0 : Kd.C k29 w A0 xs.length xs) (le0 : xs.length ≤ c0) {P : S29 → Prop} (ok0 : xs.length ≤ maxLen ∧ xs.length * 16 ≤ 140737488351232 ∧ ∀ x ∈ xs, P x) (down : Bool) (ask : Int) (ok2 : (Lit.int .i64 ask).wf = true) :
    Calls Try.prog 3 #[.slice A0 xs.length c0, .bool down, .int .i64 ask] w fun e w' => e = .returned (.bool true) ∧ Below w.heap.size w w' := by
  have hll : xs.length ≤ 17592186044416 := by have := ok0.2.1; omega
  cases down
  · exact I9.All_calls w A0 c0 xs hr0 le0 hll ask ok2
  · exact I10.All_calls w A0 c0 xs hr0 le0 hll ask ok2
end Go.Proofs.Ytldgofblflmcbaa.S
