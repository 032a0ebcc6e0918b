/- donatuslaw22.VoteAll answers true: each votes once; it is won by more than half, lost when it can't be any more. The texts of the arguments are those of the row. -/
import Derived.Test.YtlieblnpkgnkfaaVoteGA
import Derived.Test.YtlieblnpkgnkfaaVoteGB
namespace Go.Proofs.Ytlieblnpkgnkfaa.V
set_option linter.unusedVariables false
open Go.RowKit Go.Proofs.YtlieblnpkgnkfaaW.PrintWords Go.Proofs.YtlieblnpkgnkfaaW.PrintLast Go.Proofs.YtlieblnpkgnkfaaW.PrintMore
theorem All_calls (w : World) (A0 : Option Addr) (c0 : Nat) (l0 : List Int) (hr0 : Kd.C (Kd.int .i64) w A0 l0.length l0) (le0 : l0.length ≤ c0) (ok0 : l0.length ≤ maxLen ∧ l0.length * 8 ≤ 140737488351232 ∧ ∀ x ∈ l0, (Lit.int .i64 x).wf = true) (A1 : Option Addr) (c1 : Nat) (l1 : List S29) (hr1 : Kd.C k29 w A1 l1.length l1) (le1 : l1.length ≤ c1) (ok1 : l1.length ≤ maxLen ∧ l1.length * 16 ≤ 140737488351232 ∧ ∀ x ∈ l1, (Lit.int .i64 x.f0).wf = true ∧ True) :
    Calls Try.prog 3 #[.slice A0 l0.length c0, .slice A1 l1.length c1] w fun e w' => e = .returned (.bool true) ∧ Below w.heap.size w w' := by
  have h0 := ok0.2.1
  have h1 := ok1.2.1
  rcases Nat.lt_or_ge 10 l0.length with h | h
  · exact All_A w A0 c0 l0 hr0 le0 (by omega) A1 c1 l1 hr1 le1 (by omega) h
  · exact All_B w A0 c0 l0 hr0 le0 (by omega) A1 c1 l1 hr1 le1 (by omega) h
end Go.Proofs.Ytlieblnpkgnkfaa.V
