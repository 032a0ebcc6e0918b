/-
  No cell of these rows narrows 'for every input' (looked for: loops, veiled, ifaces, maps, wideKeys, modest, calm, conditions, laid).
  DERIVED. THE GIVEN ROWS OF THIS SEAT. 4 by the template 'for every input the law returns true; each argument reads behind the call as it read before'; 0 by the template 'total and deterministic' (their statements: YtceedejjcillkaaTotals.lean).
  GIVEN WITH THE SEED: the statements are not yours to turn. If you find one false, say at which input.
  Laid BY PROGRAM, IN A SANDBOX (cutbox-rows.mjs): the forced cells as the released guide's own fill.sh prints them over the translation 09a20b048fbce3b2… (all of the seat's roots in one cut). By AI agents, Wed Nov 11 2026. No macro, syntax, notation, axiom, sorry.
-/
import Derived.Test.YtceedejjcillkaaChecked
import GoSem.Claim
import GoSem.ClaimJoined
import GoSem.ClaimMapViews
import Derived.JoinedTies
import Derived.KernelRfl
namespace Go.Proofs.Ytceedejjcillkaa
/- THE CELL 'sum', in the pinned program and in every row, IS THE sha256 OF THE DUMP (.gsa) THAT YtceedejjcillkaaProg.lean LOADS. Nothing in Lean hashes anything: it is a label: what it is worth is what the hold of that sum in a sandbox is worth. -/
noncomputable def Try.pinned : Pinned := { name := "ytceedejjcillkaa", sum := "09a20b048fbce3b23b1c1fb3859c1553317bf1da3c2fe13d886e8ace1a5845f6", checked := Try.checked }
namespace Rows
def none {H : Type} : Left H := { results := [], args := [] }

/-- 'donatuslaw28.MailAll': WHATEVER THE INPUT: true; the input reads as it did. -/
def mailAllSpec : ChangeSpec := { name := "mailAll", fn := fun _ => fun
  | [d1, d2, d3] => { results := [.lit (.bool true)], args := [d1, d2, d3] }
  | _ => none }
def mailAllRow : OpenClaim := { program := "ytceedejjcillkaa", sum := "09a20b048fbce3b23b1c1fb3859c1553317bf1da3c2fe13d886e8ace1a5845f6", func := "donatus/donatuslaw28.MailAll", spec := "mailAll", apart := false }
def MailAllSaid : Prop := mailAllRow.holds Try.pinned (OpenSpec.ofChange mailAllSpec)

/-- ITS FALSE NEIGHBOUR: 'it returns false'. Refute it at one input. -/
def mailAllWrong : ChangeSpec := { name := "mailAll", fn := fun _ => fun
  | [d1, d2, d3] => { results := [.lit (.bool false)], args := [d1, d2, d3] }
  | _ => none }
def MailAllWrongFalsely : Prop := mailAllRow.holds Try.pinned (OpenSpec.ofChange mailAllWrong)

/-- 'donatuslaw28.MailEither': WHATEVER THE INPUT: true; the input reads as it did. -/
def mailEitherSpec : ChangeSpec := { name := "mailEither", fn := fun _ => fun
  | [d1, d2] => { results := [.lit (.bool true)], args := [d1, d2] }
  | _ => none }
def mailEitherRow : OpenClaim := { program := "ytceedejjcillkaa", sum := "09a20b048fbce3b23b1c1fb3859c1553317bf1da3c2fe13d886e8ace1a5845f6", func := "donatus/donatuslaw28.MailEither", spec := "mailEither", apart := false }
def MailEitherSaid : Prop := mailEitherRow.holds Try.pinned (OpenSpec.ofChange mailEitherSpec)

/-- ITS FALSE NEIGHBOUR: 'it returns false'. Refute it at one input. -/
def mailEitherWrong : ChangeSpec := { name := "mailEither", fn := fun _ => fun
  | [d1, d2] => { results := [.lit (.bool false)], args := [d1, d2] }
  | _ => none }
def MailEitherWrongFalsely : Prop := mailEitherRow.holds Try.pinned (OpenSpec.ofChange mailEitherWrong)

/-- 'donatuslaw28.MailNone': WHATEVER THE INPUT: true; the input reads as it did. -/
def mailNoneSpec : ChangeSpec := { name := "mailNone", fn := fun _ => fun
  | [] => { results := [.lit (.bool true)], args := [] }
  | _ => none }
def mailNoneRow : OpenClaim := { program := "ytceedejjcillkaa", sum := "09a20b048fbce3b23b1c1fb3859c1553317bf1da3c2fe13d886e8ace1a5845f6", func := "donatus/donatuslaw28.MailNone", spec := "mailNone", apart := false }
def MailNoneSaid : Prop := mailNoneRow.holds Try.pinned (OpenSpec.ofChange mailNoneSpec)

/-- ITS FALSE NEIGHBOUR: 'it returns false'. Refute it at one input. -/
def mailNoneWrong : ChangeSpec := { name := "mailNone", fn := fun _ => fun
  | [] => { results := [.lit (.bool false)], args := [] }
  | _ => none }
def MailNoneWrongFalsely : Prop := mailNoneRow.holds Try.pinned (OpenSpec.ofChange mailNoneWrong)

/-- 'donatuslaw28.MailFull': WHATEVER THE INPUT: true; the input reads as it did. -/
def mailFullSpec : ChangeSpec := { name := "mailFull", fn := fun _ => fun
  | [d1, d2] => { results := [.lit (.bool true)], args := [d1, d2] }
  | _ => none }
def mailFullRow : OpenClaim := { program := "ytceedejjcillkaa", sum := "09a20b048fbce3b23b1c1fb3859c1553317bf1da3c2fe13d886e8ace1a5845f6", func := "donatus/donatuslaw28.MailFull", spec := "mailFull", apart := false }
def MailFullSaid : Prop := mailFullRow.holds Try.pinned (OpenSpec.ofChange mailFullSpec)

/-- ITS FALSE NEIGHBOUR: 'it returns false'. Refute it at one input. -/
def mailFullWrong : ChangeSpec := { name := "mailFull", fn := fun _ => fun
  | [d1, d2] => { results := [.lit (.bool false)], args := [d1, d2] }
  | _ => none }
def MailFullWrongFalsely : Prop := mailFullRow.holds Try.pinned (OpenSpec.ofChange mailFullWrong)

/- THE SECOND FORM. 'bulk': how many values and letters a reading holds, each counted each time it is reached (what is shared counts as often as it is met; a slice's spare places count too). A statement '..UptoSaid' is the law's where the arguments, and the package variables that the reading takes, are together of bulk at most 1048576: NARROWER than '..Said'. Prove '..Said' where nothing that the law and all that it calls make is longer than what came in: it says more and counts as full. Else prove '..UptoSaid'. A law counts once. -/
mutual
def uptoBulk {H : Type} : DataW H → Nat
  | .lit (.string bytes) => bytes.length + 1
  | .lit _ => 1
  | .nil => 1
  | .ptr d => uptoBulk d + 1
  | .slice elems spare => uptoBulkAll elems + uptoBulkAll spare + 1
  | .agg parts => uptoBulkAll parts + 1
  | .iface _ d => uptoBulk d + 1
  | .map entries => uptoBulkEntries entries + 1
  | .held _ => 1
def uptoBulkAll {H : Type} : List (DataW H) → Nat
  | [] => 0
  | d :: r => uptoBulk d + uptoBulkAll r
def uptoBulkEntries {H : Type} : List (Lit × DataW H) → Nat
  | [] => 0
  | x :: r => uptoBulkEntry x + uptoBulkEntries r
def uptoBulkEntry {H : Type} : Lit × DataW H → Nat
  | (.string bytes, d) => bytes.length + uptoBulk d + 1
  | (_, d) => uptoBulk d + 1
 end
def uptoSmall : (H : Type) → List (DataW H) → Bool := fun _ ds => decide (uptoBulkAll ds ≤ 1048576)
def OpenSpec.upto (s : _root_.Go.ChangeSpec) : _root_.Go.OpenSpec := { _root_.Go.OpenSpec.ofChange s with cond := some uptoSmall }

/-- 'donatuslaw28.MailAll', WHERE WHAT IT READS IS OF BULK AT MOST 1048576: true; the input reads as it did. -/
def mailAllUptoRow : OpenClaim := { program := "ytceedejjcillkaa", sum := "09a20b048fbce3b23b1c1fb3859c1553317bf1da3c2fe13d886e8ace1a5845f6", func := "donatus/donatuslaw28.MailAll", spec := "mailAll", apart := false, narrowed := true }
def MailAllUptoSaid : Prop := mailAllUptoRow.holds Try.pinned (OpenSpec.upto mailAllSpec)

/-- 'donatuslaw28.MailEither', WHERE WHAT IT READS IS OF BULK AT MOST 1048576: true; the input reads as it did. -/
def mailEitherUptoRow : OpenClaim := { program := "ytceedejjcillkaa", sum := "09a20b048fbce3b23b1c1fb3859c1553317bf1da3c2fe13d886e8ace1a5845f6", func := "donatus/donatuslaw28.MailEither", spec := "mailEither", apart := false, narrowed := true }
def MailEitherUptoSaid : Prop := mailEitherUptoRow.holds Try.pinned (OpenSpec.upto mailEitherSpec)

/-- 'donatuslaw28.MailNone', WHERE WHAT IT READS IS OF BULK AT MOST 1048576: true; the input reads as it did. -/
def mailNoneUptoRow : OpenClaim := { program := "ytceedejjcillkaa", sum := "09a20b048fbce3b23b1c1fb3859c1553317bf1da3c2fe13d886e8ace1a5845f6", func := "donatus/donatuslaw28.MailNone", spec := "mailNone", apart := false, narrowed := true }
def MailNoneUptoSaid : Prop := mailNoneUptoRow.holds Try.pinned (OpenSpec.upto mailNoneSpec)

/-- 'donatuslaw28.MailFull', WHERE WHAT IT READS IS OF BULK AT MOST 1048576: true; the input reads as it did. -/
def mailFullUptoRow : OpenClaim := { program := "ytceedejjcillkaa", sum := "09a20b048fbce3b23b1c1fb3859c1553317bf1da3c2fe13d886e8ace1a5845f6", func := "donatus/donatuslaw28.MailFull", spec := "mailFull", apart := false, narrowed := true }
def MailFullUptoSaid : Prop := mailFullUptoRow.holds Try.pinned (OpenSpec.upto mailFullSpec)

end Rows
end Go.Proofs.Ytceedejjcillkaa
