/-
  No cell of these rows narrows 'for every input' (looked for: loops, veiled, ifaces, maps, wideKeys, modest, calm, conditions, laid).
  DERIVED. THE GIVEN ROWS OF THIS SEAT. 5 by the template 'for every input the law returns true; each argument reads behind the call as it read before'; 0 by the template 'total and deterministic' (their statements: YtldgofblflmcbaaTotals.lean).
  GIVEN WITH THE SEED: the statements are not yours to turn. If you find one false, say at which input.
  Laid BY PROGRAM, IN A SANDBOX (cutbox-rows.mjs): the forced cells as the released guide's own fill.sh prints them over the translation 02d2ffa23cc4698c… (all of the seat's roots in one cut). By AI agents, Wed Nov 11 2026. No macro, syntax, notation, axiom, sorry.
-/
import Derived.Test.YtldgofblflmcbaaChecked
import GoSem.Claim
import GoSem.ClaimJoined
import GoSem.ClaimMapViews
import Derived.JoinedTies
import Derived.KernelRfl
namespace Go.Proofs.Ytldgofblflmcbaa
/- THE CELL 'sum', in the pinned program and in every row, IS THE sha256 OF THE DUMP (.gsa) THAT YtldgofblflmcbaaProg.lean LOADS. Nothing in Lean hashes anything: it is a label: what it is worth is what the hold of that sum in a sandbox is worth. -/
noncomputable def Try.pinned : Pinned := { name := "ytldgofblflmcbaa", sum := "02d2ffa23cc4698c37bcb8bde92968c98e8b7eb170581b2a3d86a5d7ca9d1e49", checked := Try.checked }
namespace Rows
def none {H : Type} : Left H := { results := [], args := [] }

/-- 'donatuslaw3.SetAll': WHATEVER THE INPUT: true; the input reads as it did. -/
def setAllSpec : ChangeSpec := { name := "setAll", fn := fun _ => fun
  | [d1, d2, d3] => { results := [.lit (.bool true)], args := [d1, d2, d3] }
  | _ => none }
def setAllRow : OpenClaim := { program := "ytldgofblflmcbaa", sum := "02d2ffa23cc4698c37bcb8bde92968c98e8b7eb170581b2a3d86a5d7ca9d1e49", func := "donatus/donatuslaw3.SetAll", spec := "setAll", inPlace := ["slices.overlaps[int]"], unfollowed := true, recurses := true, apart := false }
def SetAllSaid : Prop := setAllRow.holds Try.pinned (OpenSpec.ofChange setAllSpec)

/-- ITS FALSE NEIGHBOUR: 'it returns false'. Refute it at one input. -/
def setAllWrong : ChangeSpec := { name := "setAll", fn := fun _ => fun
  | [d1, d2, d3] => { results := [.lit (.bool false)], args := [d1, d2, d3] }
  | _ => none }
def SetAllWrongFalsely : Prop := setAllRow.holds Try.pinned (OpenSpec.ofChange setAllWrong)

/-- 'donatuslaw3.SetFirst': WHATEVER THE INPUT: true; the input reads as it did. -/
def setFirstSpec : ChangeSpec := { name := "setFirst", fn := fun _ => fun
  | [d] => { results := [.lit (.bool true)], args := [d] }
  | _ => none }
def setFirstRow : OpenClaim := { program := "ytldgofblflmcbaa", sum := "02d2ffa23cc4698c37bcb8bde92968c98e8b7eb170581b2a3d86a5d7ca9d1e49", func := "donatus/donatuslaw3.SetFirst", spec := "setFirst", inPlace := ["slices.overlaps[int]", "slices.overlaps[donatus/donatuslaw3.pair]"], unfollowed := true, recurses := true, apart := false }
def SetFirstSaid : Prop := setFirstRow.holds Try.pinned (OpenSpec.ofChange setFirstSpec)

/-- ITS FALSE NEIGHBOUR: 'it returns false'. Refute it at one input. -/
def setFirstWrong : ChangeSpec := { name := "setFirst", fn := fun _ => fun
  | [d] => { results := [.lit (.bool false)], args := [d] }
  | _ => none }
def SetFirstWrongFalsely : Prop := setFirstRow.holds Try.pinned (OpenSpec.ofChange setFirstWrong)

/-- 'donatuslaw3.SetTexts': WHATEVER THE INPUT: true; the input reads as it did. -/
def setTextsSpec : ChangeSpec := { name := "setTexts", fn := fun _ => fun
  | [d] => { results := [.lit (.bool true)], args := [d] }
  | _ => none }
def setTextsRow : OpenClaim := { program := "ytldgofblflmcbaa", sum := "02d2ffa23cc4698c37bcb8bde92968c98e8b7eb170581b2a3d86a5d7ca9d1e49", func := "donatus/donatuslaw3.SetTexts", spec := "setTexts", inPlace := ["slices.overlaps[int]", "slices.overlaps[string]"], unfollowed := true, recurses := true, apart := false }
def SetTextsSaid : Prop := setTextsRow.holds Try.pinned (OpenSpec.ofChange setTextsSpec)

/-- ITS FALSE NEIGHBOUR: 'it returns false'. Refute it at one input. -/
def setTextsWrong : ChangeSpec := { name := "setTexts", fn := fun _ => fun
  | [d] => { results := [.lit (.bool false)], args := [d] }
  | _ => none }
def SetTextsWrongFalsely : Prop := setTextsRow.holds Try.pinned (OpenSpec.ofChange setTextsWrong)

/-- 'donatuslaw3.SetNone': WHATEVER THE INPUT: true; the input reads as it did. -/
def setNoneSpec : ChangeSpec := { name := "setNone", fn := fun _ => fun
  | [] => { results := [.lit (.bool true)], args := [] }
  | _ => none }
def setNoneRow : OpenClaim := { program := "ytldgofblflmcbaa", sum := "02d2ffa23cc4698c37bcb8bde92968c98e8b7eb170581b2a3d86a5d7ca9d1e49", func := "donatus/donatuslaw3.SetNone", spec := "setNone", inPlace := ["slices.overlaps[int]"], unfollowed := true, recurses := true, apart := false }
def SetNoneSaid : Prop := setNoneRow.holds Try.pinned (OpenSpec.ofChange setNoneSpec)

/-- ITS FALSE NEIGHBOUR: 'it returns false'. Refute it at one input. -/
def setNoneWrong : ChangeSpec := { name := "setNone", fn := fun _ => fun
  | [] => { results := [.lit (.bool false)], args := [] }
  | _ => none }
def SetNoneWrongFalsely : Prop := setNoneRow.holds Try.pinned (OpenSpec.ofChange setNoneWrong)

/-- 'donatuslaw3.SetUnion': WHATEVER THE INPUT: true; the input reads as it did. -/
def setUnionSpec : ChangeSpec := { name := "setUnion", fn := fun _ => fun
  | [d1, d2] => { results := [.lit (.bool true)], args := [d1, d2] }
  | _ => none }
def setUnionRow : OpenClaim := { program := "ytldgofblflmcbaa", sum := "02d2ffa23cc4698c37bcb8bde92968c98e8b7eb170581b2a3d86a5d7ca9d1e49", func := "donatus/donatuslaw3.SetUnion", spec := "setUnion", inPlace := ["slices.overlaps[int]"], unfollowed := true, recurses := true, apart := false }
def SetUnionSaid : Prop := setUnionRow.holds Try.pinned (OpenSpec.ofChange setUnionSpec)

/-- ITS FALSE NEIGHBOUR: 'it returns false'. Refute it at one input. -/
def setUnionWrong : ChangeSpec := { name := "setUnion", fn := fun _ => fun
  | [d1, d2] => { results := [.lit (.bool false)], args := [d1, d2] }
  | _ => none }
def SetUnionWrongFalsely : Prop := setUnionRow.holds Try.pinned (OpenSpec.ofChange setUnionWrong)

/- THE SECOND FORM. 'bulk': how many values and letters a reading holds, each counted each time it is reached (what is shared counts as often as it is met; a slice's spare places count too). A statement '..UptoSaid' is the law's where the arguments, and the package variables that the reading takes, are together of bulk at most 1048576: NARROWER than '..Said'. Prove '..Said' where nothing that the law and all that it calls make is longer than what came in: it says more and counts as full. Else prove '..UptoSaid'. A law counts once. -/
mutual
def uptoBulk {H : Type} : DataW H → Nat
  | .lit (.string bytes) => bytes.length + 1
  | .lit _ => 1
  | .nil => 1
  | .ptr d => uptoBulk d + 1
  | .slice elems spare => uptoBulkAll elems + uptoBulkAll spare + 1
  | .agg parts => uptoBulkAll parts + 1
  | .iface _ d => uptoBulk d + 1
  | .map entries => uptoBulkEntries entries + 1
  | .held _ => 1
def uptoBulkAll {H : Type} : List (DataW H) → Nat
  | [] => 0
  | d :: r => uptoBulk d + uptoBulkAll r
def uptoBulkEntries {H : Type} : List (Lit × DataW H) → Nat
  | [] => 0
  | x :: r => uptoBulkEntry x + uptoBulkEntries r
def uptoBulkEntry {H : Type} : Lit × DataW H → Nat
  | (.string bytes, d) => bytes.length + uptoBulk d + 1
  | (_, d) => uptoBulk d + 1
 end
def uptoSmall : (H : Type) → List (DataW H) → Bool := fun _ ds => decide (uptoBulkAll ds ≤ 1048576)
def OpenSpec.upto (s : _root_.Go.ChangeSpec) : _root_.Go.OpenSpec := { _root_.Go.OpenSpec.ofChange s with cond := some uptoSmall }

/-- 'donatuslaw3.SetAll', WHERE WHAT IT READS IS OF BULK AT MOST 1048576: true; the input reads as it did. -/
def setAllUptoRow : OpenClaim := { program := "ytldgofblflmcbaa", sum := "02d2ffa23cc4698c37bcb8bde92968c98e8b7eb170581b2a3d86a5d7ca9d1e49", func := "donatus/donatuslaw3.SetAll", spec := "setAll", inPlace := ["slices.overlaps[int]"], unfollowed := true, recurses := true, apart := false, narrowed := true }
def SetAllUptoSaid : Prop := setAllUptoRow.holds Try.pinned (OpenSpec.upto setAllSpec)

/-- 'donatuslaw3.SetFirst', WHERE WHAT IT READS IS OF BULK AT MOST 1048576: true; the input reads as it did. -/
def setFirstUptoRow : OpenClaim := { program := "ytldgofblflmcbaa", sum := "02d2ffa23cc4698c37bcb8bde92968c98e8b7eb170581b2a3d86a5d7ca9d1e49", func := "donatus/donatuslaw3.SetFirst", spec := "setFirst", inPlace := ["slices.overlaps[int]", "slices.overlaps[donatus/donatuslaw3.pair]"], unfollowed := true, recurses := true, apart := false, narrowed := true }
def SetFirstUptoSaid : Prop := setFirstUptoRow.holds Try.pinned (OpenSpec.upto setFirstSpec)

/-- 'donatuslaw3.SetTexts', WHERE WHAT IT READS IS OF BULK AT MOST 1048576: true; the input reads as it did. -/
def setTextsUptoRow : OpenClaim := { program := "ytldgofblflmcbaa", sum := "02d2ffa23cc4698c37bcb8bde92968c98e8b7eb170581b2a3d86a5d7ca9d1e49", func := "donatus/donatuslaw3.SetTexts", spec := "setTexts", inPlace := ["slices.overlaps[int]", "slices.overlaps[string]"], unfollowed := true, recurses := true, apart := false, narrowed := true }
def SetTextsUptoSaid : Prop := setTextsUptoRow.holds Try.pinned (OpenSpec.upto setTextsSpec)

/-- 'donatuslaw3.SetNone', WHERE WHAT IT READS IS OF BULK AT MOST 1048576: true; the input reads as it did. -/
def setNoneUptoRow : OpenClaim := { program := "ytldgofblflmcbaa", sum := "02d2ffa23cc4698c37bcb8bde92968c98e8b7eb170581b2a3d86a5d7ca9d1e49", func := "donatus/donatuslaw3.SetNone", spec := "setNone", inPlace := ["slices.overlaps[int]"], unfollowed := true, recurses := true, apart := false, narrowed := true }
def SetNoneUptoSaid : Prop := setNoneUptoRow.holds Try.pinned (OpenSpec.upto setNoneSpec)

/-- 'donatuslaw3.SetUnion', WHERE WHAT IT READS IS OF BULK AT MOST 1048576: true; the input reads as it did. -/
def setUnionUptoRow : OpenClaim := { program := "ytldgofblflmcbaa", sum := "02d2ffa23cc4698c37bcb8bde92968c98e8b7eb170581b2a3d86a5d7ca9d1e49", func := "donatus/donatuslaw3.SetUnion", spec := "setUnion", inPlace := ["slices.overlaps[int]"], unfollowed := true, recurses := true, apart := false, narrowed := true }
def SetUnionUptoSaid : Prop := setUnionUptoRow.holds Try.pinned (OpenSpec.upto setUnionSpec)

end Rows
end Go.Proofs.Ytldgofblflmcbaa
