/-
  No cell of these rows narrows 'for every input' (looked for: loops, veiled, ifaces, maps, wideKeys, modest, calm, conditions, laid).
  DERIVED. THE GIVEN ROWS OF THIS SEAT. 5 by the template 'for every input the law returns true; each argument reads behind the call as it read before'; 0 by the template 'total and deterministic' (their statements: YtoinfmcliglddaaTotals.lean).
  GIVEN WITH THE SEED: the statements are not yours to turn. If you find one false, say at which input.
  Laid BY PROGRAM, IN A SANDBOX (cutbox-rows.mjs): the forced cells as the released guide's own fill.sh prints them over the translation d61c99ac012bb102… (all of the seat's roots in one cut). By AI agents, Wed Nov 11 2026. No macro, syntax, notation, axiom, sorry.
-/
import Derived.Test.YtoinfmcliglddaaChecked
import GoSem.Claim
import GoSem.ClaimJoined
import GoSem.ClaimMapViews
import Derived.JoinedTies
import Derived.KernelRfl
namespace Go.Proofs.Ytoinfmcliglddaa
/- THE CELL 'sum', in the pinned program and in every row, IS THE sha256 OF THE DUMP (.gsa) THAT YtoinfmcliglddaaProg.lean LOADS. Nothing in Lean hashes anything: it is a label: what it is worth is what the hold of that sum in a sandbox is worth. -/
noncomputable def Try.pinned : Pinned := { name := "ytoinfmcliglddaa", sum := "d61c99ac012bb10298c130455f79c072fbf573f6478ae954ad75118746c6055e", checked := Try.checked }
namespace Rows
def none {H : Type} : Left H := { results := [], args := [] }

/-- 'brindlewoodlaw3.NaturalDivides': WHATEVER THE INPUT: true; the input reads as it did. -/
def naturalDividesSpec : ChangeSpec := { name := "naturalDivides", fn := fun _ => fun
  | [d1, d2] => { results := [.lit (.bool true)], args := [d1, d2] }
  | _ => none }
def naturalDividesRow : OpenClaim := { program := "ytoinfmcliglddaa", sum := "d61c99ac012bb10298c130455f79c072fbf573f6478ae954ad75118746c6055e", func := "brindlewood/brindlewoodlaw3.NaturalDivides", spec := "naturalDivides", named := ["math/bits.overflowError"], apart := false }
def NaturalDividesSaid : Prop := naturalDividesRow.holds Try.pinned (OpenSpec.ofChange naturalDividesSpec)

/-- ITS FALSE NEIGHBOUR: 'it returns false'. Refute it at one input. -/
def naturalDividesWrong : ChangeSpec := { name := "naturalDivides", fn := fun _ => fun
  | [d1, d2] => { results := [.lit (.bool false)], args := [d1, d2] }
  | _ => none }
def NaturalDividesWrongFalsely : Prop := naturalDividesRow.holds Try.pinned (OpenSpec.ofChange naturalDividesWrong)

/-- 'brindlewoodlaw3.NaturalMoves': WHATEVER THE INPUT: true; the input reads as it did. -/
def naturalMovesSpec : ChangeSpec := { name := "naturalMoves", fn := fun _ => fun
  | [d1, d2] => { results := [.lit (.bool true)], args := [d1, d2] }
  | _ => none }
def naturalMovesRow : OpenClaim := { program := "ytoinfmcliglddaa", sum := "d61c99ac012bb10298c130455f79c072fbf573f6478ae954ad75118746c6055e", func := "brindlewood/brindlewoodlaw3.NaturalMoves", spec := "naturalMoves", named := ["math/bits.overflowError"], apart := false }
def NaturalMovesSaid : Prop := naturalMovesRow.holds Try.pinned (OpenSpec.ofChange naturalMovesSpec)

/-- ITS FALSE NEIGHBOUR: 'it returns false'. Refute it at one input. -/
def naturalMovesWrong : ChangeSpec := { name := "naturalMoves", fn := fun _ => fun
  | [d1, d2] => { results := [.lit (.bool false)], args := [d1, d2] }
  | _ => none }
def NaturalMovesWrongFalsely : Prop := naturalMovesRow.holds Try.pinned (OpenSpec.ofChange naturalMovesWrong)

/-- 'brindlewoodlaw3.NaturalArithmetic': WHATEVER THE INPUT: true; the input reads as it did. -/
def naturalArithmeticSpec : ChangeSpec := { name := "naturalArithmetic", fn := fun _ => fun
  | [d1, d2] => { results := [.lit (.bool true)], args := [d1, d2] }
  | _ => none }
def naturalArithmeticRow : OpenClaim := { program := "ytoinfmcliglddaa", sum := "d61c99ac012bb10298c130455f79c072fbf573f6478ae954ad75118746c6055e", func := "brindlewood/brindlewoodlaw3.NaturalArithmetic", spec := "naturalArithmetic", named := ["math/bits.overflowError"], apart := false }
def NaturalArithmeticSaid : Prop := naturalArithmeticRow.holds Try.pinned (OpenSpec.ofChange naturalArithmeticSpec)

/-- ITS FALSE NEIGHBOUR: 'it returns false'. Refute it at one input. -/
def naturalArithmeticWrong : ChangeSpec := { name := "naturalArithmetic", fn := fun _ => fun
  | [d1, d2] => { results := [.lit (.bool false)], args := [d1, d2] }
  | _ => none }
def NaturalArithmeticWrongFalsely : Prop := naturalArithmeticRow.holds Try.pinned (OpenSpec.ofChange naturalArithmeticWrong)

/-- 'brindlewoodlaw3.NaturalDigits': WHATEVER THE INPUT: true; the input reads as it did. -/
def naturalDigitsSpec : ChangeSpec := { name := "naturalDigits", fn := fun _ => fun
  | [d1, d2, d3] => { results := [.lit (.bool true)], args := [d1, d2, d3] }
  | _ => none }
def naturalDigitsRow : OpenClaim := { program := "ytoinfmcliglddaa", sum := "d61c99ac012bb10298c130455f79c072fbf573f6478ae954ad75118746c6055e", func := "brindlewood/brindlewoodlaw3.NaturalDigits", spec := "naturalDigits", named := ["math/bits.overflowError"], apart := false }
def NaturalDigitsSaid : Prop := naturalDigitsRow.holds Try.pinned (OpenSpec.ofChange naturalDigitsSpec)

/-- ITS FALSE NEIGHBOUR: 'it returns false'. Refute it at one input. -/
def naturalDigitsWrong : ChangeSpec := { name := "naturalDigits", fn := fun _ => fun
  | [d1, d2, d3] => { results := [.lit (.bool false)], args := [d1, d2, d3] }
  | _ => none }
def NaturalDigitsWrongFalsely : Prop := naturalDigitsRow.holds Try.pinned (OpenSpec.ofChange naturalDigitsWrong)

/-- 'brindlewoodlaw3.NaturalDigitsMove': WHATEVER THE INPUT: true; the input reads as it did. -/
def naturalDigitsMoveSpec : ChangeSpec := { name := "naturalDigitsMove", fn := fun _ => fun
  | [d1, d2, d3] => { results := [.lit (.bool true)], args := [d1, d2, d3] }
  | _ => none }
def naturalDigitsMoveRow : OpenClaim := { program := "ytoinfmcliglddaa", sum := "d61c99ac012bb10298c130455f79c072fbf573f6478ae954ad75118746c6055e", func := "brindlewood/brindlewoodlaw3.NaturalDigitsMove", spec := "naturalDigitsMove", named := ["math/bits.overflowError"], apart := false }
def NaturalDigitsMoveSaid : Prop := naturalDigitsMoveRow.holds Try.pinned (OpenSpec.ofChange naturalDigitsMoveSpec)

/-- ITS FALSE NEIGHBOUR: 'it returns false'. Refute it at one input. -/
def naturalDigitsMoveWrong : ChangeSpec := { name := "naturalDigitsMove", fn := fun _ => fun
  | [d1, d2, d3] => { results := [.lit (.bool false)], args := [d1, d2, d3] }
  | _ => none }
def NaturalDigitsMoveWrongFalsely : Prop := naturalDigitsMoveRow.holds Try.pinned (OpenSpec.ofChange naturalDigitsMoveWrong)

/- THE SECOND FORM. 'bulk': how many values and letters a reading holds, each counted each time it is reached (what is shared counts as often as it is met; a slice's spare places count too). A statement '..UptoSaid' is the law's where the arguments, and the package variables that the reading takes, are together of bulk at most 1048576: NARROWER than '..Said'. Prove '..Said' where nothing that the law and all that it calls make is longer than what came in: it says more and counts as full. Else prove '..UptoSaid'. A law counts once. -/
mutual
def uptoBulk {H : Type} : DataW H → Nat
  | .lit (.string bytes) => bytes.length + 1
  | .lit _ => 1
  | .nil => 1
  | .ptr d => uptoBulk d + 1
  | .slice elems spare => uptoBulkAll elems + uptoBulkAll spare + 1
  | .agg parts => uptoBulkAll parts + 1
  | .iface _ d => uptoBulk d + 1
  | .map entries => uptoBulkEntries entries + 1
  | .held _ => 1
def uptoBulkAll {H : Type} : List (DataW H) → Nat
  | [] => 0
  | d :: r => uptoBulk d + uptoBulkAll r
def uptoBulkEntries {H : Type} : List (Lit × DataW H) → Nat
  | [] => 0
  | x :: r => uptoBulkEntry x + uptoBulkEntries r
def uptoBulkEntry {H : Type} : Lit × DataW H → Nat
  | (.string bytes, d) => bytes.length + uptoBulk d + 1
  | (_, d) => uptoBulk d + 1
 end
def uptoSmall : (H : Type) → List (DataW H) → Bool := fun _ ds => decide (uptoBulkAll ds ≤ 1048576)
def OpenSpec.upto (s : _root_.Go.ChangeSpec) : _root_.Go.OpenSpec := { _root_.Go.OpenSpec.ofChange s with cond := some uptoSmall }

/-- 'brindlewoodlaw3.NaturalDivides', WHERE WHAT IT READS IS OF BULK AT MOST 1048576: true; the input reads as it did. -/
def naturalDividesUptoRow : OpenClaim := { program := "ytoinfmcliglddaa", sum := "d61c99ac012bb10298c130455f79c072fbf573f6478ae954ad75118746c6055e", func := "brindlewood/brindlewoodlaw3.NaturalDivides", spec := "naturalDivides", named := ["math/bits.overflowError"], apart := false, narrowed := true }
def NaturalDividesUptoSaid : Prop := naturalDividesUptoRow.holds Try.pinned (OpenSpec.upto naturalDividesSpec)

/-- 'brindlewoodlaw3.NaturalMoves', WHERE WHAT IT READS IS OF BULK AT MOST 1048576: true; the input reads as it did. -/
def naturalMovesUptoRow : OpenClaim := { program := "ytoinfmcliglddaa", sum := "d61c99ac012bb10298c130455f79c072fbf573f6478ae954ad75118746c6055e", func := "brindlewood/brindlewoodlaw3.NaturalMoves", spec := "naturalMoves", named := ["math/bits.overflowError"], apart := false, narrowed := true }
def NaturalMovesUptoSaid : Prop := naturalMovesUptoRow.holds Try.pinned (OpenSpec.upto naturalMovesSpec)

/-- 'brindlewoodlaw3.NaturalArithmetic', WHERE WHAT IT READS IS OF BULK AT MOST 1048576: true; the input reads as it did. -/
def naturalArithmeticUptoRow : OpenClaim := { program := "ytoinfmcliglddaa", sum := "d61c99ac012bb10298c130455f79c072fbf573f6478ae954ad75118746c6055e", func := "brindlewood/brindlewoodlaw3.NaturalArithmetic", spec := "naturalArithmetic", named := ["math/bits.overflowError"], apart := false, narrowed := true }
def NaturalArithmeticUptoSaid : Prop := naturalArithmeticUptoRow.holds Try.pinned (OpenSpec.upto naturalArithmeticSpec)

/-- 'brindlewoodlaw3.NaturalDigits', WHERE WHAT IT READS IS OF BULK AT MOST 1048576: true; the input reads as it did. -/
def naturalDigitsUptoRow : OpenClaim := { program := "ytoinfmcliglddaa", sum := "d61c99ac012bb10298c130455f79c072fbf573f6478ae954ad75118746c6055e", func := "brindlewood/brindlewoodlaw3.NaturalDigits", spec := "naturalDigits", named := ["math/bits.overflowError"], apart := false, narrowed := true }
def NaturalDigitsUptoSaid : Prop := naturalDigitsUptoRow.holds Try.pinned (OpenSpec.upto naturalDigitsSpec)

/-- 'brindlewoodlaw3.NaturalDigitsMove', WHERE WHAT IT READS IS OF BULK AT MOST 1048576: true; the input reads as it did. -/
def naturalDigitsMoveUptoRow : OpenClaim := { program := "ytoinfmcliglddaa", sum := "d61c99ac012bb10298c130455f79c072fbf573f6478ae954ad75118746c6055e", func := "brindlewood/brindlewoodlaw3.NaturalDigitsMove", spec := "naturalDigitsMove", named := ["math/bits.overflowError"], apart := false, narrowed := true }
def NaturalDigitsMoveUptoSaid : Prop := naturalDigitsMoveUptoRow.holds Try.pinned (OpenSpec.upto naturalDigitsMoveSpec)

end Rows
end Go.Proofs.Ytoinfmcliglddaa
