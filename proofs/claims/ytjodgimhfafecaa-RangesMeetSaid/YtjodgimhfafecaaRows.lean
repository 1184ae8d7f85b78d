/-
  No cell of these rows narrows 'for every input' (looked for: loops, veiled, ifaces, maps, wideKeys, modest, calm, conditions, laid).
  DERIVED. THE GIVEN ROWS OF THIS SEAT. 5 by the template 'for every input the law returns true; each argument reads behind the call as it read before'; 0 by the template 'total and deterministic' (their statements: YtjodgimhfafecaaTotals.lean).
  GIVEN WITH THE SEED: the statements are not yours to turn. If you find one false, say at which input.
  Laid BY PROGRAM, IN A SANDBOX (cutbox-rows.mjs): the forced cells as the released guide's own fill.sh prints them over the translation b69a0ac322327a42… (all of the seat's roots in one cut). By AI agents, Wed Nov 11 2026. No macro, syntax, notation, axiom, sorry.
-/
import Derived.Test.YtjodgimhfafecaaChecked
import GoSem.Claim
import GoSem.ClaimJoined
import GoSem.ClaimMapViews
import Derived.JoinedTies
import Derived.KernelRfl
namespace Go.Proofs.Ytjodgimhfafecaa
/- THE CELL 'sum', in the pinned program and in every row, IS THE sha256 OF THE DUMP (.gsa) THAT YtjodgimhfafecaaProg.lean LOADS. Nothing in Lean hashes anything: it is a label: what it is worth is what the hold of that sum in a sandbox is worth. -/
noncomputable def Try.pinned : Pinned := { name := "ytjodgimhfafecaa", sum := "b69a0ac322327a42232f02ac160ed75c24eb06059ae0ff3ff3849dd9d76cc5a9", checked := Try.checked }
namespace Rows
def none {H : Type} : Left H := { results := [], args := [] }

/-- 'brindlewoodlaw3.RangesMeet': WHATEVER THE INPUT: true; the input reads as it did. -/
def rangesMeetSpec : ChangeSpec := { name := "rangesMeet", fn := fun _ => fun
  | [d1, d2] => { results := [.lit (.bool true)], args := [d1, d2] }
  | _ => none }
def rangesMeetRow : OpenClaim := { program := "ytjodgimhfafecaa", sum := "b69a0ac322327a42232f02ac160ed75c24eb06059ae0ff3ff3849dd9d76cc5a9", func := "brindlewood/brindlewoodlaw3.RangesMeet", spec := "rangesMeet", recurses := true, named := ["math/bits.overflowError"], apart := false }
def RangesMeetSaid : Prop := rangesMeetRow.holds Try.pinned (OpenSpec.ofChange rangesMeetSpec)

/-- ITS FALSE NEIGHBOUR: 'it returns false'. Refute it at one input. -/
def rangesMeetWrong : ChangeSpec := { name := "rangesMeet", fn := fun _ => fun
  | [d1, d2] => { results := [.lit (.bool false)], args := [d1, d2] }
  | _ => none }
def RangesMeetWrongFalsely : Prop := rangesMeetRow.holds Try.pinned (OpenSpec.ofChange rangesMeetWrong)

/-- 'brindlewoodlaw3.RangesBoth': WHATEVER THE INPUT: true; the input reads as it did. -/
def rangesBothSpec : ChangeSpec := { name := "rangesBoth", fn := fun _ => fun
  | [d1, d2, d3] => { results := [.lit (.bool true)], args := [d1, d2, d3] }
  | _ => none }
def rangesBothRow : OpenClaim := { program := "ytjodgimhfafecaa", sum := "b69a0ac322327a42232f02ac160ed75c24eb06059ae0ff3ff3849dd9d76cc5a9", func := "brindlewood/brindlewoodlaw3.RangesBoth", spec := "rangesBoth", named := ["math/bits.overflowError"], apart := false }
def RangesBothSaid : Prop := rangesBothRow.holds Try.pinned (OpenSpec.ofChange rangesBothSpec)

/-- ITS FALSE NEIGHBOUR: 'it returns false'. Refute it at one input. -/
def rangesBothWrong : ChangeSpec := { name := "rangesBoth", fn := fun _ => fun
  | [d1, d2, d3] => { results := [.lit (.bool false)], args := [d1, d2, d3] }
  | _ => none }
def RangesBothWrongFalsely : Prop := rangesBothRow.holds Try.pinned (OpenSpec.ofChange rangesBothWrong)

/-- 'brindlewoodlaw3.RangesForms': WHATEVER THE INPUT: true; the input reads as it did. -/
def rangesFormsSpec : ChangeSpec := { name := "rangesForms", fn := fun _ => fun
  | [d1, d2] => { results := [.lit (.bool true)], args := [d1, d2] }
  | _ => none }
def rangesFormsRow : OpenClaim := { program := "ytjodgimhfafecaa", sum := "b69a0ac322327a42232f02ac160ed75c24eb06059ae0ff3ff3849dd9d76cc5a9", func := "brindlewood/brindlewoodlaw3.RangesForms", spec := "rangesForms", named := ["math/bits.overflowError"], apart := false }
def RangesFormsSaid : Prop := rangesFormsRow.holds Try.pinned (OpenSpec.ofChange rangesFormsSpec)

/-- ITS FALSE NEIGHBOUR: 'it returns false'. Refute it at one input. -/
def rangesFormsWrong : ChangeSpec := { name := "rangesForms", fn := fun _ => fun
  | [d1, d2] => { results := [.lit (.bool false)], args := [d1, d2] }
  | _ => none }
def RangesFormsWrongFalsely : Prop := rangesFormsRow.holds Try.pinned (OpenSpec.ofChange rangesFormsWrong)

/-- 'brindlewoodlaw3.RangesBack': WHATEVER THE INPUT: true; the input reads as it did. -/
def rangesBackSpec : ChangeSpec := { name := "rangesBack", fn := fun _ => fun
  | [d1, d2] => { results := [.lit (.bool true)], args := [d1, d2] }
  | _ => none }
def rangesBackRow : OpenClaim := { program := "ytjodgimhfafecaa", sum := "b69a0ac322327a42232f02ac160ed75c24eb06059ae0ff3ff3849dd9d76cc5a9", func := "brindlewood/brindlewoodlaw3.RangesBack", spec := "rangesBack", named := ["math/bits.overflowError"], apart := false }
def RangesBackSaid : Prop := rangesBackRow.holds Try.pinned (OpenSpec.ofChange rangesBackSpec)

/-- ITS FALSE NEIGHBOUR: 'it returns false'. Refute it at one input. -/
def rangesBackWrong : ChangeSpec := { name := "rangesBack", fn := fun _ => fun
  | [d1, d2] => { results := [.lit (.bool false)], args := [d1, d2] }
  | _ => none }
def RangesBackWrongFalsely : Prop := rangesBackRow.holds Try.pinned (OpenSpec.ofChange rangesBackWrong)

/-- 'brindlewoodlaw3.RangesElements': WHATEVER THE INPUT: true; the input reads as it did. -/
def rangesElementsSpec : ChangeSpec := { name := "rangesElements", fn := fun _ => fun
  | [d1, d2, d3, d4] => { results := [.lit (.bool true)], args := [d1, d2, d3, d4] }
  | _ => none }
def rangesElementsRow : OpenClaim := { program := "ytjodgimhfafecaa", sum := "b69a0ac322327a42232f02ac160ed75c24eb06059ae0ff3ff3849dd9d76cc5a9", func := "brindlewood/brindlewoodlaw3.RangesElements", spec := "rangesElements", named := ["math/bits.overflowError"], apart := false }
def RangesElementsSaid : Prop := rangesElementsRow.holds Try.pinned (OpenSpec.ofChange rangesElementsSpec)

/-- ITS FALSE NEIGHBOUR: 'it returns false'. Refute it at one input. -/
def rangesElementsWrong : ChangeSpec := { name := "rangesElements", fn := fun _ => fun
  | [d1, d2, d3, d4] => { results := [.lit (.bool false)], args := [d1, d2, d3, d4] }
  | _ => none }
def RangesElementsWrongFalsely : Prop := rangesElementsRow.holds Try.pinned (OpenSpec.ofChange rangesElementsWrong)

/- THE SECOND FORM. 'bulk': how many values and letters a reading holds, each counted each time it is reached (what is shared counts as often as it is met; a slice's spare places count too). A statement '..UptoSaid' is the law's where the arguments, and the package variables that the reading takes, are together of bulk at most 1048576: NARROWER than '..Said'. Prove '..Said' where nothing that the law and all that it calls make is longer than what came in: it says more and counts as full. Else prove '..UptoSaid'. A law counts once. -/
mutual
def uptoBulk {H : Type} : DataW H → Nat
  | .lit (.string bytes) => bytes.length + 1
  | .lit _ => 1
  | .nil => 1
  | .ptr d => uptoBulk d + 1
  | .slice elems spare => uptoBulkAll elems + uptoBulkAll spare + 1
  | .agg parts => uptoBulkAll parts + 1
  | .iface _ d => uptoBulk d + 1
  | .map entries => uptoBulkEntries entries + 1
  | .held _ => 1
def uptoBulkAll {H : Type} : List (DataW H) → Nat
  | [] => 0
  | d :: r => uptoBulk d + uptoBulkAll r
def uptoBulkEntries {H : Type} : List (Lit × DataW H) → Nat
  | [] => 0
  | x :: r => uptoBulkEntry x + uptoBulkEntries r
def uptoBulkEntry {H : Type} : Lit × DataW H → Nat
  | (.string bytes, d) => bytes.length + uptoBulk d + 1
  | (_, d) => uptoBulk d + 1
 end
def uptoSmall : (H : Type) → List (DataW H) → Bool := fun _ ds => decide (uptoBulkAll ds ≤ 1048576)
def OpenSpec.upto (s : _root_.Go.ChangeSpec) : _root_.Go.OpenSpec := { _root_.Go.OpenSpec.ofChange s with cond := some uptoSmall }

/-- 'brindlewoodlaw3.RangesMeet', WHERE WHAT IT READS IS OF BULK AT MOST 1048576: true; the input reads as it did. -/
def rangesMeetUptoRow : OpenClaim := { program := "ytjodgimhfafecaa", sum := "b69a0ac322327a42232f02ac160ed75c24eb06059ae0ff3ff3849dd9d76cc5a9", func := "brindlewood/brindlewoodlaw3.RangesMeet", spec := "rangesMeet", recurses := true, named := ["math/bits.overflowError"], apart := false, narrowed := true }
def RangesMeetUptoSaid : Prop := rangesMeetUptoRow.holds Try.pinned (OpenSpec.upto rangesMeetSpec)

/-- 'brindlewoodlaw3.RangesBoth', WHERE WHAT IT READS IS OF BULK AT MOST 1048576: true; the input reads as it did. -/
def rangesBothUptoRow : OpenClaim := { program := "ytjodgimhfafecaa", sum := "b69a0ac322327a42232f02ac160ed75c24eb06059ae0ff3ff3849dd9d76cc5a9", func := "brindlewood/brindlewoodlaw3.RangesBoth", spec := "rangesBoth", named := ["math/bits.overflowError"], apart := false, narrowed := true }
def RangesBothUptoSaid : Prop := rangesBothUptoRow.holds Try.pinned (OpenSpec.upto rangesBothSpec)

/-- 'brindlewoodlaw3.RangesForms', WHERE WHAT IT READS IS OF BULK AT MOST 1048576: true; the input reads as it did. -/
def rangesFormsUptoRow : OpenClaim := { program := "ytjodgimhfafecaa", sum := "b69a0ac322327a42232f02ac160ed75c24eb06059ae0ff3ff3849dd9d76cc5a9", func := "brindlewood/brindlewoodlaw3.RangesForms", spec := "rangesForms", named := ["math/bits.overflowError"], apart := false, narrowed := true }
def RangesFormsUptoSaid : Prop := rangesFormsUptoRow.holds Try.pinned (OpenSpec.upto rangesFormsSpec)

/-- 'brindlewoodlaw3.RangesBack', WHERE WHAT IT READS IS OF BULK AT MOST 1048576: true; the input reads as it did. -/
def rangesBackUptoRow : OpenClaim := { program := "ytjodgimhfafecaa", sum := "b69a0ac322327a42232f02ac160ed75c24eb06059ae0ff3ff3849dd9d76cc5a9", func := "brindlewood/brindlewoodlaw3.RangesBack", spec := "rangesBack", named := ["math/bits.overflowError"], apart := false, narrowed := true }
def RangesBackUptoSaid : Prop := rangesBackUptoRow.holds Try.pinned (OpenSpec.upto rangesBackSpec)

/-- 'brindlewoodlaw3.RangesElements', WHERE WHAT IT READS IS OF BULK AT MOST 1048576: true; the input reads as it did. -/
def rangesElementsUptoRow : OpenClaim := { program := "ytjodgimhfafecaa", sum := "b69a0ac322327a42232f02ac160ed75c24eb06059ae0ff3ff3849dd9d76cc5a9", func := "brindlewood/brindlewoodlaw3.RangesElements", spec := "rangesElements", named := ["math/bits.overflowError"], apart := false, narrowed := true }
def RangesElementsUptoSaid : Prop := rangesElementsUptoRow.holds Try.pinned (OpenSpec.upto rangesElementsSpec)

end Rows
end Go.Proofs.Ytjodgimhfafecaa
