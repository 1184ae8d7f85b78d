/-
  No cell of these rows narrows 'for every input' (looked for: loops, veiled, ifaces, maps, wideKeys, modest, calm, conditions, laid).
  DERIVED. THE GIVEN ROWS OF THIS SEAT. 4 by the template 'for every input the law returns true; each argument reads behind the call as it read before'; 0 by the template 'total and deterministic' (their statements: YtjimnjkgpdoacaaTotals.lean).
  GIVEN WITH THE SEED: the statements are not yours to turn. If you find one false, say at which input.
  Laid BY PROGRAM, IN A SANDBOX (cutbox-rows.mjs): the forced cells as the released guide's own fill.sh prints them over the translation c378828dc96aa6c6… (all of the seat's roots in one cut). By AI agents, Wed Nov 11 2026. No macro, syntax, notation, axiom, sorry.
-/
import Derived.Test.YtjimnjkgpdoacaaChecked
import GoSem.Claim
import GoSem.ClaimJoined
import GoSem.ClaimMapViews
import Derived.JoinedTies
import Derived.KernelRfl
namespace Go.Proofs.Ytjimnjkgpdoacaa
/- THE CELL 'sum', in the pinned program and in every row, IS THE sha256 OF THE DUMP (.gsa) THAT YtjimnjkgpdoacaaProg.lean LOADS. Nothing in Lean hashes anything: it is a label: what it is worth is what the hold of that sum in a sandbox is worth. -/
noncomputable def Try.pinned : Pinned := { name := "ytjimnjkgpdoacaa", sum := "c378828dc96aa6c654ddbcf332fd130da82a977fc4533ed0bbfbba8cc3959ac2", checked := Try.checked }
namespace Rows
def none {H : Type} : Left H := { results := [], args := [] }

/-- 'brindlewoodlaw3.SlicingResolves': WHATEVER THE INPUT: true; the input reads as it did. -/
def slicingResolvesSpec : ChangeSpec := { name := "slicingResolves", fn := fun _ => fun
  | [d1, d2, d3] => { results := [.lit (.bool true)], args := [d1, d2, d3] }
  | _ => none }
def slicingResolvesRow : OpenClaim := { program := "ytjimnjkgpdoacaa", sum := "c378828dc96aa6c654ddbcf332fd130da82a977fc4533ed0bbfbba8cc3959ac2", func := "brindlewood/brindlewoodlaw3.SlicingResolves", spec := "slicingResolves", apart := false }
def SlicingResolvesSaid : Prop := slicingResolvesRow.holds Try.pinned (OpenSpec.ofChange slicingResolvesSpec)

/-- ITS FALSE NEIGHBOUR: 'it returns false'. Refute it at one input. -/
def slicingResolvesWrong : ChangeSpec := { name := "slicingResolves", fn := fun _ => fun
  | [d1, d2, d3] => { results := [.lit (.bool false)], args := [d1, d2, d3] }
  | _ => none }
def SlicingResolvesWrongFalsely : Prop := slicingResolvesRow.holds Try.pinned (OpenSpec.ofChange slicingResolvesWrong)

/-- 'brindlewoodlaw3.SlicingReversed': WHATEVER THE INPUT: true; the input reads as it did. -/
def slicingReversedSpec : ChangeSpec := { name := "slicingReversed", fn := fun _ => fun
  | [d1, d2, d3] => { results := [.lit (.bool true)], args := [d1, d2, d3] }
  | _ => none }
def slicingReversedRow : OpenClaim := { program := "ytjimnjkgpdoacaa", sum := "c378828dc96aa6c654ddbcf332fd130da82a977fc4533ed0bbfbba8cc3959ac2", func := "brindlewood/brindlewoodlaw3.SlicingReversed", spec := "slicingReversed", apart := false }
def SlicingReversedSaid : Prop := slicingReversedRow.holds Try.pinned (OpenSpec.ofChange slicingReversedSpec)

/-- ITS FALSE NEIGHBOUR: 'it returns false'. Refute it at one input. -/
def slicingReversedWrong : ChangeSpec := { name := "slicingReversed", fn := fun _ => fun
  | [d1, d2, d3] => { results := [.lit (.bool false)], args := [d1, d2, d3] }
  | _ => none }
def SlicingReversedWrongFalsely : Prop := slicingReversedRow.holds Try.pinned (OpenSpec.ofChange slicingReversedWrong)

/-- 'brindlewoodlaw3.IntegerBits': WHATEVER THE INPUT: true; the input reads as it did. -/
def integerBitsSpec : ChangeSpec := { name := "integerBits", fn := fun _ => fun
  | [d1, d2, d3] => { results := [.lit (.bool true)], args := [d1, d2, d3] }
  | _ => none }
def integerBitsRow : OpenClaim := { program := "ytjimnjkgpdoacaa", sum := "c378828dc96aa6c654ddbcf332fd130da82a977fc4533ed0bbfbba8cc3959ac2", func := "brindlewood/brindlewoodlaw3.IntegerBits", spec := "integerBits", unfollowed := true, recurses := true, named := ["math/bits.overflowError"], apart := false }
def IntegerBitsSaid : Prop := integerBitsRow.holds Try.pinned (OpenSpec.ofChange integerBitsSpec)

/-- ITS FALSE NEIGHBOUR: 'it returns false'. Refute it at one input. -/
def integerBitsWrong : ChangeSpec := { name := "integerBits", fn := fun _ => fun
  | [d1, d2, d3] => { results := [.lit (.bool false)], args := [d1, d2, d3] }
  | _ => none }
def IntegerBitsWrongFalsely : Prop := integerBitsRow.holds Try.pinned (OpenSpec.ofChange integerBitsWrong)

/-- 'brindlewoodlaw3.IntegerBitSums': WHATEVER THE INPUT: true; the input reads as it did. -/
def integerBitSumsSpec : ChangeSpec := { name := "integerBitSums", fn := fun _ => fun
  | [d1, d2] => { results := [.lit (.bool true)], args := [d1, d2] }
  | _ => none }
def integerBitSumsRow : OpenClaim := { program := "ytjimnjkgpdoacaa", sum := "c378828dc96aa6c654ddbcf332fd130da82a977fc4533ed0bbfbba8cc3959ac2", func := "brindlewood/brindlewoodlaw3.IntegerBitSums", spec := "integerBitSums", unfollowed := true, recurses := true, named := ["math/bits.overflowError"], apart := false }
def IntegerBitSumsSaid : Prop := integerBitSumsRow.holds Try.pinned (OpenSpec.ofChange integerBitSumsSpec)

/-- ITS FALSE NEIGHBOUR: 'it returns false'. Refute it at one input. -/
def integerBitSumsWrong : ChangeSpec := { name := "integerBitSums", fn := fun _ => fun
  | [d1, d2] => { results := [.lit (.bool false)], args := [d1, d2] }
  | _ => none }
def IntegerBitSumsWrongFalsely : Prop := integerBitSumsRow.holds Try.pinned (OpenSpec.ofChange integerBitSumsWrong)

/- THE SECOND FORM. 'bulk': how many values and letters a reading holds, each counted each time it is reached (what is shared counts as often as it is met; a slice's spare places count too). A statement '..UptoSaid' is the law's where the arguments, and the package variables that the reading takes, are together of bulk at most 1048576: NARROWER than '..Said'. Prove '..Said' where nothing that the law and all that it calls make is longer than what came in: it says more and counts as full. Else prove '..UptoSaid'. A law counts once. -/
mutual
def uptoBulk {H : Type} : DataW H → Nat
  | .lit (.string bytes) => bytes.length + 1
  | .lit _ => 1
  | .nil => 1
  | .ptr d => uptoBulk d + 1
  | .slice elems spare => uptoBulkAll elems + uptoBulkAll spare + 1
  | .agg parts => uptoBulkAll parts + 1
  | .iface _ d => uptoBulk d + 1
  | .map entries => uptoBulkEntries entries + 1
  | .held _ => 1
def uptoBulkAll {H : Type} : List (DataW H) → Nat
  | [] => 0
  | d :: r => uptoBulk d + uptoBulkAll r
def uptoBulkEntries {H : Type} : List (Lit × DataW H) → Nat
  | [] => 0
  | x :: r => uptoBulkEntry x + uptoBulkEntries r
def uptoBulkEntry {H : Type} : Lit × DataW H → Nat
  | (.string bytes, d) => bytes.length + uptoBulk d + 1
  | (_, d) => uptoBulk d + 1
 end
def uptoSmall : (H : Type) → List (DataW H) → Bool := fun _ ds => decide (uptoBulkAll ds ≤ 1048576)
def OpenSpec.upto (s : _root_.Go.ChangeSpec) : _root_.Go.OpenSpec := { _root_.Go.OpenSpec.ofChange s with cond := some uptoSmall }

/-- 'brindlewoodlaw3.SlicingResolves', WHERE WHAT IT READS IS OF BULK AT MOST 1048576: true; the input reads as it did. -/
def slicingResolvesUptoRow : OpenClaim := { program := "ytjimnjkgpdoacaa", sum := "c378828dc96aa6c654ddbcf332fd130da82a977fc4533ed0bbfbba8cc3959ac2", func := "brindlewood/brindlewoodlaw3.SlicingResolves", spec := "slicingResolves", apart := false, narrowed := true }
def SlicingResolvesUptoSaid : Prop := slicingResolvesUptoRow.holds Try.pinned (OpenSpec.upto slicingResolvesSpec)

/-- 'brindlewoodlaw3.SlicingReversed', WHERE WHAT IT READS IS OF BULK AT MOST 1048576: true; the input reads as it did. -/
def slicingReversedUptoRow : OpenClaim := { program := "ytjimnjkgpdoacaa", sum := "c378828dc96aa6c654ddbcf332fd130da82a977fc4533ed0bbfbba8cc3959ac2", func := "brindlewood/brindlewoodlaw3.SlicingReversed", spec := "slicingReversed", apart := false, narrowed := true }
def SlicingReversedUptoSaid : Prop := slicingReversedUptoRow.holds Try.pinned (OpenSpec.upto slicingReversedSpec)

/-- 'brindlewoodlaw3.IntegerBits', WHERE WHAT IT READS IS OF BULK AT MOST 1048576: true; the input reads as it did. -/
def integerBitsUptoRow : OpenClaim := { program := "ytjimnjkgpdoacaa", sum := "c378828dc96aa6c654ddbcf332fd130da82a977fc4533ed0bbfbba8cc3959ac2", func := "brindlewood/brindlewoodlaw3.IntegerBits", spec := "integerBits", unfollowed := true, recurses := true, named := ["math/bits.overflowError"], apart := false, narrowed := true }
def IntegerBitsUptoSaid : Prop := integerBitsUptoRow.holds Try.pinned (OpenSpec.upto integerBitsSpec)

/-- 'brindlewoodlaw3.IntegerBitSums', WHERE WHAT IT READS IS OF BULK AT MOST 1048576: true; the input reads as it did. -/
def integerBitSumsUptoRow : OpenClaim := { program := "ytjimnjkgpdoacaa", sum := "c378828dc96aa6c654ddbcf332fd130da82a977fc4533ed0bbfbba8cc3959ac2", func := "brindlewood/brindlewoodlaw3.IntegerBitSums", spec := "integerBitSums", unfollowed := true, recurses := true, named := ["math/bits.overflowError"], apart := false, narrowed := true }
def IntegerBitSumsUptoSaid : Prop := integerBitSumsUptoRow.holds Try.pinned (OpenSpec.upto integerBitSumsSpec)

end Rows
end Go.Proofs.Ytjimnjkgpdoacaa
