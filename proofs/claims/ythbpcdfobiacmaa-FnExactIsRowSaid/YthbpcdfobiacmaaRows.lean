/-
  No cell of these rows narrows 'for every input' (looked for: loops, veiled, ifaces, maps, wideKeys, modest, calm, conditions, laid).
  DERIVED. THE GIVEN ROWS OF THIS SEAT. 12 by the template 'for every input the law returns true; each argument reads behind the call as it read before'; 0 by the template 'total and deterministic' (their statements: YthbpcdfobiacmaaTotals.lean).
  GIVEN WITH THE SEED: the statements are not yours to turn. If you find one false, say at which input.
  Laid BY PROGRAM, IN A SANDBOX (cutbox-rows.mjs): the forced cells as the released guide's own fill.sh prints them over the translation 5098a052ff1a6038… (all of the seat's roots in one cut). By AI agents, Wed Nov 11 2026. No macro, syntax, notation, axiom, sorry.
-/
import Derived.Test.YthbpcdfobiacmaaChecked
import GoSem.Claim
import GoSem.ClaimJoined
import GoSem.ClaimMapViews
import Derived.JoinedTies
import Derived.KernelRfl
namespace Go.Proofs.Ythbpcdfobiacmaa
/- THE CELL 'sum', in the pinned program and in every row, IS THE sha256 OF THE DUMP (.gsa) THAT YthbpcdfobiacmaaProg.lean LOADS. Nothing in Lean hashes anything: it is a label: what it is worth is what the hold of that sum in a sandbox is worth. -/
noncomputable def Try.pinned : Pinned := { name := "ythbpcdfobiacmaa", sum := "5098a052ff1a603862f58ba26ebaa0c9d25c65c3f2e7f6bccd2c8ac6798576fb", checked := Try.checked }
namespace Rows
def none {H : Type} : Left H := { results := [], args := [] }

/-- 'laws.FnExactConstants': WHATEVER THE INPUT: true; the input reads as it did. -/
def fnExactConstantsSpec : ChangeSpec := { name := "fnExactConstants", fn := fun _ => fun
  | [] => { results := [.lit (.bool true)], args := [] }
  | _ => none }
def fnExactConstantsRow : OpenClaim := { program := "ythbpcdfobiacmaa", sum := "5098a052ff1a603862f58ba26ebaa0c9d25c65c3f2e7f6bccd2c8ac6798576fb", func := "loop.example/g01986/laws.FnExactConstants", spec := "fnExactConstants", apart := false }
def FnExactConstantsSaid : Prop := fnExactConstantsRow.holds Try.pinned (OpenSpec.ofChange fnExactConstantsSpec)

/-- ITS FALSE NEIGHBOUR: 'it returns false'. Refute it at one input. -/
def fnExactConstantsWrong : ChangeSpec := { name := "fnExactConstants", fn := fun _ => fun
  | [] => { results := [.lit (.bool false)], args := [] }
  | _ => none }
def FnExactConstantsWrongFalsely : Prop := fnExactConstantsRow.holds Try.pinned (OpenSpec.ofChange fnExactConstantsWrong)

/-- 'laws.FnExactEncodeHex': WHATEVER THE INPUT: true; the input reads as it did. -/
def fnExactEncodeHexSpec : ChangeSpec := { name := "fnExactEncodeHex", fn := fun _ => fun
  | [d] => { results := [.lit (.bool true)], args := [d] }
  | _ => none }
def fnExactEncodeHexRow : OpenClaim := { program := "ythbpcdfobiacmaa", sum := "5098a052ff1a603862f58ba26ebaa0c9d25c65c3f2e7f6bccd2c8ac6798576fb", func := "loop.example/g01986/laws.FnExactEncodeHex", spec := "fnExactEncodeHex", apart := false }
def FnExactEncodeHexSaid : Prop := fnExactEncodeHexRow.holds Try.pinned (OpenSpec.ofChange fnExactEncodeHexSpec)

/-- ITS FALSE NEIGHBOUR: 'it returns false'. Refute it at one input. -/
def fnExactEncodeHexWrong : ChangeSpec := { name := "fnExactEncodeHex", fn := fun _ => fun
  | [d] => { results := [.lit (.bool false)], args := [d] }
  | _ => none }
def FnExactEncodeHexWrongFalsely : Prop := fnExactEncodeHexRow.holds Try.pinned (OpenSpec.ofChange fnExactEncodeHexWrong)

/-- 'laws.FnExactIsCond': WHATEVER THE INPUT: true; the input reads as it did. -/
def fnExactIsCondSpec : ChangeSpec := { name := "fnExactIsCond", fn := fun _ => fun
  | [d] => { results := [.lit (.bool true)], args := [d] }
  | _ => none }
def fnExactIsCondRow : OpenClaim := { program := "ythbpcdfobiacmaa", sum := "5098a052ff1a603862f58ba26ebaa0c9d25c65c3f2e7f6bccd2c8ac6798576fb", func := "loop.example/g01986/laws.FnExactIsCond", spec := "fnExactIsCond", apart := false }
def FnExactIsCondSaid : Prop := fnExactIsCondRow.holds Try.pinned (OpenSpec.ofChange fnExactIsCondSpec)

/-- ITS FALSE NEIGHBOUR: 'it returns false'. Refute it at one input. -/
def fnExactIsCondWrong : ChangeSpec := { name := "fnExactIsCond", fn := fun _ => fun
  | [d] => { results := [.lit (.bool false)], args := [d] }
  | _ => none }
def FnExactIsCondWrongFalsely : Prop := fnExactIsCondRow.holds Try.pinned (OpenSpec.ofChange fnExactIsCondWrong)

/-- 'laws.FnExactDecodeFixed': WHATEVER THE INPUT: true; the input reads as it did. -/
def fnExactDecodeFixedSpec : ChangeSpec := { name := "fnExactDecodeFixed", fn := fun _ => fun
  | [d1, d2] => { results := [.lit (.bool true)], args := [d1, d2] }
  | _ => none }
def fnExactDecodeFixedRow : OpenClaim := { program := "ythbpcdfobiacmaa", sum := "5098a052ff1a603862f58ba26ebaa0c9d25c65c3f2e7f6bccd2c8ac6798576fb", func := "loop.example/g01986/laws.FnExactDecodeFixed", spec := "fnExactDecodeFixed", apart := false }
def FnExactDecodeFixedSaid : Prop := fnExactDecodeFixedRow.holds Try.pinned (OpenSpec.ofChange fnExactDecodeFixedSpec)

/-- ITS FALSE NEIGHBOUR: 'it returns false'. Refute it at one input. -/
def fnExactDecodeFixedWrong : ChangeSpec := { name := "fnExactDecodeFixed", fn := fun _ => fun
  | [d1, d2] => { results := [.lit (.bool false)], args := [d1, d2] }
  | _ => none }
def FnExactDecodeFixedWrongFalsely : Prop := fnExactDecodeFixedRow.holds Try.pinned (OpenSpec.ofChange fnExactDecodeFixedWrong)

/-- 'laws.FnExactEncodeVarint': WHATEVER THE INPUT: true; the input reads as it did. -/
def fnExactEncodeVarintSpec : ChangeSpec := { name := "fnExactEncodeVarint", fn := fun _ => fun
  | [d] => { results := [.lit (.bool true)], args := [d] }
  | _ => none }
def fnExactEncodeVarintRow : OpenClaim := { program := "ythbpcdfobiacmaa", sum := "5098a052ff1a603862f58ba26ebaa0c9d25c65c3f2e7f6bccd2c8ac6798576fb", func := "loop.example/g01986/laws.FnExactEncodeVarint", spec := "fnExactEncodeVarint", apart := false }
def FnExactEncodeVarintSaid : Prop := fnExactEncodeVarintRow.holds Try.pinned (OpenSpec.ofChange fnExactEncodeVarintSpec)

/-- ITS FALSE NEIGHBOUR: 'it returns false'. Refute it at one input. -/
def fnExactEncodeVarintWrong : ChangeSpec := { name := "fnExactEncodeVarint", fn := fun _ => fun
  | [d] => { results := [.lit (.bool false)], args := [d] }
  | _ => none }
def FnExactEncodeVarintWrongFalsely : Prop := fnExactEncodeVarintRow.holds Try.pinned (OpenSpec.ofChange fnExactEncodeVarintWrong)

/-- 'laws.FnExactEncodeFixed': WHATEVER THE INPUT: true; the input reads as it did. -/
def fnExactEncodeFixedSpec : ChangeSpec := { name := "fnExactEncodeFixed", fn := fun _ => fun
  | [d1, d2] => { results := [.lit (.bool true)], args := [d1, d2] }
  | _ => none }
def fnExactEncodeFixedRow : OpenClaim := { program := "ythbpcdfobiacmaa", sum := "5098a052ff1a603862f58ba26ebaa0c9d25c65c3f2e7f6bccd2c8ac6798576fb", func := "loop.example/g01986/laws.FnExactEncodeFixed", spec := "fnExactEncodeFixed", apart := false }
def FnExactEncodeFixedSaid : Prop := fnExactEncodeFixedRow.holds Try.pinned (OpenSpec.ofChange fnExactEncodeFixedSpec)

/-- ITS FALSE NEIGHBOUR: 'it returns false'. Refute it at one input. -/
def fnExactEncodeFixedWrong : ChangeSpec := { name := "fnExactEncodeFixed", fn := fun _ => fun
  | [d1, d2] => { results := [.lit (.bool false)], args := [d1, d2] }
  | _ => none }
def FnExactEncodeFixedWrongFalsely : Prop := fnExactEncodeFixedRow.holds Try.pinned (OpenSpec.ofChange fnExactEncodeFixedWrong)

/-- 'laws.FnExactHasMember': WHATEVER THE INPUT: true; the input reads as it did. -/
def fnExactHasMemberSpec : ChangeSpec := { name := "fnExactHasMember", fn := fun _ => fun
  | [d1, d2] => { results := [.lit (.bool true)], args := [d1, d2] }
  | _ => none }
def fnExactHasMemberRow : OpenClaim := { program := "ythbpcdfobiacmaa", sum := "5098a052ff1a603862f58ba26ebaa0c9d25c65c3f2e7f6bccd2c8ac6798576fb", func := "loop.example/g01986/laws.FnExactHasMember", spec := "fnExactHasMember", apart := false }
def FnExactHasMemberSaid : Prop := fnExactHasMemberRow.holds Try.pinned (OpenSpec.ofChange fnExactHasMemberSpec)

/-- ITS FALSE NEIGHBOUR: 'it returns false'. Refute it at one input. -/
def fnExactHasMemberWrong : ChangeSpec := { name := "fnExactHasMember", fn := fun _ => fun
  | [d1, d2] => { results := [.lit (.bool false)], args := [d1, d2] }
  | _ => none }
def FnExactHasMemberWrongFalsely : Prop := fnExactHasMemberRow.holds Try.pinned (OpenSpec.ofChange fnExactHasMemberWrong)

/-- 'laws.FnExactIsSet': WHATEVER THE INPUT: true; the input reads as it did. -/
def fnExactIsSetSpec : ChangeSpec := { name := "fnExactIsSet", fn := fun _ => fun
  | [d] => { results := [.lit (.bool true)], args := [d] }
  | _ => none }
def fnExactIsSetRow : OpenClaim := { program := "ythbpcdfobiacmaa", sum := "5098a052ff1a603862f58ba26ebaa0c9d25c65c3f2e7f6bccd2c8ac6798576fb", func := "loop.example/g01986/laws.FnExactIsSet", spec := "fnExactIsSet", apart := false }
def FnExactIsSetSaid : Prop := fnExactIsSetRow.holds Try.pinned (OpenSpec.ofChange fnExactIsSetSpec)

/-- ITS FALSE NEIGHBOUR: 'it returns false'. Refute it at one input. -/
def fnExactIsSetWrong : ChangeSpec := { name := "fnExactIsSet", fn := fun _ => fun
  | [d] => { results := [.lit (.bool false)], args := [d] }
  | _ => none }
def FnExactIsSetWrongFalsely : Prop := fnExactIsSetRow.holds Try.pinned (OpenSpec.ofChange fnExactIsSetWrong)

/-- 'laws.FnExactDecodeVarint': WHATEVER THE INPUT: true; the input reads as it did. -/
def fnExactDecodeVarintSpec : ChangeSpec := { name := "fnExactDecodeVarint", fn := fun _ => fun
  | [d] => { results := [.lit (.bool true)], args := [d] }
  | _ => none }
def fnExactDecodeVarintRow : OpenClaim := { program := "ythbpcdfobiacmaa", sum := "5098a052ff1a603862f58ba26ebaa0c9d25c65c3f2e7f6bccd2c8ac6798576fb", func := "loop.example/g01986/laws.FnExactDecodeVarint", spec := "fnExactDecodeVarint", apart := false }
def FnExactDecodeVarintSaid : Prop := fnExactDecodeVarintRow.holds Try.pinned (OpenSpec.ofChange fnExactDecodeVarintSpec)

/-- ITS FALSE NEIGHBOUR: 'it returns false'. Refute it at one input. -/
def fnExactDecodeVarintWrong : ChangeSpec := { name := "fnExactDecodeVarint", fn := fun _ => fun
  | [d] => { results := [.lit (.bool false)], args := [d] }
  | _ => none }
def FnExactDecodeVarintWrongFalsely : Prop := fnExactDecodeVarintRow.holds Try.pinned (OpenSpec.ofChange fnExactDecodeVarintWrong)

/-- 'laws.FnExactDecodeHex': WHATEVER THE INPUT: true; the input reads as it did. -/
def fnExactDecodeHexSpec : ChangeSpec := { name := "fnExactDecodeHex", fn := fun _ => fun
  | [d] => { results := [.lit (.bool true)], args := [d] }
  | _ => none }
def fnExactDecodeHexRow : OpenClaim := { program := "ythbpcdfobiacmaa", sum := "5098a052ff1a603862f58ba26ebaa0c9d25c65c3f2e7f6bccd2c8ac6798576fb", func := "loop.example/g01986/laws.FnExactDecodeHex", spec := "fnExactDecodeHex", inPlace := ["internal/bytealg.IndexByteString"], apart := false }
def FnExactDecodeHexSaid : Prop := fnExactDecodeHexRow.holds Try.pinned (OpenSpec.ofChange fnExactDecodeHexSpec)

/-- ITS FALSE NEIGHBOUR: 'it returns false'. Refute it at one input. -/
def fnExactDecodeHexWrong : ChangeSpec := { name := "fnExactDecodeHex", fn := fun _ => fun
  | [d] => { results := [.lit (.bool false)], args := [d] }
  | _ => none }
def FnExactDecodeHexWrongFalsely : Prop := fnExactDecodeHexRow.holds Try.pinned (OpenSpec.ofChange fnExactDecodeHexWrong)

/-- 'laws.FnExactIsVisible': WHATEVER THE INPUT: true; the input reads as it did. -/
def fnExactIsVisibleSpec : ChangeSpec := { name := "fnExactIsVisible", fn := fun _ => fun
  | [d1, d2] => { results := [.lit (.bool true)], args := [d1, d2] }
  | _ => none }
def fnExactIsVisibleRow : OpenClaim := { program := "ythbpcdfobiacmaa", sum := "5098a052ff1a603862f58ba26ebaa0c9d25c65c3f2e7f6bccd2c8ac6798576fb", func := "loop.example/g01986/laws.FnExactIsVisible", spec := "fnExactIsVisible", apart := false }
def FnExactIsVisibleSaid : Prop := fnExactIsVisibleRow.holds Try.pinned (OpenSpec.ofChange fnExactIsVisibleSpec)

/-- ITS FALSE NEIGHBOUR: 'it returns false'. Refute it at one input. -/
def fnExactIsVisibleWrong : ChangeSpec := { name := "fnExactIsVisible", fn := fun _ => fun
  | [d1, d2] => { results := [.lit (.bool false)], args := [d1, d2] }
  | _ => none }
def FnExactIsVisibleWrongFalsely : Prop := fnExactIsVisibleRow.holds Try.pinned (OpenSpec.ofChange fnExactIsVisibleWrong)

/-- 'laws.FnExactIsRow': WHATEVER THE INPUT: true; the input reads as it did. -/
def fnExactIsRowSpec : ChangeSpec := { name := "fnExactIsRow", fn := fun _ => fun
  | [d] => { results := [.lit (.bool true)], args := [d] }
  | _ => none }
def fnExactIsRowRow : OpenClaim := { program := "ythbpcdfobiacmaa", sum := "5098a052ff1a603862f58ba26ebaa0c9d25c65c3f2e7f6bccd2c8ac6798576fb", func := "loop.example/g01986/laws.FnExactIsRow", spec := "fnExactIsRow", apart := false }
def FnExactIsRowSaid : Prop := fnExactIsRowRow.holds Try.pinned (OpenSpec.ofChange fnExactIsRowSpec)

/-- ITS FALSE NEIGHBOUR: 'it returns false'. Refute it at one input. -/
def fnExactIsRowWrong : ChangeSpec := { name := "fnExactIsRow", fn := fun _ => fun
  | [d] => { results := [.lit (.bool false)], args := [d] }
  | _ => none }
def FnExactIsRowWrongFalsely : Prop := fnExactIsRowRow.holds Try.pinned (OpenSpec.ofChange fnExactIsRowWrong)

/- THE SECOND FORM. 'bulk': how many values and letters a reading holds, each counted each time it is reached (what is shared counts as often as it is met; a slice's spare places count too). A statement '..UptoSaid' is the law's where the arguments, and the package variables that the reading takes, are together of bulk at most 1048576: NARROWER than '..Said'. Prove '..Said' where nothing that the law and all that it calls make is longer than what came in: it says more and counts as full. Else prove '..UptoSaid'. A law counts once. -/
mutual
def uptoBulk {H : Type} : DataW H → Nat
  | .lit (.string bytes) => bytes.length + 1
  | .lit _ => 1
  | .nil => 1
  | .ptr d => uptoBulk d + 1
  | .slice elems spare => uptoBulkAll elems + uptoBulkAll spare + 1
  | .agg parts => uptoBulkAll parts + 1
  | .iface _ d => uptoBulk d + 1
  | .map entries => uptoBulkEntries entries + 1
  | .held _ => 1
def uptoBulkAll {H : Type} : List (DataW H) → Nat
  | [] => 0
  | d :: r => uptoBulk d + uptoBulkAll r
def uptoBulkEntries {H : Type} : List (Lit × DataW H) → Nat
  | [] => 0
  | x :: r => uptoBulkEntry x + uptoBulkEntries r
def uptoBulkEntry {H : Type} : Lit × DataW H → Nat
  | (.string bytes, d) => bytes.length + uptoBulk d + 1
  | (_, d) => uptoBulk d + 1
 end
def uptoSmall : (H : Type) → List (DataW H) → Bool := fun _ ds => decide (uptoBulkAll ds ≤ 1048576)
def OpenSpec.upto (s : _root_.Go.ChangeSpec) : _root_.Go.OpenSpec := { _root_.Go.OpenSpec.ofChange s with cond := some uptoSmall }

/-- 'laws.FnExactConstants', WHERE WHAT IT READS IS OF BULK AT MOST 1048576: true; the input reads as it did. -/
def fnExactConstantsUptoRow : OpenClaim := { program := "ythbpcdfobiacmaa", sum := "5098a052ff1a603862f58ba26ebaa0c9d25c65c3f2e7f6bccd2c8ac6798576fb", func := "loop.example/g01986/laws.FnExactConstants", spec := "fnExactConstants", apart := false, narrowed := true }
def FnExactConstantsUptoSaid : Prop := fnExactConstantsUptoRow.holds Try.pinned (OpenSpec.upto fnExactConstantsSpec)

/-- 'laws.FnExactEncodeHex', WHERE WHAT IT READS IS OF BULK AT MOST 1048576: true; the input reads as it did. -/
def fnExactEncodeHexUptoRow : OpenClaim := { program := "ythbpcdfobiacmaa", sum := "5098a052ff1a603862f58ba26ebaa0c9d25c65c3f2e7f6bccd2c8ac6798576fb", func := "loop.example/g01986/laws.FnExactEncodeHex", spec := "fnExactEncodeHex", apart := false, narrowed := true }
def FnExactEncodeHexUptoSaid : Prop := fnExactEncodeHexUptoRow.holds Try.pinned (OpenSpec.upto fnExactEncodeHexSpec)

/-- 'laws.FnExactIsCond', WHERE WHAT IT READS IS OF BULK AT MOST 1048576: true; the input reads as it did. -/
def fnExactIsCondUptoRow : OpenClaim := { program := "ythbpcdfobiacmaa", sum := "5098a052ff1a603862f58ba26ebaa0c9d25c65c3f2e7f6bccd2c8ac6798576fb", func := "loop.example/g01986/laws.FnExactIsCond", spec := "fnExactIsCond", apart := false, narrowed := true }
def FnExactIsCondUptoSaid : Prop := fnExactIsCondUptoRow.holds Try.pinned (OpenSpec.upto fnExactIsCondSpec)

/-- 'laws.FnExactDecodeFixed', WHERE WHAT IT READS IS OF BULK AT MOST 1048576: true; the input reads as it did. -/
def fnExactDecodeFixedUptoRow : OpenClaim := { program := "ythbpcdfobiacmaa", sum := "5098a052ff1a603862f58ba26ebaa0c9d25c65c3f2e7f6bccd2c8ac6798576fb", func := "loop.example/g01986/laws.FnExactDecodeFixed", spec := "fnExactDecodeFixed", apart := false, narrowed := true }
def FnExactDecodeFixedUptoSaid : Prop := fnExactDecodeFixedUptoRow.holds Try.pinned (OpenSpec.upto fnExactDecodeFixedSpec)

/-- 'laws.FnExactEncodeVarint', WHERE WHAT IT READS IS OF BULK AT MOST 1048576: true; the input reads as it did. -/
def fnExactEncodeVarintUptoRow : OpenClaim := { program := "ythbpcdfobiacmaa", sum := "5098a052ff1a603862f58ba26ebaa0c9d25c65c3f2e7f6bccd2c8ac6798576fb", func := "loop.example/g01986/laws.FnExactEncodeVarint", spec := "fnExactEncodeVarint", apart := false, narrowed := true }
def FnExactEncodeVarintUptoSaid : Prop := fnExactEncodeVarintUptoRow.holds Try.pinned (OpenSpec.upto fnExactEncodeVarintSpec)

/-- 'laws.FnExactEncodeFixed', WHERE WHAT IT READS IS OF BULK AT MOST 1048576: true; the input reads as it did. -/
def fnExactEncodeFixedUptoRow : OpenClaim := { program := "ythbpcdfobiacmaa", sum := "5098a052ff1a603862f58ba26ebaa0c9d25c65c3f2e7f6bccd2c8ac6798576fb", func := "loop.example/g01986/laws.FnExactEncodeFixed", spec := "fnExactEncodeFixed", apart := false, narrowed := true }
def FnExactEncodeFixedUptoSaid : Prop := fnExactEncodeFixedUptoRow.holds Try.pinned (OpenSpec.upto fnExactEncodeFixedSpec)

/-- 'laws.FnExactHasMember', WHERE WHAT IT READS IS OF BULK AT MOST 1048576: true; the input reads as it did. -/
def fnExactHasMemberUptoRow : OpenClaim := { program := "ythbpcdfobiacmaa", sum := "5098a052ff1a603862f58ba26ebaa0c9d25c65c3f2e7f6bccd2c8ac6798576fb", func := "loop.example/g01986/laws.FnExactHasMember", spec := "fnExactHasMember", apart := false, narrowed := true }
def FnExactHasMemberUptoSaid : Prop := fnExactHasMemberUptoRow.holds Try.pinned (OpenSpec.upto fnExactHasMemberSpec)

/-- 'laws.FnExactIsSet', WHERE WHAT IT READS IS OF BULK AT MOST 1048576: true; the input reads as it did. -/
def fnExactIsSetUptoRow : OpenClaim := { program := "ythbpcdfobiacmaa", sum := "5098a052ff1a603862f58ba26ebaa0c9d25c65c3f2e7f6bccd2c8ac6798576fb", func := "loop.example/g01986/laws.FnExactIsSet", spec := "fnExactIsSet", apart := false, narrowed := true }
def FnExactIsSetUptoSaid : Prop := fnExactIsSetUptoRow.holds Try.pinned (OpenSpec.upto fnExactIsSetSpec)

/-- 'laws.FnExactDecodeVarint', WHERE WHAT IT READS IS OF BULK AT MOST 1048576: true; the input reads as it did. -/
def fnExactDecodeVarintUptoRow : OpenClaim := { program := "ythbpcdfobiacmaa", sum := "5098a052ff1a603862f58ba26ebaa0c9d25c65c3f2e7f6bccd2c8ac6798576fb", func := "loop.example/g01986/laws.FnExactDecodeVarint", spec := "fnExactDecodeVarint", apart := false, narrowed := true }
def FnExactDecodeVarintUptoSaid : Prop := fnExactDecodeVarintUptoRow.holds Try.pinned (OpenSpec.upto fnExactDecodeVarintSpec)

/-- 'laws.FnExactDecodeHex', WHERE WHAT IT READS IS OF BULK AT MOST 1048576: true; the input reads as it did. -/
def fnExactDecodeHexUptoRow : OpenClaim := { program := "ythbpcdfobiacmaa", sum := "5098a052ff1a603862f58ba26ebaa0c9d25c65c3f2e7f6bccd2c8ac6798576fb", func := "loop.example/g01986/laws.FnExactDecodeHex", spec := "fnExactDecodeHex", inPlace := ["internal/bytealg.IndexByteString"], apart := false, narrowed := true }
def FnExactDecodeHexUptoSaid : Prop := fnExactDecodeHexUptoRow.holds Try.pinned (OpenSpec.upto fnExactDecodeHexSpec)

/-- 'laws.FnExactIsVisible', WHERE WHAT IT READS IS OF BULK AT MOST 1048576: true; the input reads as it did. -/
def fnExactIsVisibleUptoRow : OpenClaim := { program := "ythbpcdfobiacmaa", sum := "5098a052ff1a603862f58ba26ebaa0c9d25c65c3f2e7f6bccd2c8ac6798576fb", func := "loop.example/g01986/laws.FnExactIsVisible", spec := "fnExactIsVisible", apart := false, narrowed := true }
def FnExactIsVisibleUptoSaid : Prop := fnExactIsVisibleUptoRow.holds Try.pinned (OpenSpec.upto fnExactIsVisibleSpec)

/-- 'laws.FnExactIsRow', WHERE WHAT IT READS IS OF BULK AT MOST 1048576: true; the input reads as it did. -/
def fnExactIsRowUptoRow : OpenClaim := { program := "ythbpcdfobiacmaa", sum := "5098a052ff1a603862f58ba26ebaa0c9d25c65c3f2e7f6bccd2c8ac6798576fb", func := "loop.example/g01986/laws.FnExactIsRow", spec := "fnExactIsRow", apart := false, narrowed := true }
def FnExactIsRowUptoSaid : Prop := fnExactIsRowUptoRow.holds Try.pinned (OpenSpec.upto fnExactIsRowSpec)

end Rows
end Go.Proofs.Ythbpcdfobiacmaa
