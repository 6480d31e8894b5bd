/-
  No cell of these rows narrows 'for every input' (looked for: loops, veiled, ifaces, maps, wideKeys, modest, calm, conditions, laid).
  DERIVED. THE GIVEN ROWS OF THIS SEAT. 12 by the template 'for every input the law returns true; each argument reads behind the call as it read before'; 0 by the template 'total and deterministic' (their statements: YtgadgidhomijpaaTotals.lean).
  GIVEN WITH THE SEED: the statements are not yours to turn. If you find one false, say at which input.
  Laid BY PROGRAM, IN A SANDBOX (cutbox-rows.mjs): the forced cells as the released guide's own fill.sh prints them over the translation 5c3eedb5f6045e2d… (all of the seat's roots in one cut). By AI agents, Wed Nov 11 2026. No macro, syntax, notation, axiom, sorry.
-/
import Derived.Test.YtgadgidhomijpaaChecked
import GoSem.Claim
import GoSem.ClaimJoined
import GoSem.ClaimMapViews
import Derived.JoinedTies
import Derived.KernelRfl
namespace Go.Proofs.Ytgadgidhomijpaa
/- THE CELL 'sum', in the pinned program and in every row, IS THE sha256 OF THE DUMP (.gsa) THAT YtgadgidhomijpaaProg.lean LOADS. Nothing in Lean hashes anything: it is a label: what it is worth is what the hold of that sum in a sandbox is worth. -/
noncomputable def Try.pinned : Pinned := { name := "ytgadgidhomijpaa", sum := "5c3eedb5f6045e2de823c15d26eae799e8a05b71333b6e332e3330493a452598", checked := Try.checked }
namespace Rows
def none {H : Type} : Left H := { results := [], args := [] }

/-- 'laws.FnExactMeetSets': WHATEVER THE INPUT: true; the input reads as it did. -/
def fnExactMeetSetsSpec : ChangeSpec := { name := "fnExactMeetSets", fn := fun _ => fun
  | [d1, d2] => { results := [.lit (.bool true)], args := [d1, d2] }
  | _ => none }
def fnExactMeetSetsRow : OpenClaim := { program := "ytgadgidhomijpaa", sum := "5c3eedb5f6045e2de823c15d26eae799e8a05b71333b6e332e3330493a452598", func := "loop.example/g01986/laws.FnExactMeetSets", spec := "fnExactMeetSets", unfollowed := true, recurses := true, apart := false }
def FnExactMeetSetsSaid : Prop := fnExactMeetSetsRow.holds Try.pinned (OpenSpec.ofChange fnExactMeetSetsSpec)

/-- ITS FALSE NEIGHBOUR: 'it returns false'. Refute it at one input. -/
def fnExactMeetSetsWrong : ChangeSpec := { name := "fnExactMeetSets", fn := fun _ => fun
  | [d1, d2] => { results := [.lit (.bool false)], args := [d1, d2] }
  | _ => none }
def FnExactMeetSetsWrongFalsely : Prop := fnExactMeetSetsRow.holds Try.pinned (OpenSpec.ofChange fnExactMeetSetsWrong)

/-- 'laws.FnExactSubtractSets': WHATEVER THE INPUT: true; the input reads as it did. -/
def fnExactSubtractSetsSpec : ChangeSpec := { name := "fnExactSubtractSets", fn := fun _ => fun
  | [d1, d2] => { results := [.lit (.bool true)], args := [d1, d2] }
  | _ => none }
def fnExactSubtractSetsRow : OpenClaim := { program := "ytgadgidhomijpaa", sum := "5c3eedb5f6045e2de823c15d26eae799e8a05b71333b6e332e3330493a452598", func := "loop.example/g01986/laws.FnExactSubtractSets", spec := "fnExactSubtractSets", unfollowed := true, recurses := true, apart := false }
def FnExactSubtractSetsSaid : Prop := fnExactSubtractSetsRow.holds Try.pinned (OpenSpec.ofChange fnExactSubtractSetsSpec)

/-- ITS FALSE NEIGHBOUR: 'it returns false'. Refute it at one input. -/
def fnExactSubtractSetsWrong : ChangeSpec := { name := "fnExactSubtractSets", fn := fun _ => fun
  | [d1, d2] => { results := [.lit (.bool false)], args := [d1, d2] }
  | _ => none }
def FnExactSubtractSetsWrongFalsely : Prop := fnExactSubtractSetsRow.holds Try.pinned (OpenSpec.ofChange fnExactSubtractSetsWrong)

/-- 'laws.FnExactUniteSets': WHATEVER THE INPUT: true; the input reads as it did. -/
def fnExactUniteSetsSpec : ChangeSpec := { name := "fnExactUniteSets", fn := fun _ => fun
  | [d1, d2] => { results := [.lit (.bool true)], args := [d1, d2] }
  | _ => none }
def fnExactUniteSetsRow : OpenClaim := { program := "ytgadgidhomijpaa", sum := "5c3eedb5f6045e2de823c15d26eae799e8a05b71333b6e332e3330493a452598", func := "loop.example/g01986/laws.FnExactUniteSets", spec := "fnExactUniteSets", unfollowed := true, recurses := true, apart := false }
def FnExactUniteSetsSaid : Prop := fnExactUniteSetsRow.holds Try.pinned (OpenSpec.ofChange fnExactUniteSetsSpec)

/-- ITS FALSE NEIGHBOUR: 'it returns false'. Refute it at one input. -/
def fnExactUniteSetsWrong : ChangeSpec := { name := "fnExactUniteSets", fn := fun _ => fun
  | [d1, d2] => { results := [.lit (.bool false)], args := [d1, d2] }
  | _ => none }
def FnExactUniteSetsWrongFalsely : Prop := fnExactUniteSetsRow.holds Try.pinned (OpenSpec.ofChange fnExactUniteSetsWrong)

/-- 'laws.FnExactAreRows': WHATEVER THE INPUT: true; the input reads as it did. -/
def fnExactAreRowsSpec : ChangeSpec := { name := "fnExactAreRows", fn := fun _ => fun
  | [d] => { results := [.lit (.bool true)], args := [d] }
  | _ => none }
def fnExactAreRowsRow : OpenClaim := { program := "ytgadgidhomijpaa", sum := "5c3eedb5f6045e2de823c15d26eae799e8a05b71333b6e332e3330493a452598", func := "loop.example/g01986/laws.FnExactAreRows", spec := "fnExactAreRows", apart := false }
def FnExactAreRowsSaid : Prop := fnExactAreRowsRow.holds Try.pinned (OpenSpec.ofChange fnExactAreRowsSpec)

/-- ITS FALSE NEIGHBOUR: 'it returns false'. Refute it at one input. -/
def fnExactAreRowsWrong : ChangeSpec := { name := "fnExactAreRows", fn := fun _ => fun
  | [d] => { results := [.lit (.bool false)], args := [d] }
  | _ => none }
def FnExactAreRowsWrongFalsely : Prop := fnExactAreRowsRow.holds Try.pinned (OpenSpec.ofChange fnExactAreRowsWrong)

/-- 'laws.FnExactEqualSpans': WHATEVER THE INPUT: true; the input reads as it did. -/
def fnExactEqualSpansSpec : ChangeSpec := { name := "fnExactEqualSpans", fn := fun _ => fun
  | [d1, d2] => { results := [.lit (.bool true)], args := [d1, d2] }
  | _ => none }
def fnExactEqualSpansRow : OpenClaim := { program := "ytgadgidhomijpaa", sum := "5c3eedb5f6045e2de823c15d26eae799e8a05b71333b6e332e3330493a452598", func := "loop.example/g01986/laws.FnExactEqualSpans", spec := "fnExactEqualSpans", apart := false }
def FnExactEqualSpansSaid : Prop := fnExactEqualSpansRow.holds Try.pinned (OpenSpec.ofChange fnExactEqualSpansSpec)

/-- ITS FALSE NEIGHBOUR: 'it returns false'. Refute it at one input. -/
def fnExactEqualSpansWrong : ChangeSpec := { name := "fnExactEqualSpans", fn := fun _ => fun
  | [d1, d2] => { results := [.lit (.bool false)], args := [d1, d2] }
  | _ => none }
def FnExactEqualSpansWrongFalsely : Prop := fnExactEqualSpansRow.holds Try.pinned (OpenSpec.ofChange fnExactEqualSpansWrong)

/-- 'laws.FnExactEqualRows': WHATEVER THE INPUT: true; the input reads as it did. -/
def fnExactEqualRowsSpec : ChangeSpec := { name := "fnExactEqualRows", fn := fun _ => fun
  | [d1, d2] => { results := [.lit (.bool true)], args := [d1, d2] }
  | _ => none }
def fnExactEqualRowsRow : OpenClaim := { program := "ytgadgidhomijpaa", sum := "5c3eedb5f6045e2de823c15d26eae799e8a05b71333b6e332e3330493a452598", func := "loop.example/g01986/laws.FnExactEqualRows", spec := "fnExactEqualRows", unfollowed := true, recurses := true, apart := false }
def FnExactEqualRowsSaid : Prop := fnExactEqualRowsRow.holds Try.pinned (OpenSpec.ofChange fnExactEqualRowsSpec)

/-- ITS FALSE NEIGHBOUR: 'it returns false'. Refute it at one input. -/
def fnExactEqualRowsWrong : ChangeSpec := { name := "fnExactEqualRows", fn := fun _ => fun
  | [d1, d2] => { results := [.lit (.bool false)], args := [d1, d2] }
  | _ => none }
def FnExactEqualRowsWrongFalsely : Prop := fnExactEqualRowsRow.holds Try.pinned (OpenSpec.ofChange fnExactEqualRowsWrong)

/-- 'laws.FnExactFindSpan': WHATEVER THE INPUT: true; the input reads as it did. -/
def fnExactFindSpanSpec : ChangeSpec := { name := "fnExactFindSpan", fn := fun _ => fun
  | [d1, d2] => { results := [.lit (.bool true)], args := [d1, d2] }
  | _ => none }
def fnExactFindSpanRow : OpenClaim := { program := "ytgadgidhomijpaa", sum := "5c3eedb5f6045e2de823c15d26eae799e8a05b71333b6e332e3330493a452598", func := "loop.example/g01986/laws.FnExactFindSpan", spec := "fnExactFindSpan", apart := false }
def FnExactFindSpanSaid : Prop := fnExactFindSpanRow.holds Try.pinned (OpenSpec.ofChange fnExactFindSpanSpec)

/-- ITS FALSE NEIGHBOUR: 'it returns false'. Refute it at one input. -/
def fnExactFindSpanWrong : ChangeSpec := { name := "fnExactFindSpan", fn := fun _ => fun
  | [d1, d2] => { results := [.lit (.bool false)], args := [d1, d2] }
  | _ => none }
def FnExactFindSpanWrongFalsely : Prop := fnExactFindSpanRow.holds Try.pinned (OpenSpec.ofChange fnExactFindSpanWrong)

/-- 'laws.FnExactIsQuery': WHATEVER THE INPUT: true; the input reads as it did. -/
def fnExactIsQuerySpec : ChangeSpec := { name := "fnExactIsQuery", fn := fun _ => fun
  | [d] => { results := [.lit (.bool true)], args := [d] }
  | _ => none }
def fnExactIsQueryRow : OpenClaim := { program := "ytgadgidhomijpaa", sum := "5c3eedb5f6045e2de823c15d26eae799e8a05b71333b6e332e3330493a452598", func := "loop.example/g01986/laws.FnExactIsQuery", spec := "fnExactIsQuery", apart := false }
def FnExactIsQuerySaid : Prop := fnExactIsQueryRow.holds Try.pinned (OpenSpec.ofChange fnExactIsQuerySpec)

/-- ITS FALSE NEIGHBOUR: 'it returns false'. Refute it at one input. -/
def fnExactIsQueryWrong : ChangeSpec := { name := "fnExactIsQuery", fn := fun _ => fun
  | [d] => { results := [.lit (.bool false)], args := [d] }
  | _ => none }
def FnExactIsQueryWrongFalsely : Prop := fnExactIsQueryRow.holds Try.pinned (OpenSpec.ofChange fnExactIsQueryWrong)

/-- 'laws.FnExactCountVersions': WHATEVER THE INPUT: true; the input reads as it did. -/
def fnExactCountVersionsSpec : ChangeSpec := { name := "fnExactCountVersions", fn := fun _ => fun
  | [d] => { results := [.lit (.bool true)], args := [d] }
  | _ => none }
def fnExactCountVersionsRow : OpenClaim := { program := "ytgadgidhomijpaa", sum := "5c3eedb5f6045e2de823c15d26eae799e8a05b71333b6e332e3330493a452598", func := "loop.example/g01986/laws.FnExactCountVersions", spec := "fnExactCountVersions", apart := false }
def FnExactCountVersionsSaid : Prop := fnExactCountVersionsRow.holds Try.pinned (OpenSpec.ofChange fnExactCountVersionsSpec)

/-- ITS FALSE NEIGHBOUR: 'it returns false'. Refute it at one input. -/
def fnExactCountVersionsWrong : ChangeSpec := { name := "fnExactCountVersions", fn := fun _ => fun
  | [d] => { results := [.lit (.bool false)], args := [d] }
  | _ => none }
def FnExactCountVersionsWrongFalsely : Prop := fnExactCountVersionsRow.holds Try.pinned (OpenSpec.ofChange fnExactCountVersionsWrong)

/-- 'laws.FnExactAreQueries': WHATEVER THE INPUT: true; the input reads as it did. -/
def fnExactAreQueriesSpec : ChangeSpec := { name := "fnExactAreQueries", fn := fun _ => fun
  | [d] => { results := [.lit (.bool true)], args := [d] }
  | _ => none }
def fnExactAreQueriesRow : OpenClaim := { program := "ytgadgidhomijpaa", sum := "5c3eedb5f6045e2de823c15d26eae799e8a05b71333b6e332e3330493a452598", func := "loop.example/g01986/laws.FnExactAreQueries", spec := "fnExactAreQueries", apart := false }
def FnExactAreQueriesSaid : Prop := fnExactAreQueriesRow.holds Try.pinned (OpenSpec.ofChange fnExactAreQueriesSpec)

/-- ITS FALSE NEIGHBOUR: 'it returns false'. Refute it at one input. -/
def fnExactAreQueriesWrong : ChangeSpec := { name := "fnExactAreQueries", fn := fun _ => fun
  | [d] => { results := [.lit (.bool false)], args := [d] }
  | _ => none }
def FnExactAreQueriesWrongFalsely : Prop := fnExactAreQueriesRow.holds Try.pinned (OpenSpec.ofChange fnExactAreQueriesWrong)

/-- 'laws.FnExactEqualStores': WHATEVER THE INPUT: true; the input reads as it did. -/
def fnExactEqualStoresSpec : ChangeSpec := { name := "fnExactEqualStores", fn := fun _ => fun
  | [d1, d2] => { results := [.lit (.bool true)], args := [d1, d2] }
  | _ => none }
def fnExactEqualStoresRow : OpenClaim := { program := "ytgadgidhomijpaa", sum := "5c3eedb5f6045e2de823c15d26eae799e8a05b71333b6e332e3330493a452598", func := "loop.example/g01986/laws.FnExactEqualStores", spec := "fnExactEqualStores", apart := false }
def FnExactEqualStoresSaid : Prop := fnExactEqualStoresRow.holds Try.pinned (OpenSpec.ofChange fnExactEqualStoresSpec)

/-- ITS FALSE NEIGHBOUR: 'it returns false'. Refute it at one input. -/
def fnExactEqualStoresWrong : ChangeSpec := { name := "fnExactEqualStores", fn := fun _ => fun
  | [d1, d2] => { results := [.lit (.bool false)], args := [d1, d2] }
  | _ => none }
def FnExactEqualStoresWrongFalsely : Prop := fnExactEqualStoresRow.holds Try.pinned (OpenSpec.ofChange fnExactEqualStoresWrong)

/-- 'laws.FnExactMatchesRow': WHATEVER THE INPUT: true; the input reads as it did. -/
def fnExactMatchesRowSpec : ChangeSpec := { name := "fnExactMatchesRow", fn := fun _ => fun
  | [d1, d2] => { results := [.lit (.bool true)], args := [d1, d2] }
  | _ => none }
def fnExactMatchesRowRow : OpenClaim := { program := "ytgadgidhomijpaa", sum := "5c3eedb5f6045e2de823c15d26eae799e8a05b71333b6e332e3330493a452598", func := "loop.example/g01986/laws.FnExactMatchesRow", spec := "fnExactMatchesRow", apart := false }
def FnExactMatchesRowSaid : Prop := fnExactMatchesRowRow.holds Try.pinned (OpenSpec.ofChange fnExactMatchesRowSpec)

/-- ITS FALSE NEIGHBOUR: 'it returns false'. Refute it at one input. -/
def fnExactMatchesRowWrong : ChangeSpec := { name := "fnExactMatchesRow", fn := fun _ => fun
  | [d1, d2] => { results := [.lit (.bool false)], args := [d1, d2] }
  | _ => none }
def FnExactMatchesRowWrongFalsely : Prop := fnExactMatchesRowRow.holds Try.pinned (OpenSpec.ofChange fnExactMatchesRowWrong)

/- THE SECOND FORM. 'bulk': how many values and letters a reading holds, each counted each time it is reached (what is shared counts as often as it is met; a slice's spare places count too). A statement '..UptoSaid' is the law's where the arguments, and the package variables that the reading takes, are together of bulk at most 1048576: NARROWER than '..Said'. Prove '..Said' where nothing that the law and all that it calls make is longer than what came in: it says more and counts as full. Else prove '..UptoSaid'. A law counts once. -/
mutual
def uptoBulk {H : Type} : DataW H → Nat
  | .lit (.string bytes) => bytes.length + 1
  | .lit _ => 1
  | .nil => 1
  | .ptr d => uptoBulk d + 1
  | .slice elems spare => uptoBulkAll elems + uptoBulkAll spare + 1
  | .agg parts => uptoBulkAll parts + 1
  | .iface _ d => uptoBulk d + 1
  | .map entries => uptoBulkEntries entries + 1
  | .held _ => 1
def uptoBulkAll {H : Type} : List (DataW H) → Nat
  | [] => 0
  | d :: r => uptoBulk d + uptoBulkAll r
def uptoBulkEntries {H : Type} : List (Lit × DataW H) → Nat
  | [] => 0
  | x :: r => uptoBulkEntry x + uptoBulkEntries r
def uptoBulkEntry {H : Type} : Lit × DataW H → Nat
  | (.string bytes, d) => bytes.length + uptoBulk d + 1
  | (_, d) => uptoBulk d + 1
 end
def uptoSmall : (H : Type) → List (DataW H) → Bool := fun _ ds => decide (uptoBulkAll ds ≤ 1048576)
def OpenSpec.upto (s : _root_.Go.ChangeSpec) : _root_.Go.OpenSpec := { _root_.Go.OpenSpec.ofChange s with cond := some uptoSmall }

/-- 'laws.FnExactMeetSets', WHERE WHAT IT READS IS OF BULK AT MOST 1048576: true; the input reads as it did. -/
def fnExactMeetSetsUptoRow : OpenClaim := { program := "ytgadgidhomijpaa", sum := "5c3eedb5f6045e2de823c15d26eae799e8a05b71333b6e332e3330493a452598", func := "loop.example/g01986/laws.FnExactMeetSets", spec := "fnExactMeetSets", unfollowed := true, recurses := true, apart := false, narrowed := true }
def FnExactMeetSetsUptoSaid : Prop := fnExactMeetSetsUptoRow.holds Try.pinned (OpenSpec.upto fnExactMeetSetsSpec)

/-- 'laws.FnExactSubtractSets', WHERE WHAT IT READS IS OF BULK AT MOST 1048576: true; the input reads as it did. -/
def fnExactSubtractSetsUptoRow : OpenClaim := { program := "ytgadgidhomijpaa", sum := "5c3eedb5f6045e2de823c15d26eae799e8a05b71333b6e332e3330493a452598", func := "loop.example/g01986/laws.FnExactSubtractSets", spec := "fnExactSubtractSets", unfollowed := true, recurses := true, apart := false, narrowed := true }
def FnExactSubtractSetsUptoSaid : Prop := fnExactSubtractSetsUptoRow.holds Try.pinned (OpenSpec.upto fnExactSubtractSetsSpec)

/-- 'laws.FnExactUniteSets', WHERE WHAT IT READS IS OF BULK AT MOST 1048576: true; the input reads as it did. -/
def fnExactUniteSetsUptoRow : OpenClaim := { program := "ytgadgidhomijpaa", sum := "5c3eedb5f6045e2de823c15d26eae799e8a05b71333b6e332e3330493a452598", func := "loop.example/g01986/laws.FnExactUniteSets", spec := "fnExactUniteSets", unfollowed := true, recurses := true, apart := false, narrowed := true }
def FnExactUniteSetsUptoSaid : Prop := fnExactUniteSetsUptoRow.holds Try.pinned (OpenSpec.upto fnExactUniteSetsSpec)

/-- 'laws.FnExactAreRows', WHERE WHAT IT READS IS OF BULK AT MOST 1048576: true; the input reads as it did. -/
def fnExactAreRowsUptoRow : OpenClaim := { program := "ytgadgidhomijpaa", sum := "5c3eedb5f6045e2de823c15d26eae799e8a05b71333b6e332e3330493a452598", func := "loop.example/g01986/laws.FnExactAreRows", spec := "fnExactAreRows", apart := false, narrowed := true }
def FnExactAreRowsUptoSaid : Prop := fnExactAreRowsUptoRow.holds Try.pinned (OpenSpec.upto fnExactAreRowsSpec)

/-- 'laws.FnExactEqualSpans', WHERE WHAT IT READS IS OF BULK AT MOST 1048576: true; the input reads as it did. -/
def fnExactEqualSpansUptoRow : OpenClaim := { program := "ytgadgidhomijpaa", sum := "5c3eedb5f6045e2de823c15d26eae799e8a05b71333b6e332e3330493a452598", func := "loop.example/g01986/laws.FnExactEqualSpans", spec := "fnExactEqualSpans", apart := false, narrowed := true }
def FnExactEqualSpansUptoSaid : Prop := fnExactEqualSpansUptoRow.holds Try.pinned (OpenSpec.upto fnExactEqualSpansSpec)

/-- 'laws.FnExactEqualRows', WHERE WHAT IT READS IS OF BULK AT MOST 1048576: true; the input reads as it did. -/
def fnExactEqualRowsUptoRow : OpenClaim := { program := "ytgadgidhomijpaa", sum := "5c3eedb5f6045e2de823c15d26eae799e8a05b71333b6e332e3330493a452598", func := "loop.example/g01986/laws.FnExactEqualRows", spec := "fnExactEqualRows", unfollowed := true, recurses := true, apart := false, narrowed := true }
def FnExactEqualRowsUptoSaid : Prop := fnExactEqualRowsUptoRow.holds Try.pinned (OpenSpec.upto fnExactEqualRowsSpec)

/-- 'laws.FnExactFindSpan', WHERE WHAT IT READS IS OF BULK AT MOST 1048576: true; the input reads as it did. -/
def fnExactFindSpanUptoRow : OpenClaim := { program := "ytgadgidhomijpaa", sum := "5c3eedb5f6045e2de823c15d26eae799e8a05b71333b6e332e3330493a452598", func := "loop.example/g01986/laws.FnExactFindSpan", spec := "fnExactFindSpan", apart := false, narrowed := true }
def FnExactFindSpanUptoSaid : Prop := fnExactFindSpanUptoRow.holds Try.pinned (OpenSpec.upto fnExactFindSpanSpec)

/-- 'laws.FnExactIsQuery', WHERE WHAT IT READS IS OF BULK AT MOST 1048576: true; the input reads as it did. -/
def fnExactIsQueryUptoRow : OpenClaim := { program := "ytgadgidhomijpaa", sum := "5c3eedb5f6045e2de823c15d26eae799e8a05b71333b6e332e3330493a452598", func := "loop.example/g01986/laws.FnExactIsQuery", spec := "fnExactIsQuery", apart := false, narrowed := true }
def FnExactIsQueryUptoSaid : Prop := fnExactIsQueryUptoRow.holds Try.pinned (OpenSpec.upto fnExactIsQuerySpec)

/-- 'laws.FnExactCountVersions', WHERE WHAT IT READS IS OF BULK AT MOST 1048576: true; the input reads as it did. -/
def fnExactCountVersionsUptoRow : OpenClaim := { program := "ytgadgidhomijpaa", sum := "5c3eedb5f6045e2de823c15d26eae799e8a05b71333b6e332e3330493a452598", func := "loop.example/g01986/laws.FnExactCountVersions", spec := "fnExactCountVersions", apart := false, narrowed := true }
def FnExactCountVersionsUptoSaid : Prop := fnExactCountVersionsUptoRow.holds Try.pinned (OpenSpec.upto fnExactCountVersionsSpec)

/-- 'laws.FnExactAreQueries', WHERE WHAT IT READS IS OF BULK AT MOST 1048576: true; the input reads as it did. -/
def fnExactAreQueriesUptoRow : OpenClaim := { program := "ytgadgidhomijpaa", sum := "5c3eedb5f6045e2de823c15d26eae799e8a05b71333b6e332e3330493a452598", func := "loop.example/g01986/laws.FnExactAreQueries", spec := "fnExactAreQueries", apart := false, narrowed := true }
def FnExactAreQueriesUptoSaid : Prop := fnExactAreQueriesUptoRow.holds Try.pinned (OpenSpec.upto fnExactAreQueriesSpec)

/-- 'laws.FnExactEqualStores', WHERE WHAT IT READS IS OF BULK AT MOST 1048576: true; the input reads as it did. -/
def fnExactEqualStoresUptoRow : OpenClaim := { program := "ytgadgidhomijpaa", sum := "5c3eedb5f6045e2de823c15d26eae799e8a05b71333b6e332e3330493a452598", func := "loop.example/g01986/laws.FnExactEqualStores", spec := "fnExactEqualStores", apart := false, narrowed := true }
def FnExactEqualStoresUptoSaid : Prop := fnExactEqualStoresUptoRow.holds Try.pinned (OpenSpec.upto fnExactEqualStoresSpec)

/-- 'laws.FnExactMatchesRow', WHERE WHAT IT READS IS OF BULK AT MOST 1048576: true; the input reads as it did. -/
def fnExactMatchesRowUptoRow : OpenClaim := { program := "ytgadgidhomijpaa", sum := "5c3eedb5f6045e2de823c15d26eae799e8a05b71333b6e332e3330493a452598", func := "loop.example/g01986/laws.FnExactMatchesRow", spec := "fnExactMatchesRow", apart := false, narrowed := true }
def FnExactMatchesRowUptoSaid : Prop := fnExactMatchesRowUptoRow.holds Try.pinned (OpenSpec.upto fnExactMatchesRowSpec)

end Rows
end Go.Proofs.Ytgadgidhomijpaa
