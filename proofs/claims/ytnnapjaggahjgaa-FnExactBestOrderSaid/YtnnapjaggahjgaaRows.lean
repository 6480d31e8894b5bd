/-
  No cell of these rows narrows 'for every input' (looked for: loops, veiled, ifaces, maps, wideKeys, modest, calm, conditions, laid).
  DERIVED. THE GIVEN ROWS OF THIS SEAT. 12 by the template 'for every input the law returns true; each argument reads behind the call as it read before'; 0 by the template 'total and deterministic' (their statements: YtnnapjaggahjgaaTotals.lean).
  GIVEN WITH THE SEED: the statements are not yours to turn. If you find one false, say at which input.
  Laid BY PROGRAM, IN A SANDBOX (cutbox-rows.mjs): the forced cells as the released guide's own fill.sh prints them over the translation 781cdf4eeba82fe4… (all of the seat's roots in one cut). By AI agents, Wed Nov 11 2026. No macro, syntax, notation, axiom, sorry.
-/
import Derived.Test.YtnnapjaggahjgaaChecked
import GoSem.Claim
import GoSem.ClaimJoined
import GoSem.ClaimMapViews
import Derived.JoinedTies
import Derived.KernelRfl
namespace Go.Proofs.Ytnnapjaggahjgaa
/- THE CELL 'sum', in the pinned program and in every row, IS THE sha256 OF THE DUMP (.gsa) THAT YtnnapjaggahjgaaProg.lean LOADS. Nothing in Lean hashes anything: it is a label: what it is worth is what the hold of that sum in a sandbox is worth. -/
noncomputable def Try.pinned : Pinned := { name := "ytnnapjaggahjgaa", sum := "781cdf4eeba82fe43e992d73bd886b41424d98ea88c8c0b0cba3879cbe046ce5", checked := Try.checked }
namespace Rows
def none {H : Type} : Left H := { results := [], args := [] }

/-- 'laws.FnExactIsStore': WHATEVER THE INPUT: true; the input reads as it did. -/
def fnExactIsStoreSpec : ChangeSpec := { name := "fnExactIsStore", fn := fun _ => fun
  | [d] => { results := [.lit (.bool true)], args := [d] }
  | _ => none }
def fnExactIsStoreRow : OpenClaim := { program := "ytnnapjaggahjgaa", sum := "781cdf4eeba82fe43e992d73bd886b41424d98ea88c8c0b0cba3879cbe046ce5", func := "loop.example/g01986/laws.FnExactIsStore", spec := "fnExactIsStore", apart := false }
def FnExactIsStoreSaid : Prop := fnExactIsStoreRow.holds Try.pinned (OpenSpec.ofChange fnExactIsStoreSpec)

/-- ITS FALSE NEIGHBOUR: 'it returns false'. Refute it at one input. -/
def fnExactIsStoreWrong : ChangeSpec := { name := "fnExactIsStore", fn := fun _ => fun
  | [d] => { results := [.lit (.bool false)], args := [d] }
  | _ => none }
def FnExactIsStoreWrongFalsely : Prop := fnExactIsStoreRow.holds Try.pinned (OpenSpec.ofChange fnExactIsStoreWrong)

/-- 'laws.FnExactProjectRow': WHATEVER THE INPUT: true; the input reads as it did. -/
def fnExactProjectRowSpec : ChangeSpec := { name := "fnExactProjectRow", fn := fun _ => fun
  | [d1, d2] => { results := [.lit (.bool true)], args := [d1, d2] }
  | _ => none }
def fnExactProjectRowRow : OpenClaim := { program := "ytnnapjaggahjgaa", sum := "781cdf4eeba82fe43e992d73bd886b41424d98ea88c8c0b0cba3879cbe046ce5", func := "loop.example/g01986/laws.FnExactProjectRow", spec := "fnExactProjectRow", apart := false }
def FnExactProjectRowSaid : Prop := fnExactProjectRowRow.holds Try.pinned (OpenSpec.ofChange fnExactProjectRowSpec)

/-- ITS FALSE NEIGHBOUR: 'it returns false'. Refute it at one input. -/
def fnExactProjectRowWrong : ChangeSpec := { name := "fnExactProjectRow", fn := fun _ => fun
  | [d1, d2] => { results := [.lit (.bool false)], args := [d1, d2] }
  | _ => none }
def FnExactProjectRowWrongFalsely : Prop := fnExactProjectRowRow.holds Try.pinned (OpenSpec.ofChange fnExactProjectRowWrong)

/-- 'laws.FnExactStabSet': WHATEVER THE INPUT: true; the input reads as it did. -/
def fnExactStabSetSpec : ChangeSpec := { name := "fnExactStabSet", fn := fun _ => fun
  | [d1, d2, d3] => { results := [.lit (.bool true)], args := [d1, d2, d3] }
  | _ => none }
def fnExactStabSetRow : OpenClaim := { program := "ytnnapjaggahjgaa", sum := "781cdf4eeba82fe43e992d73bd886b41424d98ea88c8c0b0cba3879cbe046ce5", func := "loop.example/g01986/laws.FnExactStabSet", spec := "fnExactStabSet", apart := false }
def FnExactStabSetSaid : Prop := fnExactStabSetRow.holds Try.pinned (OpenSpec.ofChange fnExactStabSetSpec)

/-- ITS FALSE NEIGHBOUR: 'it returns false'. Refute it at one input. -/
def fnExactStabSetWrong : ChangeSpec := { name := "fnExactStabSet", fn := fun _ => fun
  | [d1, d2, d3] => { results := [.lit (.bool false)], args := [d1, d2, d3] }
  | _ => none }
def FnExactStabSetWrongFalsely : Prop := fnExactStabSetRow.holds Try.pinned (OpenSpec.ofChange fnExactStabSetWrong)

/-- 'laws.FnExactNewStore': WHATEVER THE INPUT: true; the input reads as it did. -/
def fnExactNewStoreSpec : ChangeSpec := { name := "fnExactNewStore", fn := fun _ => fun
  | [d1, d2] => { results := [.lit (.bool true)], args := [d1, d2] }
  | _ => none }
def fnExactNewStoreRow : OpenClaim := { program := "ytnnapjaggahjgaa", sum := "781cdf4eeba82fe43e992d73bd886b41424d98ea88c8c0b0cba3879cbe046ce5", func := "loop.example/g01986/laws.FnExactNewStore", spec := "fnExactNewStore", apart := false }
def FnExactNewStoreSaid : Prop := fnExactNewStoreRow.holds Try.pinned (OpenSpec.ofChange fnExactNewStoreSpec)

/-- ITS FALSE NEIGHBOUR: 'it returns false'. Refute it at one input. -/
def fnExactNewStoreWrong : ChangeSpec := { name := "fnExactNewStore", fn := fun _ => fun
  | [d1, d2] => { results := [.lit (.bool false)], args := [d1, d2] }
  | _ => none }
def FnExactNewStoreWrongFalsely : Prop := fnExactNewStoreRow.holds Try.pinned (OpenSpec.ofChange fnExactNewStoreWrong)

/-- 'laws.FnExactSegmentRows': WHATEVER THE INPUT: true; the input reads as it did. -/
def fnExactSegmentRowsSpec : ChangeSpec := { name := "fnExactSegmentRows", fn := fun _ => fun
  | [d1, d2, d3] => { results := [.lit (.bool true)], args := [d1, d2, d3] }
  | _ => none }
def fnExactSegmentRowsRow : OpenClaim := { program := "ytnnapjaggahjgaa", sum := "781cdf4eeba82fe43e992d73bd886b41424d98ea88c8c0b0cba3879cbe046ce5", func := "loop.example/g01986/laws.FnExactSegmentRows", spec := "fnExactSegmentRows", apart := false }
def FnExactSegmentRowsSaid : Prop := fnExactSegmentRowsRow.holds Try.pinned (OpenSpec.ofChange fnExactSegmentRowsSpec)

/-- ITS FALSE NEIGHBOUR: 'it returns false'. Refute it at one input. -/
def fnExactSegmentRowsWrong : ChangeSpec := { name := "fnExactSegmentRows", fn := fun _ => fun
  | [d1, d2, d3] => { results := [.lit (.bool false)], args := [d1, d2, d3] }
  | _ => none }
def FnExactSegmentRowsWrongFalsely : Prop := fnExactSegmentRowsRow.holds Try.pinned (OpenSpec.ofChange fnExactSegmentRowsWrong)

/-- 'laws.FnExactStabIndex': WHATEVER THE INPUT: true; the input reads as it did. -/
def fnExactStabIndexSpec : ChangeSpec := { name := "fnExactStabIndex", fn := fun _ => fun
  | [d1, d2] => { results := [.lit (.bool true)], args := [d1, d2] }
  | _ => none }
def fnExactStabIndexRow : OpenClaim := { program := "ytnnapjaggahjgaa", sum := "781cdf4eeba82fe43e992d73bd886b41424d98ea88c8c0b0cba3879cbe046ce5", func := "loop.example/g01986/laws.FnExactStabIndex", spec := "fnExactStabIndex", apart := false }
def FnExactStabIndexSaid : Prop := fnExactStabIndexRow.holds Try.pinned (OpenSpec.ofChange fnExactStabIndexSpec)

/-- ITS FALSE NEIGHBOUR: 'it returns false'. Refute it at one input. -/
def fnExactStabIndexWrong : ChangeSpec := { name := "fnExactStabIndex", fn := fun _ => fun
  | [d1, d2] => { results := [.lit (.bool false)], args := [d1, d2] }
  | _ => none }
def FnExactStabIndexWrongFalsely : Prop := fnExactStabIndexRow.holds Try.pinned (OpenSpec.ofChange fnExactStabIndexWrong)

/-- 'laws.FnExactIsIndex': WHATEVER THE INPUT: true; the input reads as it did. -/
def fnExactIsIndexSpec : ChangeSpec := { name := "fnExactIsIndex", fn := fun _ => fun
  | [d] => { results := [.lit (.bool true)], args := [d] }
  | _ => none }
def fnExactIsIndexRow : OpenClaim := { program := "ytnnapjaggahjgaa", sum := "781cdf4eeba82fe43e992d73bd886b41424d98ea88c8c0b0cba3879cbe046ce5", func := "loop.example/g01986/laws.FnExactIsIndex", spec := "fnExactIsIndex", apart := false }
def FnExactIsIndexSaid : Prop := fnExactIsIndexRow.holds Try.pinned (OpenSpec.ofChange fnExactIsIndexSpec)

/-- ITS FALSE NEIGHBOUR: 'it returns false'. Refute it at one input. -/
def fnExactIsIndexWrong : ChangeSpec := { name := "fnExactIsIndex", fn := fun _ => fun
  | [d] => { results := [.lit (.bool false)], args := [d] }
  | _ => none }
def FnExactIsIndexWrongFalsely : Prop := fnExactIsIndexRow.holds Try.pinned (OpenSpec.ofChange fnExactIsIndexWrong)

/-- 'laws.FnExactBuildIndex': WHATEVER THE INPUT: true; the input reads as it did. -/
def fnExactBuildIndexSpec : ChangeSpec := { name := "fnExactBuildIndex", fn := fun _ => fun
  | [d] => { results := [.lit (.bool true)], args := [d] }
  | _ => none }
def fnExactBuildIndexRow : OpenClaim := { program := "ytnnapjaggahjgaa", sum := "781cdf4eeba82fe43e992d73bd886b41424d98ea88c8c0b0cba3879cbe046ce5", func := "loop.example/g01986/laws.FnExactBuildIndex", spec := "fnExactBuildIndex", apart := false }
def FnExactBuildIndexSaid : Prop := fnExactBuildIndexRow.holds Try.pinned (OpenSpec.ofChange fnExactBuildIndexSpec)

/-- ITS FALSE NEIGHBOUR: 'it returns false'. Refute it at one input. -/
def fnExactBuildIndexWrong : ChangeSpec := { name := "fnExactBuildIndex", fn := fun _ => fun
  | [d] => { results := [.lit (.bool false)], args := [d] }
  | _ => none }
def FnExactBuildIndexWrongFalsely : Prop := fnExactBuildIndexRow.holds Try.pinned (OpenSpec.ofChange fnExactBuildIndexWrong)

/-- 'laws.FnExactWorkOf': WHATEVER THE INPUT: true; the input reads as it did. -/
def fnExactWorkOfSpec : ChangeSpec := { name := "fnExactWorkOf", fn := fun _ => fun
  | [d1, d2, d3] => { results := [.lit (.bool true)], args := [d1, d2, d3] }
  | _ => none }
def fnExactWorkOfRow : OpenClaim := { program := "ytnnapjaggahjgaa", sum := "781cdf4eeba82fe43e992d73bd886b41424d98ea88c8c0b0cba3879cbe046ce5", func := "loop.example/g01986/laws.FnExactWorkOf", spec := "fnExactWorkOf", unfollowed := true, recurses := true, apart := false }
def FnExactWorkOfSaid : Prop := fnExactWorkOfRow.holds Try.pinned (OpenSpec.ofChange fnExactWorkOfSpec)

/-- ITS FALSE NEIGHBOUR: 'it returns false'. Refute it at one input. -/
def fnExactWorkOfWrong : ChangeSpec := { name := "fnExactWorkOf", fn := fun _ => fun
  | [d1, d2, d3] => { results := [.lit (.bool false)], args := [d1, d2, d3] }
  | _ => none }
def FnExactWorkOfWrongFalsely : Prop := fnExactWorkOfRow.holds Try.pinned (OpenSpec.ofChange fnExactWorkOfWrong)

/-- 'laws.FnExactProbeSet': WHATEVER THE INPUT: true; the input reads as it did. -/
def fnExactProbeSetSpec : ChangeSpec := { name := "fnExactProbeSet", fn := fun _ => fun
  | [d1, d2, d3] => { results := [.lit (.bool true)], args := [d1, d2, d3] }
  | _ => none }
def fnExactProbeSetRow : OpenClaim := { program := "ytnnapjaggahjgaa", sum := "781cdf4eeba82fe43e992d73bd886b41424d98ea88c8c0b0cba3879cbe046ce5", func := "loop.example/g01986/laws.FnExactProbeSet", spec := "fnExactProbeSet", unfollowed := true, recurses := true, apart := false }
def FnExactProbeSetSaid : Prop := fnExactProbeSetRow.holds Try.pinned (OpenSpec.ofChange fnExactProbeSetSpec)

/-- ITS FALSE NEIGHBOUR: 'it returns false'. Refute it at one input. -/
def fnExactProbeSetWrong : ChangeSpec := { name := "fnExactProbeSet", fn := fun _ => fun
  | [d1, d2, d3] => { results := [.lit (.bool false)], args := [d1, d2, d3] }
  | _ => none }
def FnExactProbeSetWrongFalsely : Prop := fnExactProbeSetRow.holds Try.pinned (OpenSpec.ofChange fnExactProbeSetWrong)

/-- 'laws.FnExactMatchSet': WHATEVER THE INPUT: true; the input reads as it did. -/
def fnExactMatchSetSpec : ChangeSpec := { name := "fnExactMatchSet", fn := fun _ => fun
  | [d1, d2] => { results := [.lit (.bool true)], args := [d1, d2] }
  | _ => none }
def fnExactMatchSetRow : OpenClaim := { program := "ytnnapjaggahjgaa", sum := "781cdf4eeba82fe43e992d73bd886b41424d98ea88c8c0b0cba3879cbe046ce5", func := "loop.example/g01986/laws.FnExactMatchSet", spec := "fnExactMatchSet", unfollowed := true, recurses := true, apart := false }
def FnExactMatchSetSaid : Prop := fnExactMatchSetRow.holds Try.pinned (OpenSpec.ofChange fnExactMatchSetSpec)

/-- ITS FALSE NEIGHBOUR: 'it returns false'. Refute it at one input. -/
def fnExactMatchSetWrong : ChangeSpec := { name := "fnExactMatchSet", fn := fun _ => fun
  | [d1, d2] => { results := [.lit (.bool false)], args := [d1, d2] }
  | _ => none }
def FnExactMatchSetWrongFalsely : Prop := fnExactMatchSetRow.holds Try.pinned (OpenSpec.ofChange fnExactMatchSetWrong)

/-- 'laws.FnExactBestOrder': WHATEVER THE INPUT: true; the input reads as it did. -/
def fnExactBestOrderSpec : ChangeSpec := { name := "fnExactBestOrder", fn := fun _ => fun
  | [d1, d2] => { results := [.lit (.bool true)], args := [d1, d2] }
  | _ => none }
def fnExactBestOrderRow : OpenClaim := { program := "ytnnapjaggahjgaa", sum := "781cdf4eeba82fe43e992d73bd886b41424d98ea88c8c0b0cba3879cbe046ce5", func := "loop.example/g01986/laws.FnExactBestOrder", spec := "fnExactBestOrder", unfollowed := true, recurses := true, apart := false }
def FnExactBestOrderSaid : Prop := fnExactBestOrderRow.holds Try.pinned (OpenSpec.ofChange fnExactBestOrderSpec)

/-- ITS FALSE NEIGHBOUR: 'it returns false'. Refute it at one input. -/
def fnExactBestOrderWrong : ChangeSpec := { name := "fnExactBestOrder", fn := fun _ => fun
  | [d1, d2] => { results := [.lit (.bool false)], args := [d1, d2] }
  | _ => none }
def FnExactBestOrderWrongFalsely : Prop := fnExactBestOrderRow.holds Try.pinned (OpenSpec.ofChange fnExactBestOrderWrong)

/- THE SECOND FORM. 'bulk': how many values and letters a reading holds, each counted each time it is reached (what is shared counts as often as it is met; a slice's spare places count too). A statement '..UptoSaid' is the law's where the arguments, and the package variables that the reading takes, are together of bulk at most 1048576: NARROWER than '..Said'. Prove '..Said' where nothing that the law and all that it calls make is longer than what came in: it says more and counts as full. Else prove '..UptoSaid'. A law counts once. -/
mutual
def uptoBulk {H : Type} : DataW H → Nat
  | .lit (.string bytes) => bytes.length + 1
  | .lit _ => 1
  | .nil => 1
  | .ptr d => uptoBulk d + 1
  | .slice elems spare => uptoBulkAll elems + uptoBulkAll spare + 1
  | .agg parts => uptoBulkAll parts + 1
  | .iface _ d => uptoBulk d + 1
  | .map entries => uptoBulkEntries entries + 1
  | .held _ => 1
def uptoBulkAll {H : Type} : List (DataW H) → Nat
  | [] => 0
  | d :: r => uptoBulk d + uptoBulkAll r
def uptoBulkEntries {H : Type} : List (Lit × DataW H) → Nat
  | [] => 0
  | x :: r => uptoBulkEntry x + uptoBulkEntries r
def uptoBulkEntry {H : Type} : Lit × DataW H → Nat
  | (.string bytes, d) => bytes.length + uptoBulk d + 1
  | (_, d) => uptoBulk d + 1
 end
def uptoSmall : (H : Type) → List (DataW H) → Bool := fun _ ds => decide (uptoBulkAll ds ≤ 1048576)
def OpenSpec.upto (s : _root_.Go.ChangeSpec) : _root_.Go.OpenSpec := { _root_.Go.OpenSpec.ofChange s with cond := some uptoSmall }

/-- 'laws.FnExactIsStore', WHERE WHAT IT READS IS OF BULK AT MOST 1048576: true; the input reads as it did. -/
def fnExactIsStoreUptoRow : OpenClaim := { program := "ytnnapjaggahjgaa", sum := "781cdf4eeba82fe43e992d73bd886b41424d98ea88c8c0b0cba3879cbe046ce5", func := "loop.example/g01986/laws.FnExactIsStore", spec := "fnExactIsStore", apart := false, narrowed := true }
def FnExactIsStoreUptoSaid : Prop := fnExactIsStoreUptoRow.holds Try.pinned (OpenSpec.upto fnExactIsStoreSpec)

/-- 'laws.FnExactProjectRow', WHERE WHAT IT READS IS OF BULK AT MOST 1048576: true; the input reads as it did. -/
def fnExactProjectRowUptoRow : OpenClaim := { program := "ytnnapjaggahjgaa", sum := "781cdf4eeba82fe43e992d73bd886b41424d98ea88c8c0b0cba3879cbe046ce5", func := "loop.example/g01986/laws.FnExactProjectRow", spec := "fnExactProjectRow", apart := false, narrowed := true }
def FnExactProjectRowUptoSaid : Prop := fnExactProjectRowUptoRow.holds Try.pinned (OpenSpec.upto fnExactProjectRowSpec)

/-- 'laws.FnExactStabSet', WHERE WHAT IT READS IS OF BULK AT MOST 1048576: true; the input reads as it did. -/
def fnExactStabSetUptoRow : OpenClaim := { program := "ytnnapjaggahjgaa", sum := "781cdf4eeba82fe43e992d73bd886b41424d98ea88c8c0b0cba3879cbe046ce5", func := "loop.example/g01986/laws.FnExactStabSet", spec := "fnExactStabSet", apart := false, narrowed := true }
def FnExactStabSetUptoSaid : Prop := fnExactStabSetUptoRow.holds Try.pinned (OpenSpec.upto fnExactStabSetSpec)

/-- 'laws.FnExactNewStore', WHERE WHAT IT READS IS OF BULK AT MOST 1048576: true; the input reads as it did. -/
def fnExactNewStoreUptoRow : OpenClaim := { program := "ytnnapjaggahjgaa", sum := "781cdf4eeba82fe43e992d73bd886b41424d98ea88c8c0b0cba3879cbe046ce5", func := "loop.example/g01986/laws.FnExactNewStore", spec := "fnExactNewStore", apart := false, narrowed := true }
def FnExactNewStoreUptoSaid : Prop := fnExactNewStoreUptoRow.holds Try.pinned (OpenSpec.upto fnExactNewStoreSpec)

/-- 'laws.FnExactSegmentRows', WHERE WHAT IT READS IS OF BULK AT MOST 1048576: true; the input reads as it did. -/
def fnExactSegmentRowsUptoRow : OpenClaim := { program := "ytnnapjaggahjgaa", sum := "781cdf4eeba82fe43e992d73bd886b41424d98ea88c8c0b0cba3879cbe046ce5", func := "loop.example/g01986/laws.FnExactSegmentRows", spec := "fnExactSegmentRows", apart := false, narrowed := true }
def FnExactSegmentRowsUptoSaid : Prop := fnExactSegmentRowsUptoRow.holds Try.pinned (OpenSpec.upto fnExactSegmentRowsSpec)

/-- 'laws.FnExactStabIndex', WHERE WHAT IT READS IS OF BULK AT MOST 1048576: true; the input reads as it did. -/
def fnExactStabIndexUptoRow : OpenClaim := { program := "ytnnapjaggahjgaa", sum := "781cdf4eeba82fe43e992d73bd886b41424d98ea88c8c0b0cba3879cbe046ce5", func := "loop.example/g01986/laws.FnExactStabIndex", spec := "fnExactStabIndex", apart := false, narrowed := true }
def FnExactStabIndexUptoSaid : Prop := fnExactStabIndexUptoRow.holds Try.pinned (OpenSpec.upto fnExactStabIndexSpec)

/-- 'laws.FnExactIsIndex', WHERE WHAT IT READS IS OF BULK AT MOST 1048576: true; the input reads as it did. -/
def fnExactIsIndexUptoRow : OpenClaim := { program := "ytnnapjaggahjgaa", sum := "781cdf4eeba82fe43e992d73bd886b41424d98ea88c8c0b0cba3879cbe046ce5", func := "loop.example/g01986/laws.FnExactIsIndex", spec := "fnExactIsIndex", apart := false, narrowed := true }
def FnExactIsIndexUptoSaid : Prop := fnExactIsIndexUptoRow.holds Try.pinned (OpenSpec.upto fnExactIsIndexSpec)

/-- 'laws.FnExactBuildIndex', WHERE WHAT IT READS IS OF BULK AT MOST 1048576: true; the input reads as it did. -/
def fnExactBuildIndexUptoRow : OpenClaim := { program := "ytnnapjaggahjgaa", sum := "781cdf4eeba82fe43e992d73bd886b41424d98ea88c8c0b0cba3879cbe046ce5", func := "loop.example/g01986/laws.FnExactBuildIndex", spec := "fnExactBuildIndex", apart := false, narrowed := true }
def FnExactBuildIndexUptoSaid : Prop := fnExactBuildIndexUptoRow.holds Try.pinned (OpenSpec.upto fnExactBuildIndexSpec)

/-- 'laws.FnExactWorkOf', WHERE WHAT IT READS IS OF BULK AT MOST 1048576: true; the input reads as it did. -/
def fnExactWorkOfUptoRow : OpenClaim := { program := "ytnnapjaggahjgaa", sum := "781cdf4eeba82fe43e992d73bd886b41424d98ea88c8c0b0cba3879cbe046ce5", func := "loop.example/g01986/laws.FnExactWorkOf", spec := "fnExactWorkOf", unfollowed := true, recurses := true, apart := false, narrowed := true }
def FnExactWorkOfUptoSaid : Prop := fnExactWorkOfUptoRow.holds Try.pinned (OpenSpec.upto fnExactWorkOfSpec)

/-- 'laws.FnExactProbeSet', WHERE WHAT IT READS IS OF BULK AT MOST 1048576: true; the input reads as it did. -/
def fnExactProbeSetUptoRow : OpenClaim := { program := "ytnnapjaggahjgaa", sum := "781cdf4eeba82fe43e992d73bd886b41424d98ea88c8c0b0cba3879cbe046ce5", func := "loop.example/g01986/laws.FnExactProbeSet", spec := "fnExactProbeSet", unfollowed := true, recurses := true, apart := false, narrowed := true }
def FnExactProbeSetUptoSaid : Prop := fnExactProbeSetUptoRow.holds Try.pinned (OpenSpec.upto fnExactProbeSetSpec)

/-- 'laws.FnExactMatchSet', WHERE WHAT IT READS IS OF BULK AT MOST 1048576: true; the input reads as it did. -/
def fnExactMatchSetUptoRow : OpenClaim := { program := "ytnnapjaggahjgaa", sum := "781cdf4eeba82fe43e992d73bd886b41424d98ea88c8c0b0cba3879cbe046ce5", func := "loop.example/g01986/laws.FnExactMatchSet", spec := "fnExactMatchSet", unfollowed := true, recurses := true, apart := false, narrowed := true }
def FnExactMatchSetUptoSaid : Prop := fnExactMatchSetUptoRow.holds Try.pinned (OpenSpec.upto fnExactMatchSetSpec)

/-- 'laws.FnExactBestOrder', WHERE WHAT IT READS IS OF BULK AT MOST 1048576: true; the input reads as it did. -/
def fnExactBestOrderUptoRow : OpenClaim := { program := "ytnnapjaggahjgaa", sum := "781cdf4eeba82fe43e992d73bd886b41424d98ea88c8c0b0cba3879cbe046ce5", func := "loop.example/g01986/laws.FnExactBestOrder", spec := "fnExactBestOrder", unfollowed := true, recurses := true, apart := false, narrowed := true }
def FnExactBestOrderUptoSaid : Prop := fnExactBestOrderUptoRow.holds Try.pinned (OpenSpec.upto fnExactBestOrderSpec)

end Rows
end Go.Proofs.Ytnnapjaggahjgaa
