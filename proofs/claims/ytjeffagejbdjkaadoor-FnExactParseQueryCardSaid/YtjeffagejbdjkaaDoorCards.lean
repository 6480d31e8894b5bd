/-
  DERIVED. GIVEN WITH THE SEED: THE CARDS: each row of YtjeffagejbdjkaaDoorRows.lean that lists a variable, with what it lists TIED to the program's text (the seventh form; the later family's looks); each row that meets fmt, with fmt's text TOLD by the authors' own Lean function (tested against real Go, not proved from fmt's source: count such statements apart). THE CARD IS WHAT COUNTS. Prove the row's statement (the work); the ties are given (YtjeffagejbdjkaaDoorTie.lean); close each card by the builder's one call (the guide's Derived/Test/ToyasCard.lean, 'card_holds'). Laid BY PROGRAM, IN A SANDBOX (cutbox-door.mjs). By AI agents, Wed Nov 11 2026. No macro, syntax, notation, axiom, sorry.
-/
import Derived.Test.YtjeffagejbdjkaaDoorRows
import GoSem.ClaimSeven
namespace Go.Proofs.YtjeffagejbdjkaaDoor
namespace Rows

/-- THE TIED CARD OF 'laws.FnExactFormatInt'. -/
def fnExactFormatIntCard : Claim7 := { stood := { row := fnExactFormatIntRow, standIns := [], harness := (true, "b195b59b25bcb9456a3f86c7149debcf563e0fdd5dadc0364cc6cd3b250d45f7"), looks := true }, kinds := [], alts := [], laidByText := true, laidKinds := [.data, .data, .data], laidTests := true, laidLooks := .later }
def FnExactFormatIntCardSaid : Prop := Claim7.holds Tryd.pinned (.plain (OpenSpec.ofChange fnExactFormatIntSpec)) fnExactFormatIntCard

/-- THE TIED CARD OF 'laws.FnExactFormatSet'. -/
def fnExactFormatSetCard : Claim7 := { stood := { row := fnExactFormatSetRow, standIns := [], harness := (true, "b195b59b25bcb9456a3f86c7149debcf563e0fdd5dadc0364cc6cd3b250d45f7"), looks := true }, kinds := [], alts := [], laidByText := true, laidKinds := [.data, .data, .data], laidTests := true, laidLooks := .later }
def FnExactFormatSetCardSaid : Prop := Claim7.holds Tryd.pinned (.plain (OpenSpec.ofChange fnExactFormatSetSpec)) fnExactFormatSetCard

/-- THE TIED CARD OF 'laws.FnExactFormatRow'. -/
def fnExactFormatRowCard : Claim7 := { stood := { row := fnExactFormatRowRow, standIns := [], harness := (true, "b195b59b25bcb9456a3f86c7149debcf563e0fdd5dadc0364cc6cd3b250d45f7"), looks := true }, kinds := [], alts := [], laidByText := true, laidKinds := [.data, .data, .data], laidTests := true, laidLooks := .later }
def FnExactFormatRowCardSaid : Prop := Claim7.holds Tryd.pinned (.plain (OpenSpec.ofChange fnExactFormatRowSpec)) fnExactFormatRowCard

/-- THE TIED CARD OF 'laws.FnExactFormatSpans'. -/
def fnExactFormatSpansCard : Claim7 := { stood := { row := fnExactFormatSpansRow, standIns := [], harness := (true, "b195b59b25bcb9456a3f86c7149debcf563e0fdd5dadc0364cc6cd3b250d45f7"), looks := true }, kinds := [], alts := [], laidByText := true, laidKinds := [.data, .data, .data], laidTests := true, laidLooks := .later }
def FnExactFormatSpansCardSaid : Prop := Claim7.holds Tryd.pinned (.plain (OpenSpec.ofChange fnExactFormatSpansSpec)) fnExactFormatSpansCard

/-- THE TIED CARD OF 'laws.FnExactFormatQuery'. -/
def fnExactFormatQueryCard : Claim7 := { stood := { row := fnExactFormatQueryRow, standIns := [], harness := (true, "b195b59b25bcb9456a3f86c7149debcf563e0fdd5dadc0364cc6cd3b250d45f7"), looks := true }, kinds := [], alts := [], laidByText := true, laidKinds := [.data, .data, .data], laidTests := true, laidLooks := .later }
def FnExactFormatQueryCardSaid : Prop := Claim7.holds Tryd.pinned (.plain (OpenSpec.ofChange fnExactFormatQuerySpec)) fnExactFormatQueryCard

/-- THE TIED CARD OF 'laws.FnExactParseInt'. -/
def fnExactParseIntCard : Claim7 := { stood := { row := fnExactParseIntRow, standIns := [], harness := (true, "b195b59b25bcb9456a3f86c7149debcf563e0fdd5dadc0364cc6cd3b250d45f7"), looks := true }, kinds := [], alts := [], laidByText := true, laidKinds := [.data, .data, .data, .sentinel, .sentinel], laidTests := true, laidLooks := .later }
def FnExactParseIntCardSaid : Prop := Claim7.holds Tryd.pinned (.plain (OpenSpec.ofChange fnExactParseIntSpec)) fnExactParseIntCard

/-- THE TIED CARD OF 'laws.FnExactParseRow'. -/
def fnExactParseRowCard : Claim7 := { stood := { row := fnExactParseRowRow, standIns := [], harness := (true, "b195b59b25bcb9456a3f86c7149debcf563e0fdd5dadc0364cc6cd3b250d45f7"), looks := true }, kinds := [], alts := [], laidByText := true, laidKinds := [.data, .data, .data, .data, .sentinel, .sentinel, .pinned], laidTests := true, laidLooks := .later }
def FnExactParseRowCardSaid : Prop := Claim7.holds Tryd.pinned (.plain (OpenSpec.ofChange fnExactParseRowSpec)) fnExactParseRowCard

/-- THE TIED CARD OF 'laws.FnExactParseSet'. -/
def fnExactParseSetCard : Claim7 := { stood := { row := fnExactParseSetRow, standIns := [], harness := (true, "b195b59b25bcb9456a3f86c7149debcf563e0fdd5dadc0364cc6cd3b250d45f7"), looks := true }, kinds := [], alts := [], laidByText := true, laidKinds := [.data, .data, .data, .data, .sentinel, .sentinel, .pinned], laidTests := true, laidLooks := .later }
def FnExactParseSetCardSaid : Prop := Claim7.holds Tryd.pinned (.plain (OpenSpec.ofChange fnExactParseSetSpec)) fnExactParseSetCard

/-- THE TIED CARD OF 'laws.FnExactParseQuery'. -/
def fnExactParseQueryCard : Claim7 := { stood := { row := fnExactParseQueryRow, standIns := [], harness := (true, "b195b59b25bcb9456a3f86c7149debcf563e0fdd5dadc0364cc6cd3b250d45f7"), looks := true }, kinds := [], alts := [], laidByText := true, laidKinds := [.data, .data, .data, .data, .sentinel, .sentinel, .pinned], laidTests := true, laidLooks := .later }
def FnExactParseQueryCardSaid : Prop := Claim7.holds Tryd.pinned (.plain (OpenSpec.ofChange fnExactParseQuerySpec)) fnExactParseQueryCard

/-- THE SECOND FORM's CARD OF 'laws.FnExactFormatInt'. -/
def fnExactFormatIntUptoCard : Claim7 := { stood := { row := fnExactFormatIntUptoRow, standIns := [], harness := (true, "b195b59b25bcb9456a3f86c7149debcf563e0fdd5dadc0364cc6cd3b250d45f7"), looks := true }, kinds := [], alts := [], laidByText := true, laidKinds := [.data, .data, .data], laidTests := true, laidLooks := .later }
def FnExactFormatIntUptoCardSaid : Prop := Claim7.holds Tryd.pinned (.plain (OpenSpec.upto fnExactFormatIntSpec)) fnExactFormatIntUptoCard

/-- THE SECOND FORM's CARD OF 'laws.FnExactFormatSet'. -/
def fnExactFormatSetUptoCard : Claim7 := { stood := { row := fnExactFormatSetUptoRow, standIns := [], harness := (true, "b195b59b25bcb9456a3f86c7149debcf563e0fdd5dadc0364cc6cd3b250d45f7"), looks := true }, kinds := [], alts := [], laidByText := true, laidKinds := [.data, .data, .data], laidTests := true, laidLooks := .later }
def FnExactFormatSetUptoCardSaid : Prop := Claim7.holds Tryd.pinned (.plain (OpenSpec.upto fnExactFormatSetSpec)) fnExactFormatSetUptoCard

/-- THE SECOND FORM's CARD OF 'laws.FnExactFormatRow'. -/
def fnExactFormatRowUptoCard : Claim7 := { stood := { row := fnExactFormatRowUptoRow, standIns := [], harness := (true, "b195b59b25bcb9456a3f86c7149debcf563e0fdd5dadc0364cc6cd3b250d45f7"), looks := true }, kinds := [], alts := [], laidByText := true, laidKinds := [.data, .data, .data], laidTests := true, laidLooks := .later }
def FnExactFormatRowUptoCardSaid : Prop := Claim7.holds Tryd.pinned (.plain (OpenSpec.upto fnExactFormatRowSpec)) fnExactFormatRowUptoCard

/-- THE SECOND FORM's CARD OF 'laws.FnExactFormatSpans'. -/
def fnExactFormatSpansUptoCard : Claim7 := { stood := { row := fnExactFormatSpansUptoRow, standIns := [], harness := (true, "b195b59b25bcb9456a3f86c7149debcf563e0fdd5dadc0364cc6cd3b250d45f7"), looks := true }, kinds := [], alts := [], laidByText := true, laidKinds := [.data, .data, .data], laidTests := true, laidLooks := .later }
def FnExactFormatSpansUptoCardSaid : Prop := Claim7.holds Tryd.pinned (.plain (OpenSpec.upto fnExactFormatSpansSpec)) fnExactFormatSpansUptoCard

/-- THE SECOND FORM's CARD OF 'laws.FnExactFormatQuery'. -/
def fnExactFormatQueryUptoCard : Claim7 := { stood := { row := fnExactFormatQueryUptoRow, standIns := [], harness := (true, "b195b59b25bcb9456a3f86c7149debcf563e0fdd5dadc0364cc6cd3b250d45f7"), looks := true }, kinds := [], alts := [], laidByText := true, laidKinds := [.data, .data, .data], laidTests := true, laidLooks := .later }
def FnExactFormatQueryUptoCardSaid : Prop := Claim7.holds Tryd.pinned (.plain (OpenSpec.upto fnExactFormatQuerySpec)) fnExactFormatQueryUptoCard

/-- THE SECOND FORM's CARD OF 'laws.FnExactParseInt'. -/
def fnExactParseIntUptoCard : Claim7 := { stood := { row := fnExactParseIntUptoRow, standIns := [], harness := (true, "b195b59b25bcb9456a3f86c7149debcf563e0fdd5dadc0364cc6cd3b250d45f7"), looks := true }, kinds := [], alts := [], laidByText := true, laidKinds := [.data, .data, .data, .sentinel, .sentinel], laidTests := true, laidLooks := .later }
def FnExactParseIntUptoCardSaid : Prop := Claim7.holds Tryd.pinned (.plain (OpenSpec.upto fnExactParseIntSpec)) fnExactParseIntUptoCard

/-- THE SECOND FORM's CARD OF 'laws.FnExactParseRow'. -/
def fnExactParseRowUptoCard : Claim7 := { stood := { row := fnExactParseRowUptoRow, standIns := [], harness := (true, "b195b59b25bcb9456a3f86c7149debcf563e0fdd5dadc0364cc6cd3b250d45f7"), looks := true }, kinds := [], alts := [], laidByText := true, laidKinds := [.data, .data, .data, .data, .sentinel, .sentinel, .pinned], laidTests := true, laidLooks := .later }
def FnExactParseRowUptoCardSaid : Prop := Claim7.holds Tryd.pinned (.plain (OpenSpec.upto fnExactParseRowSpec)) fnExactParseRowUptoCard

/-- THE SECOND FORM's CARD OF 'laws.FnExactParseSet'. -/
def fnExactParseSetUptoCard : Claim7 := { stood := { row := fnExactParseSetUptoRow, standIns := [], harness := (true, "b195b59b25bcb9456a3f86c7149debcf563e0fdd5dadc0364cc6cd3b250d45f7"), looks := true }, kinds := [], alts := [], laidByText := true, laidKinds := [.data, .data, .data, .data, .sentinel, .sentinel, .pinned], laidTests := true, laidLooks := .later }
def FnExactParseSetUptoCardSaid : Prop := Claim7.holds Tryd.pinned (.plain (OpenSpec.upto fnExactParseSetSpec)) fnExactParseSetUptoCard

/-- THE SECOND FORM's CARD OF 'laws.FnExactParseQuery'. -/
def fnExactParseQueryUptoCard : Claim7 := { stood := { row := fnExactParseQueryUptoRow, standIns := [], harness := (true, "b195b59b25bcb9456a3f86c7149debcf563e0fdd5dadc0364cc6cd3b250d45f7"), looks := true }, kinds := [], alts := [], laidByText := true, laidKinds := [.data, .data, .data, .data, .sentinel, .sentinel, .pinned], laidTests := true, laidLooks := .later }
def FnExactParseQueryUptoCardSaid : Prop := Claim7.holds Tryd.pinned (.plain (OpenSpec.upto fnExactParseQuerySpec)) fnExactParseQueryUptoCard
end Rows
end Go.Proofs.YtjeffagejbdjkaaDoor
