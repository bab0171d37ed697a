/-
  DERIVED. GIVEN WITH THE SEED: THE CARDS: each row of YtdfghdppbfabfaaDoorRows.lean that lists a variable, with what it lists TIED to the program's text (the seventh form; the later family's looks); each row that meets fmt, with fmt's text TOLD by the authors' own Lean function (tested against real Go, not proved from fmt's source: count such statements apart). THE CARD IS WHAT COUNTS. Prove the row's statement (the work); the ties are given (YtdfghdppbfabfaaDoorTie.lean); close each card by the builder's one call (the guide's Derived/Test/ToyasCard.lean, 'card_holds'). Laid BY PROGRAM, IN A SANDBOX (cutbox-door.mjs). By AI agents, Wed Nov 11 2026. No macro, syntax, notation, axiom, sorry.
-/
import Derived.Test.YtdfghdppbfabfaaDoorRows
import GoSem.ClaimSeven
namespace Go.Proofs.YtdfghdppbfabfaaDoor
namespace Rows

/-- THE TIED CARD OF 'shadowboxlaw27.NameAddress'. -/
def nameAddressCard : Claim7 := { stood := { row := nameAddressRow, standIns := [], harness := (true, "7ec3118e6db71b0d7c646cd0fd907a77b45a7e87d06668d1fb80d0317d1d006b"), looks := false }, kinds := [], alts := [], laidByText := true, laidKinds := [.data, .pinned], laidTests := true, laidLooks := .later }
def NameAddressCardSaid : Prop := Claim7.holds Tryd.pinned (.plain (OpenSpec.ofChange nameAddressSpec)) nameAddressCard

/-- THE TIED CARD OF 'shadowboxlaw27.NameSmall'. -/
def nameSmallCard : Claim7 := { stood := { row := nameSmallRow, standIns := [], harness := (true, "7ec3118e6db71b0d7c646cd0fd907a77b45a7e87d06668d1fb80d0317d1d006b"), looks := false }, kinds := [], alts := [], laidByText := true, laidKinds := [.data, .pinned], laidTests := true, laidLooks := .later }
def NameSmallCardSaid : Prop := Claim7.holds Tryd.pinned (.plain (OpenSpec.ofChange nameSmallSpec)) nameSmallCard

/-- THE TIED CARD OF 'shadowboxlaw27.NameSplits'. -/
def nameSplitsCard : Claim7 := { stood := { row := nameSplitsRow, standIns := [], harness := (true, "7ec3118e6db71b0d7c646cd0fd907a77b45a7e87d06668d1fb80d0317d1d006b"), looks := false }, kinds := [], alts := [], laidByText := true, laidKinds := [.data, .pinned], laidTests := true, laidLooks := .later }
def NameSplitsCardSaid : Prop := Claim7.holds Tryd.pinned (.plain (OpenSpec.ofChange nameSplitsSpec)) nameSplitsCard

/-- THE TIED CARD OF 'shadowboxlaw27.NameTells'. -/
def nameTellsCard : Claim7 := { stood := { row := nameTellsRow, standIns := [], harness := (true, "7ec3118e6db71b0d7c646cd0fd907a77b45a7e87d06668d1fb80d0317d1d006b"), looks := false }, kinds := [], alts := [], laidByText := true, laidKinds := [.data, .pinned], laidTests := true, laidLooks := .later }
def NameTellsCardSaid : Prop := Claim7.holds Tryd.pinned (.plain (OpenSpec.ofChange nameTellsSpec)) nameTellsCard

/-- THE SECOND FORM's CARD OF 'shadowboxlaw27.NameAddress'. -/
def nameAddressUptoCard : Claim7 := { stood := { row := nameAddressUptoRow, standIns := [], harness := (true, "7ec3118e6db71b0d7c646cd0fd907a77b45a7e87d06668d1fb80d0317d1d006b"), looks := false }, kinds := [], alts := [], laidByText := true, laidKinds := [.data, .pinned], laidTests := true, laidLooks := .later }
def NameAddressUptoCardSaid : Prop := Claim7.holds Tryd.pinned (.plain (OpenSpec.upto nameAddressSpec)) nameAddressUptoCard

/-- THE SECOND FORM's CARD OF 'shadowboxlaw27.NameSmall'. -/
def nameSmallUptoCard : Claim7 := { stood := { row := nameSmallUptoRow, standIns := [], harness := (true, "7ec3118e6db71b0d7c646cd0fd907a77b45a7e87d06668d1fb80d0317d1d006b"), looks := false }, kinds := [], alts := [], laidByText := true, laidKinds := [.data, .pinned], laidTests := true, laidLooks := .later }
def NameSmallUptoCardSaid : Prop := Claim7.holds Tryd.pinned (.plain (OpenSpec.upto nameSmallSpec)) nameSmallUptoCard

/-- THE SECOND FORM's CARD OF 'shadowboxlaw27.NameSplits'. -/
def nameSplitsUptoCard : Claim7 := { stood := { row := nameSplitsUptoRow, standIns := [], harness := (true, "7ec3118e6db71b0d7c646cd0fd907a77b45a7e87d06668d1fb80d0317d1d006b"), looks := false }, kinds := [], alts := [], laidByText := true, laidKinds := [.data, .pinned], laidTests := true, laidLooks := .later }
def NameSplitsUptoCardSaid : Prop := Claim7.holds Tryd.pinned (.plain (OpenSpec.upto nameSplitsSpec)) nameSplitsUptoCard

/-- THE SECOND FORM's CARD OF 'shadowboxlaw27.NameTells'. -/
def nameTellsUptoCard : Claim7 := { stood := { row := nameTellsUptoRow, standIns := [], harness := (true, "7ec3118e6db71b0d7c646cd0fd907a77b45a7e87d06668d1fb80d0317d1d006b"), looks := false }, kinds := [], alts := [], laidByText := true, laidKinds := [.data, .pinned], laidTests := true, laidLooks := .later }
def NameTellsUptoCardSaid : Prop := Claim7.holds Tryd.pinned (.plain (OpenSpec.upto nameTellsSpec)) nameTellsUptoCard
end Rows
end Go.Proofs.YtdfghdppbfabfaaDoor
