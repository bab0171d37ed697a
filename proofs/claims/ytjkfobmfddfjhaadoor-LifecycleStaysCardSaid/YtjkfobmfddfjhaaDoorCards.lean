/-
  DERIVED. GIVEN WITH THE SEED: THE CARDS: each row of YtjkfobmfddfjhaaDoorRows.lean that lists a variable, with what it lists TIED to the program's text (the seventh form; the later family's looks); each row that meets fmt, with fmt's text TOLD by the authors' own Lean function (tested against real Go, not proved from fmt's source: count such statements apart). THE CARD IS WHAT COUNTS. Prove the row's statement (the work); the ties are given (YtjkfobmfddfjhaaDoorTie.lean); close each card by the builder's one call (the guide's Derived/Test/ToyasCard.lean, 'card_holds'). Laid BY PROGRAM, IN A SANDBOX (cutbox-door.mjs). By AI agents, Wed Nov 11 2026. No macro, syntax, notation, axiom, sorry.
-/
import Derived.Test.YtjkfobmfddfjhaaDoorRows
import GoSem.ClaimSeven
namespace Go.Proofs.YtjkfobmfddfjhaaDoor
namespace Rows

/-- THE TIED CARD OF 'shadowboxlaw42.PolicyStars'. -/
def policyStarsCard : Claim7 := { stood := { row := policyStarsRow, standIns := [], harness := (true, "68c91526864c01bd21db3d054cd1b01b0e6c1d57d872f5e5285f0f1038b5ec8d"), looks := false }, kinds := [], alts := [], laidByText := true, laidKinds := [.data, .pinned], laidTests := true, laidLooks := .later }
def PolicyStarsCardSaid : Prop := Claim7.holds Tryd.pinned (.plain (OpenSpec.ofChange policyStarsSpec)) policyStarsCard

/-- THE TIED CARD OF 'shadowboxlaw42.PolicyDecides'. -/
def policyDecidesCard : Claim7 := { stood := { row := policyDecidesRow, standIns := [], harness := (true, "68c91526864c01bd21db3d054cd1b01b0e6c1d57d872f5e5285f0f1038b5ec8d"), looks := false }, kinds := [], alts := [], laidByText := true, laidKinds := [.data, .pinned], laidTests := true, laidLooks := .later }
def PolicyDecidesCardSaid : Prop := Claim7.holds Tryd.pinned (.plain (OpenSpec.ofChange policyDecidesSpec)) policyDecidesCard

/-- THE TIED CARD OF 'shadowboxlaw42.PolicyDenies'. -/
def policyDeniesCard : Claim7 := { stood := { row := policyDeniesRow, standIns := [], harness := (true, "68c91526864c01bd21db3d054cd1b01b0e6c1d57d872f5e5285f0f1038b5ec8d"), looks := false }, kinds := [], alts := [], laidByText := true, laidKinds := [.data, .pinned], laidTests := true, laidLooks := .later }
def PolicyDeniesCardSaid : Prop := Claim7.holds Tryd.pinned (.plain (OpenSpec.ofChange policyDeniesSpec)) policyDeniesCard

/-- THE TIED CARD OF 'shadowboxlaw42.PolicyTexts'. -/
def policyTextsCard : Claim7 := { stood := { row := policyTextsRow, standIns := [], harness := (true, "68c91526864c01bd21db3d054cd1b01b0e6c1d57d872f5e5285f0f1038b5ec8d"), looks := false }, kinds := [], alts := [], laidByText := true, laidKinds := [.data, .pinned], laidTests := true, laidLooks := .later }
def PolicyTextsCardSaid : Prop := Claim7.holds Tryd.pinned (.plain (OpenSpec.ofChange policyTextsSpec)) policyTextsCard

/-- THE TIED CARD OF 'shadowboxlaw41.LifecycleStays'. -/
def lifecycleStaysCard : Claim7 := { stood := { row := lifecycleStaysRow, standIns := [], harness := (true, "68c91526864c01bd21db3d054cd1b01b0e6c1d57d872f5e5285f0f1038b5ec8d"), looks := false }, kinds := [], alts := [], laidByText := true, laidKinds := [.data, .pinned], laidTests := true, laidLooks := .later }
def LifecycleStaysCardSaid : Prop := Claim7.holds Tryd.pinned (.plain (OpenSpec.ofChange lifecycleStaysSpec)) lifecycleStaysCard

/-- THE TIED CARD OF 'shadowboxlaw42.PolicyBack'. -/
def policyBackCard : Claim7 := { stood := { row := policyBackRow, standIns := [], harness := (true, "68c91526864c01bd21db3d054cd1b01b0e6c1d57d872f5e5285f0f1038b5ec8d"), looks := false }, kinds := [], alts := [], laidByText := true, laidKinds := [.data, .pinned], laidTests := true, laidLooks := .later }
def PolicyBackCardSaid : Prop := Claim7.holds Tryd.pinned (.plain (OpenSpec.ofChange policyBackSpec)) policyBackCard

/-- THE TIED CARD OF 'shadowboxlaw41.LifecycleBack'. -/
def lifecycleBackCard : Claim7 := { stood := { row := lifecycleBackRow, standIns := [], harness := (true, "68c91526864c01bd21db3d054cd1b01b0e6c1d57d872f5e5285f0f1038b5ec8d"), looks := false }, kinds := [], alts := [], laidByText := true, laidKinds := [.data, .pinned], laidTests := true, laidLooks := .later }
def LifecycleBackCardSaid : Prop := Claim7.holds Tryd.pinned (.plain (OpenSpec.ofChange lifecycleBackSpec)) lifecycleBackCard

/-- THE SECOND FORM's CARD OF 'shadowboxlaw42.PolicyStars'. -/
def policyStarsUptoCard : Claim7 := { stood := { row := policyStarsUptoRow, standIns := [], harness := (true, "68c91526864c01bd21db3d054cd1b01b0e6c1d57d872f5e5285f0f1038b5ec8d"), looks := false }, kinds := [], alts := [], laidByText := true, laidKinds := [.data, .pinned], laidTests := true, laidLooks := .later }
def PolicyStarsUptoCardSaid : Prop := Claim7.holds Tryd.pinned (.plain (OpenSpec.upto policyStarsSpec)) policyStarsUptoCard

/-- THE SECOND FORM's CARD OF 'shadowboxlaw42.PolicyDecides'. -/
def policyDecidesUptoCard : Claim7 := { stood := { row := policyDecidesUptoRow, standIns := [], harness := (true, "68c91526864c01bd21db3d054cd1b01b0e6c1d57d872f5e5285f0f1038b5ec8d"), looks := false }, kinds := [], alts := [], laidByText := true, laidKinds := [.data, .pinned], laidTests := true, laidLooks := .later }
def PolicyDecidesUptoCardSaid : Prop := Claim7.holds Tryd.pinned (.plain (OpenSpec.upto policyDecidesSpec)) policyDecidesUptoCard

/-- THE SECOND FORM's CARD OF 'shadowboxlaw42.PolicyDenies'. -/
def policyDeniesUptoCard : Claim7 := { stood := { row := policyDeniesUptoRow, standIns := [], harness := (true, "68c91526864c01bd21db3d054cd1b01b0e6c1d57d872f5e5285f0f1038b5ec8d"), looks := false }, kinds := [], alts := [], laidByText := true, laidKinds := [.data, .pinned], laidTests := true, laidLooks := .later }
def PolicyDeniesUptoCardSaid : Prop := Claim7.holds Tryd.pinned (.plain (OpenSpec.upto policyDeniesSpec)) policyDeniesUptoCard

/-- THE SECOND FORM's CARD OF 'shadowboxlaw42.PolicyTexts'. -/
def policyTextsUptoCard : Claim7 := { stood := { row := policyTextsUptoRow, standIns := [], harness := (true, "68c91526864c01bd21db3d054cd1b01b0e6c1d57d872f5e5285f0f1038b5ec8d"), looks := false }, kinds := [], alts := [], laidByText := true, laidKinds := [.data, .pinned], laidTests := true, laidLooks := .later }
def PolicyTextsUptoCardSaid : Prop := Claim7.holds Tryd.pinned (.plain (OpenSpec.upto policyTextsSpec)) policyTextsUptoCard

/-- THE SECOND FORM's CARD OF 'shadowboxlaw41.LifecycleStays'. -/
def lifecycleStaysUptoCard : Claim7 := { stood := { row := lifecycleStaysUptoRow, standIns := [], harness := (true, "68c91526864c01bd21db3d054cd1b01b0e6c1d57d872f5e5285f0f1038b5ec8d"), looks := false }, kinds := [], alts := [], laidByText := true, laidKinds := [.data, .pinned], laidTests := true, laidLooks := .later }
def LifecycleStaysUptoCardSaid : Prop := Claim7.holds Tryd.pinned (.plain (OpenSpec.upto lifecycleStaysSpec)) lifecycleStaysUptoCard

/-- THE SECOND FORM's CARD OF 'shadowboxlaw42.PolicyBack'. -/
def policyBackUptoCard : Claim7 := { stood := { row := policyBackUptoRow, standIns := [], harness := (true, "68c91526864c01bd21db3d054cd1b01b0e6c1d57d872f5e5285f0f1038b5ec8d"), looks := false }, kinds := [], alts := [], laidByText := true, laidKinds := [.data, .pinned], laidTests := true, laidLooks := .later }
def PolicyBackUptoCardSaid : Prop := Claim7.holds Tryd.pinned (.plain (OpenSpec.upto policyBackSpec)) policyBackUptoCard

/-- THE SECOND FORM's CARD OF 'shadowboxlaw41.LifecycleBack'. -/
def lifecycleBackUptoCard : Claim7 := { stood := { row := lifecycleBackUptoRow, standIns := [], harness := (true, "68c91526864c01bd21db3d054cd1b01b0e6c1d57d872f5e5285f0f1038b5ec8d"), looks := false }, kinds := [], alts := [], laidByText := true, laidKinds := [.data, .pinned], laidTests := true, laidLooks := .later }
def LifecycleBackUptoCardSaid : Prop := Claim7.holds Tryd.pinned (.plain (OpenSpec.upto lifecycleBackSpec)) lifecycleBackUptoCard
end Rows
end Go.Proofs.YtjkfobmfddfjhaaDoor
