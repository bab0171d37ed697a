/-
  DERIVED. GIVEN WITH THE SEED: THE CARDS: each row of YtbdkofondpalpaaDoorRows.lean that lists a variable, with what it lists TIED to the program's text (the seventh form; the later family's looks); each row that meets fmt, with fmt's text TOLD by the authors' own Lean function (tested against real Go, not proved from fmt's source: count such statements apart). THE CARD IS WHAT COUNTS. Prove the row's statement (the work); the ties are given (YtbdkofondpalpaaDoorTie.lean); close each card by the builder's one call (the guide's Derived/Test/ToyasCard.lean, 'card_holds'). Laid BY PROGRAM, IN A SANDBOX (cutbox-door.mjs). By AI agents, Wed Nov 11 2026. No macro, syntax, notation, axiom, sorry.
-/
import Derived.Test.YtbdkofondpalpaaDoorRows
import GoSem.ClaimSeven
namespace Go.Proofs.YtbdkofondpalpaaDoor
namespace Rows

/-- THE TIED CARD OF 'shadowboxlaw30.HeaderQuotes'. -/
def headerQuotesCard : Claim7 := { stood := { row := headerQuotesRow, standIns := [], harness := (true, "48a05177c2816304ae20193907aa78ea5bf3c06c577e3e3e520e080529c15cb6"), looks := false }, kinds := [], alts := [], laidByText := true, laidKinds := [.data, .pinned], laidTests := true, laidLooks := .later }
def HeaderQuotesCardSaid : Prop := Claim7.holds Tryd.pinned (.plain (OpenSpec.ofChange headerQuotesSpec)) headerQuotesCard

/-- THE TIED CARD OF 'shadowboxlaw29.QueryParses'. -/
def queryParsesCard : Claim7 := { stood := { row := queryParsesRow, standIns := [], harness := (true, "48a05177c2816304ae20193907aa78ea5bf3c06c577e3e3e520e080529c15cb6"), looks := false }, kinds := [], alts := [], laidByText := true, laidKinds := [.data, .pinned], laidTests := true, laidLooks := .later }
def QueryParsesCardSaid : Prop := Claim7.holds Tryd.pinned (.plain (OpenSpec.ofChange queryParsesSpec)) queryParsesCard

/-- THE TIED CARD OF 'shadowboxlaw30.HeaderLines'. -/
def headerLinesCard : Claim7 := { stood := { row := headerLinesRow, standIns := [], harness := (true, "48a05177c2816304ae20193907aa78ea5bf3c06c577e3e3e520e080529c15cb6"), looks := false }, kinds := [], alts := [], laidByText := true, laidKinds := [.data, .pinned], laidTests := true, laidLooks := .later }
def HeaderLinesCardSaid : Prop := Claim7.holds Tryd.pinned (.plain (OpenSpec.ofChange headerLinesSpec)) headerLinesCard

/-- THE TIED CARD OF 'shadowboxlaw30.HeaderTags'. -/
def headerTagsCard : Claim7 := { stood := { row := headerTagsRow, standIns := [], harness := (true, "48a05177c2816304ae20193907aa78ea5bf3c06c577e3e3e520e080529c15cb6"), looks := false }, kinds := [], alts := [], laidByText := true, laidKinds := [.data, .pinned], laidTests := true, laidLooks := .later }
def HeaderTagsCardSaid : Prop := Claim7.holds Tryd.pinned (.plain (OpenSpec.ofChange headerTagsSpec)) headerTagsCard

/-- THE TIED CARD OF 'shadowboxlaw31.RequestCloses'. -/
def requestClosesCard : Claim7 := { stood := { row := requestClosesRow, standIns := [], harness := (true, "48a05177c2816304ae20193907aa78ea5bf3c06c577e3e3e520e080529c15cb6"), looks := false }, kinds := [], alts := [], laidByText := true, laidKinds := [.data, .pinned], laidTests := true, laidLooks := .later }
def RequestClosesCardSaid : Prop := Claim7.holds Tryd.pinned (.plain (OpenSpec.ofChange requestClosesSpec)) requestClosesCard

/-- THE TIED CARD OF 'shadowboxlaw29.QueryBack'. -/
def queryBackCard : Claim7 := { stood := { row := queryBackRow, standIns := [], harness := (true, "48a05177c2816304ae20193907aa78ea5bf3c06c577e3e3e520e080529c15cb6"), looks := false }, kinds := [], alts := [], laidByText := true, laidKinds := [.data, .pinned], laidTests := true, laidLooks := .later }
def QueryBackCardSaid : Prop := Claim7.holds Tryd.pinned (.plain (OpenSpec.ofChange queryBackSpec)) queryBackCard

/-- THE TIED CARD OF 'shadowboxlaw31.RequestCuts'. -/
def requestCutsCard : Claim7 := { stood := { row := requestCutsRow, standIns := [], harness := (true, "48a05177c2816304ae20193907aa78ea5bf3c06c577e3e3e520e080529c15cb6"), looks := false }, kinds := [], alts := [], laidByText := true, laidKinds := [.data, .pinned], laidTests := true, laidLooks := .later }
def RequestCutsCardSaid : Prop := Claim7.holds Tryd.pinned (.plain (OpenSpec.ofChange requestCutsSpec)) requestCutsCard

/-- THE TIED CARD OF 'shadowboxlaw31.RequestChunks'. -/
def requestChunksCard : Claim7 := { stood := { row := requestChunksRow, standIns := [], harness := (true, "48a05177c2816304ae20193907aa78ea5bf3c06c577e3e3e520e080529c15cb6"), looks := false }, kinds := [], alts := [], laidByText := true, laidKinds := [.data, .pinned], laidTests := true, laidLooks := .later }
def RequestChunksCardSaid : Prop := Claim7.holds Tryd.pinned (.plain (OpenSpec.ofChange requestChunksSpec)) requestChunksCard

/-- THE SECOND FORM's CARD OF 'shadowboxlaw30.HeaderQuotes'. -/
def headerQuotesUptoCard : Claim7 := { stood := { row := headerQuotesUptoRow, standIns := [], harness := (true, "48a05177c2816304ae20193907aa78ea5bf3c06c577e3e3e520e080529c15cb6"), looks := false }, kinds := [], alts := [], laidByText := true, laidKinds := [.data, .pinned], laidTests := true, laidLooks := .later }
def HeaderQuotesUptoCardSaid : Prop := Claim7.holds Tryd.pinned (.plain (OpenSpec.upto headerQuotesSpec)) headerQuotesUptoCard

/-- THE SECOND FORM's CARD OF 'shadowboxlaw29.QueryParses'. -/
def queryParsesUptoCard : Claim7 := { stood := { row := queryParsesUptoRow, standIns := [], harness := (true, "48a05177c2816304ae20193907aa78ea5bf3c06c577e3e3e520e080529c15cb6"), looks := false }, kinds := [], alts := [], laidByText := true, laidKinds := [.data, .pinned], laidTests := true, laidLooks := .later }
def QueryParsesUptoCardSaid : Prop := Claim7.holds Tryd.pinned (.plain (OpenSpec.upto queryParsesSpec)) queryParsesUptoCard

/-- THE SECOND FORM's CARD OF 'shadowboxlaw30.HeaderLines'. -/
def headerLinesUptoCard : Claim7 := { stood := { row := headerLinesUptoRow, standIns := [], harness := (true, "48a05177c2816304ae20193907aa78ea5bf3c06c577e3e3e520e080529c15cb6"), looks := false }, kinds := [], alts := [], laidByText := true, laidKinds := [.data, .pinned], laidTests := true, laidLooks := .later }
def HeaderLinesUptoCardSaid : Prop := Claim7.holds Tryd.pinned (.plain (OpenSpec.upto headerLinesSpec)) headerLinesUptoCard

/-- THE SECOND FORM's CARD OF 'shadowboxlaw30.HeaderTags'. -/
def headerTagsUptoCard : Claim7 := { stood := { row := headerTagsUptoRow, standIns := [], harness := (true, "48a05177c2816304ae20193907aa78ea5bf3c06c577e3e3e520e080529c15cb6"), looks := false }, kinds := [], alts := [], laidByText := true, laidKinds := [.data, .pinned], laidTests := true, laidLooks := .later }
def HeaderTagsUptoCardSaid : Prop := Claim7.holds Tryd.pinned (.plain (OpenSpec.upto headerTagsSpec)) headerTagsUptoCard

/-- THE SECOND FORM's CARD OF 'shadowboxlaw31.RequestCloses'. -/
def requestClosesUptoCard : Claim7 := { stood := { row := requestClosesUptoRow, standIns := [], harness := (true, "48a05177c2816304ae20193907aa78ea5bf3c06c577e3e3e520e080529c15cb6"), looks := false }, kinds := [], alts := [], laidByText := true, laidKinds := [.data, .pinned], laidTests := true, laidLooks := .later }
def RequestClosesUptoCardSaid : Prop := Claim7.holds Tryd.pinned (.plain (OpenSpec.upto requestClosesSpec)) requestClosesUptoCard

/-- THE SECOND FORM's CARD OF 'shadowboxlaw29.QueryBack'. -/
def queryBackUptoCard : Claim7 := { stood := { row := queryBackUptoRow, standIns := [], harness := (true, "48a05177c2816304ae20193907aa78ea5bf3c06c577e3e3e520e080529c15cb6"), looks := false }, kinds := [], alts := [], laidByText := true, laidKinds := [.data, .pinned], laidTests := true, laidLooks := .later }
def QueryBackUptoCardSaid : Prop := Claim7.holds Tryd.pinned (.plain (OpenSpec.upto queryBackSpec)) queryBackUptoCard

/-- THE SECOND FORM's CARD OF 'shadowboxlaw31.RequestCuts'. -/
def requestCutsUptoCard : Claim7 := { stood := { row := requestCutsUptoRow, standIns := [], harness := (true, "48a05177c2816304ae20193907aa78ea5bf3c06c577e3e3e520e080529c15cb6"), looks := false }, kinds := [], alts := [], laidByText := true, laidKinds := [.data, .pinned], laidTests := true, laidLooks := .later }
def RequestCutsUptoCardSaid : Prop := Claim7.holds Tryd.pinned (.plain (OpenSpec.upto requestCutsSpec)) requestCutsUptoCard

/-- THE SECOND FORM's CARD OF 'shadowboxlaw31.RequestChunks'. -/
def requestChunksUptoCard : Claim7 := { stood := { row := requestChunksUptoRow, standIns := [], harness := (true, "48a05177c2816304ae20193907aa78ea5bf3c06c577e3e3e520e080529c15cb6"), looks := false }, kinds := [], alts := [], laidByText := true, laidKinds := [.data, .pinned], laidTests := true, laidLooks := .later }
def RequestChunksUptoCardSaid : Prop := Claim7.holds Tryd.pinned (.plain (OpenSpec.upto requestChunksSpec)) requestChunksUptoCard
end Rows
end Go.Proofs.YtbdkofondpalpaaDoor
