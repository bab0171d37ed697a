/-
  DERIVED. GIVEN WITH THE SEED: THE CARDS: each row of YtdaojihnaajfeaaDoorRows.lean that lists a variable, with what it lists TIED to the program's text (the seventh form; the later family's looks); each row that meets fmt, with fmt's text TOLD by the authors' own Lean function (tested against real Go, not proved from fmt's source: count such statements apart). THE CARD IS WHAT COUNTS. Prove the row's statement (the work); the ties are given (YtdaojihnaajfeaaDoorTie.lean); close each card by the builder's one call (the guide's Derived/Test/ToyasCard.lean, 'card_holds'). Laid BY PROGRAM, IN A SANDBOX (cutbox-door.mjs). By AI agents, Wed Nov 11 2026. No macro, syntax, notation, axiom, sorry.
-/
import Derived.Test.YtdaojihnaajfeaaDoorRows
import GoSem.ClaimSeven
namespace Go.Proofs.YtdaojihnaajfeaaDoor
namespace Rows

/-- THE TIED CARD OF 'shadowboxlaw29.QueryParses'. -/
def queryParsesCard : Claim7 := { stood := { row := queryParsesRow, standIns := [], harness := (true, "ab0fcd7b148f43f0b787e0edd2a00380ea616befb36f3a8a87e567b9bc545811"), looks := false }, kinds := [], alts := [], laidByText := true, laidKinds := [.data, .pinned], laidTests := true, laidLooks := .later }
def QueryParsesCardSaid : Prop := Claim7.holds Tryd.pinned (.plain (OpenSpec.ofChange queryParsesSpec)) queryParsesCard

/-- THE TIED CARD OF 'shadowboxlaw29.QueryBack'. -/
def queryBackCard : Claim7 := { stood := { row := queryBackRow, standIns := [], harness := (true, "ab0fcd7b148f43f0b787e0edd2a00380ea616befb36f3a8a87e567b9bc545811"), looks := false }, kinds := [], alts := [], laidByText := true, laidKinds := [.data, .pinned], laidTests := true, laidLooks := .later }
def QueryBackCardSaid : Prop := Claim7.holds Tryd.pinned (.plain (OpenSpec.ofChange queryBackSpec)) queryBackCard

/-- THE TIED CARD OF 'shadowboxlaw31.RequestCuts'. -/
def requestCutsCard : Claim7 := { stood := { row := requestCutsRow, standIns := [], harness := (true, "ab0fcd7b148f43f0b787e0edd2a00380ea616befb36f3a8a87e567b9bc545811"), looks := false }, kinds := [], alts := [], laidByText := true, laidKinds := [.data, .pinned], laidTests := true, laidLooks := .later }
def RequestCutsCardSaid : Prop := Claim7.holds Tryd.pinned (.plain (OpenSpec.ofChange requestCutsSpec)) requestCutsCard

/-- THE TIED CARD OF 'shadowboxlaw31.RequestChunks'. -/
def requestChunksCard : Claim7 := { stood := { row := requestChunksRow, standIns := [], harness := (true, "ab0fcd7b148f43f0b787e0edd2a00380ea616befb36f3a8a87e567b9bc545811"), looks := false }, kinds := [], alts := [], laidByText := true, laidKinds := [.data, .pinned], laidTests := true, laidLooks := .later }
def RequestChunksCardSaid : Prop := Claim7.holds Tryd.pinned (.plain (OpenSpec.ofChange requestChunksSpec)) requestChunksCard

/-- THE SECOND FORM's CARD OF 'shadowboxlaw29.QueryParses'. -/
def queryParsesUptoCard : Claim7 := { stood := { row := queryParsesUptoRow, standIns := [], harness := (true, "ab0fcd7b148f43f0b787e0edd2a00380ea616befb36f3a8a87e567b9bc545811"), looks := false }, kinds := [], alts := [], laidByText := true, laidKinds := [.data, .pinned], laidTests := true, laidLooks := .later }
def QueryParsesUptoCardSaid : Prop := Claim7.holds Tryd.pinned (.plain (OpenSpec.upto queryParsesSpec)) queryParsesUptoCard

/-- THE SECOND FORM's CARD OF 'shadowboxlaw29.QueryBack'. -/
def queryBackUptoCard : Claim7 := { stood := { row := queryBackUptoRow, standIns := [], harness := (true, "ab0fcd7b148f43f0b787e0edd2a00380ea616befb36f3a8a87e567b9bc545811"), looks := false }, kinds := [], alts := [], laidByText := true, laidKinds := [.data, .pinned], laidTests := true, laidLooks := .later }
def QueryBackUptoCardSaid : Prop := Claim7.holds Tryd.pinned (.plain (OpenSpec.upto queryBackSpec)) queryBackUptoCard

/-- THE SECOND FORM's CARD OF 'shadowboxlaw31.RequestCuts'. -/
def requestCutsUptoCard : Claim7 := { stood := { row := requestCutsUptoRow, standIns := [], harness := (true, "ab0fcd7b148f43f0b787e0edd2a00380ea616befb36f3a8a87e567b9bc545811"), looks := false }, kinds := [], alts := [], laidByText := true, laidKinds := [.data, .pinned], laidTests := true, laidLooks := .later }
def RequestCutsUptoCardSaid : Prop := Claim7.holds Tryd.pinned (.plain (OpenSpec.upto requestCutsSpec)) requestCutsUptoCard

/-- THE SECOND FORM's CARD OF 'shadowboxlaw31.RequestChunks'. -/
def requestChunksUptoCard : Claim7 := { stood := { row := requestChunksUptoRow, standIns := [], harness := (true, "ab0fcd7b148f43f0b787e0edd2a00380ea616befb36f3a8a87e567b9bc545811"), looks := false }, kinds := [], alts := [], laidByText := true, laidKinds := [.data, .pinned], laidTests := true, laidLooks := .later }
def RequestChunksUptoCardSaid : Prop := Claim7.holds Tryd.pinned (.plain (OpenSpec.upto requestChunksSpec)) requestChunksUptoCard
end Rows
end Go.Proofs.YtdaojihnaajfeaaDoor
