/-
  NARROWER THAN 'FOR EVERY INPUT', by the rows' own cells (each row's printed sentence says how): XmlinKids: loops.
  DERIVED. THE GIVEN ROWS OF THIS SEAT. 12 by the template 'for every input the law returns true; each argument reads behind the call as it read before'; 0 by the template 'total and deterministic' (their statements: YtcnkndmegnfofaaTotals.lean).
  GIVEN WITH THE SEED: the statements are not yours to turn. If you find one false, say at which input.
  Laid BY PROGRAM, IN A SANDBOX (cutbox-rows.mjs): the forced cells as the released guide's own fill.sh prints them over the translation f26947bfe0efad7b… (all of the seat's roots in one cut). By AI agents, Wed Nov 11 2026. No macro, syntax, notation, axiom, sorry.
-/
import Derived.Test.YtcnkndmegnfofaaChecked
import GoSem.Claim
import GoSem.ClaimJoined
import GoSem.ClaimMapViews
import Derived.JoinedTies
import Derived.KernelRfl
namespace Go.Proofs.Ytcnkndmegnfofaa
/- THE CELL 'sum', in the pinned program and in every row, IS THE sha256 OF THE DUMP (.gsa) THAT YtcnkndmegnfofaaProg.lean LOADS. Nothing in Lean hashes anything: it is a label: what it is worth is what the hold of that sum in a sandbox is worth. -/
noncomputable def Try.pinned : Pinned := { name := "ytcnkndmegnfofaa", sum := "f26947bfe0efad7b55c2bab5c13a43a7e6ca97c0baa375cf8f46c90a96191542", checked := Try.checked }
namespace Rows
def none {H : Type} : Left H := { results := [], args := [] }

/-- 'shadowboxlaw04.HexLower': WHATEVER THE INPUT: true; the input reads as it did. -/
def hexLowerSpec : ChangeSpec := { name := "hexLower", fn := fun _ => fun
  | [d] => { results := [.lit (.bool true)], args := [d] }
  | _ => none }
def hexLowerRow : OpenClaim := { program := "ytcnkndmegnfofaa", sum := "f26947bfe0efad7b55c2bab5c13a43a7e6ca97c0baa375cf8f46c90a96191542", func := "shadowbox/shadowboxlaw04.HexLower", spec := "hexLower", unfollowed := true, recurses := true, apart := false }
def HexLowerSaid : Prop := hexLowerRow.holds Try.pinned (OpenSpec.ofChange hexLowerSpec)

/-- ITS FALSE NEIGHBOUR: 'it returns false'. Refute it at one input. -/
def hexLowerWrong : ChangeSpec := { name := "hexLower", fn := fun _ => fun
  | [d] => { results := [.lit (.bool false)], args := [d] }
  | _ => none }
def HexLowerWrongFalsely : Prop := hexLowerRow.holds Try.pinned (OpenSpec.ofChange hexLowerWrong)

/-- 'shadowboxlaw35.XmlinKids': WHATEVER THE INPUT: true; the input reads as it did. -/
def xmlinKidsSpec : ChangeSpec := { name := "xmlinKids", fn := fun _ => fun
  | [d1, d2] => { results := [.lit (.bool true)], args := [d1, d2] }
  | _ => none }
def xmlinKidsRow : OpenClaim := { program := "ytcnkndmegnfofaa", sum := "f26947bfe0efad7b55c2bab5c13a43a7e6ca97c0baa375cf8f46c90a96191542", func := "shadowbox/shadowboxlaw35.XmlinKids", spec := "xmlinKids", recurses := true, loops := true, apart := false }
def XmlinKidsSaid : Prop := xmlinKidsRow.holds Try.pinned (OpenSpec.ofChange xmlinKidsSpec)

/-- ITS FALSE NEIGHBOUR: 'it returns false'. Refute it at one input. -/
def xmlinKidsWrong : ChangeSpec := { name := "xmlinKids", fn := fun _ => fun
  | [d1, d2] => { results := [.lit (.bool false)], args := [d1, d2] }
  | _ => none }
def XmlinKidsWrongFalsely : Prop := xmlinKidsRow.holds Try.pinned (OpenSpec.ofChange xmlinKidsWrong)

/-- 'shadowboxlaw14.UtfPuts': WHATEVER THE INPUT: true; the input reads as it did. -/
def utfPutsSpec : ChangeSpec := { name := "utfPuts", fn := fun _ => fun
  | [d1, d2] => { results := [.lit (.bool true)], args := [d1, d2] }
  | _ => none }
def utfPutsRow : OpenClaim := { program := "ytcnkndmegnfofaa", sum := "f26947bfe0efad7b55c2bab5c13a43a7e6ca97c0baa375cf8f46c90a96191542", func := "shadowbox/shadowboxlaw14.UtfPuts", spec := "utfPuts", apart := false }
def UtfPutsSaid : Prop := utfPutsRow.holds Try.pinned (OpenSpec.ofChange utfPutsSpec)

/-- ITS FALSE NEIGHBOUR: 'it returns false'. Refute it at one input. -/
def utfPutsWrong : ChangeSpec := { name := "utfPuts", fn := fun _ => fun
  | [d1, d2] => { results := [.lit (.bool false)], args := [d1, d2] }
  | _ => none }
def UtfPutsWrongFalsely : Prop := utfPutsRow.holds Try.pinned (OpenSpec.ofChange utfPutsWrong)

/-- 'shadowboxlaw04.HexNumbers': WHATEVER THE INPUT: true; the input reads as it did. -/
def hexNumbersSpec : ChangeSpec := { name := "hexNumbers", fn := fun _ => fun
  | [d1, d2, d3] => { results := [.lit (.bool true)], args := [d1, d2, d3] }
  | _ => none }
def hexNumbersRow : OpenClaim := { program := "ytcnkndmegnfofaa", sum := "f26947bfe0efad7b55c2bab5c13a43a7e6ca97c0baa375cf8f46c90a96191542", func := "shadowbox/shadowboxlaw04.HexNumbers", spec := "hexNumbers", unfollowed := true, recurses := true, apart := false }
def HexNumbersSaid : Prop := hexNumbersRow.holds Try.pinned (OpenSpec.ofChange hexNumbersSpec)

/-- ITS FALSE NEIGHBOUR: 'it returns false'. Refute it at one input. -/
def hexNumbersWrong : ChangeSpec := { name := "hexNumbers", fn := fun _ => fun
  | [d1, d2, d3] => { results := [.lit (.bool false)], args := [d1, d2, d3] }
  | _ => none }
def HexNumbersWrongFalsely : Prop := hexNumbersRow.holds Try.pinned (OpenSpec.ofChange hexNumbersWrong)

/-- 'shadowboxlaw04.HexTells': WHATEVER THE INPUT: true; the input reads as it did. -/
def hexTellsSpec : ChangeSpec := { name := "hexTells", fn := fun _ => fun
  | [d1, d2] => { results := [.lit (.bool true)], args := [d1, d2] }
  | _ => none }
def hexTellsRow : OpenClaim := { program := "ytcnkndmegnfofaa", sum := "f26947bfe0efad7b55c2bab5c13a43a7e6ca97c0baa375cf8f46c90a96191542", func := "shadowbox/shadowboxlaw04.HexTells", spec := "hexTells", unfollowed := true, recurses := true, apart := false }
def HexTellsSaid : Prop := hexTellsRow.holds Try.pinned (OpenSpec.ofChange hexTellsSpec)

/-- ITS FALSE NEIGHBOUR: 'it returns false'. Refute it at one input. -/
def hexTellsWrong : ChangeSpec := { name := "hexTells", fn := fun _ => fun
  | [d1, d2] => { results := [.lit (.bool false)], args := [d1, d2] }
  | _ => none }
def HexTellsWrongFalsely : Prop := hexTellsRow.holds Try.pinned (OpenSpec.ofChange hexTellsWrong)

/-- 'shadowboxlaw14.UtfBack': WHATEVER THE INPUT: true; the input reads as it did. -/
def utfBackSpec : ChangeSpec := { name := "utfBack", fn := fun _ => fun
  | [d1, d2] => { results := [.lit (.bool true)], args := [d1, d2] }
  | _ => none }
def utfBackRow : OpenClaim := { program := "ytcnkndmegnfofaa", sum := "f26947bfe0efad7b55c2bab5c13a43a7e6ca97c0baa375cf8f46c90a96191542", func := "shadowbox/shadowboxlaw14.UtfBack", spec := "utfBack", unfollowed := true, recurses := true, apart := false }
def UtfBackSaid : Prop := utfBackRow.holds Try.pinned (OpenSpec.ofChange utfBackSpec)

/-- ITS FALSE NEIGHBOUR: 'it returns false'. Refute it at one input. -/
def utfBackWrong : ChangeSpec := { name := "utfBack", fn := fun _ => fun
  | [d1, d2] => { results := [.lit (.bool false)], args := [d1, d2] }
  | _ => none }
def UtfBackWrongFalsely : Prop := utfBackRow.holds Try.pinned (OpenSpec.ofChange utfBackWrong)

/-- 'shadowboxlaw11.Md5Blocks': WHATEVER THE INPUT: true; the input reads as it did. -/
def md5BlocksSpec : ChangeSpec := { name := "md5Blocks", fn := fun _ => fun
  | [d1, d2, d3] => { results := [.lit (.bool true)], args := [d1, d2, d3] }
  | _ => none }
def md5BlocksRow : OpenClaim := { program := "ytcnkndmegnfofaa", sum := "f26947bfe0efad7b55c2bab5c13a43a7e6ca97c0baa375cf8f46c90a96191542", func := "shadowbox/shadowboxlaw11.Md5Blocks", spec := "md5Blocks", apart := false }
def Md5BlocksSaid : Prop := md5BlocksRow.holds Try.pinned (OpenSpec.ofChange md5BlocksSpec)

/-- ITS FALSE NEIGHBOUR: 'it returns false'. Refute it at one input. -/
def md5BlocksWrong : ChangeSpec := { name := "md5Blocks", fn := fun _ => fun
  | [d1, d2, d3] => { results := [.lit (.bool false)], args := [d1, d2, d3] }
  | _ => none }
def Md5BlocksWrongFalsely : Prop := md5BlocksRow.holds Try.pinned (OpenSpec.ofChange md5BlocksWrong)

/-- 'shadowboxlaw04.HexBack': WHATEVER THE INPUT: true; the input reads as it did. -/
def hexBackSpec : ChangeSpec := { name := "hexBack", fn := fun _ => fun
  | [d1, d2] => { results := [.lit (.bool true)], args := [d1, d2] }
  | _ => none }
def hexBackRow : OpenClaim := { program := "ytcnkndmegnfofaa", sum := "f26947bfe0efad7b55c2bab5c13a43a7e6ca97c0baa375cf8f46c90a96191542", func := "shadowbox/shadowboxlaw04.HexBack", spec := "hexBack", unfollowed := true, recurses := true, apart := false }
def HexBackSaid : Prop := hexBackRow.holds Try.pinned (OpenSpec.ofChange hexBackSpec)

/-- ITS FALSE NEIGHBOUR: 'it returns false'. Refute it at one input. -/
def hexBackWrong : ChangeSpec := { name := "hexBack", fn := fun _ => fun
  | [d1, d2] => { results := [.lit (.bool false)], args := [d1, d2] }
  | _ => none }
def HexBackWrongFalsely : Prop := hexBackRow.holds Try.pinned (OpenSpec.ofChange hexBackWrong)

/-- 'shadowboxlaw11.Md5Tells': WHATEVER THE INPUT: true; the input reads as it did. -/
def md5TellsSpec : ChangeSpec := { name := "md5Tells", fn := fun _ => fun
  | [d] => { results := [.lit (.bool true)], args := [d] }
  | _ => none }
def md5TellsRow : OpenClaim := { program := "ytcnkndmegnfofaa", sum := "f26947bfe0efad7b55c2bab5c13a43a7e6ca97c0baa375cf8f46c90a96191542", func := "shadowbox/shadowboxlaw11.Md5Tells", spec := "md5Tells", apart := false }
def Md5TellsSaid : Prop := md5TellsRow.holds Try.pinned (OpenSpec.ofChange md5TellsSpec)

/-- ITS FALSE NEIGHBOUR: 'it returns false'. Refute it at one input. -/
def md5TellsWrong : ChangeSpec := { name := "md5Tells", fn := fun _ => fun
  | [d] => { results := [.lit (.bool false)], args := [d] }
  | _ => none }
def Md5TellsWrongFalsely : Prop := md5TellsRow.holds Try.pinned (OpenSpec.ofChange md5TellsWrong)

/-- 'shadowboxlaw11.Md5Parts': WHATEVER THE INPUT: true; the input reads as it did. -/
def md5PartsSpec : ChangeSpec := { name := "md5Parts", fn := fun _ => fun
  | [d] => { results := [.lit (.bool true)], args := [d] }
  | _ => none }
def md5PartsRow : OpenClaim := { program := "ytcnkndmegnfofaa", sum := "f26947bfe0efad7b55c2bab5c13a43a7e6ca97c0baa375cf8f46c90a96191542", func := "shadowbox/shadowboxlaw11.Md5Parts", spec := "md5Parts", apart := false }
def Md5PartsSaid : Prop := md5PartsRow.holds Try.pinned (OpenSpec.ofChange md5PartsSpec)

/-- ITS FALSE NEIGHBOUR: 'it returns false'. Refute it at one input. -/
def md5PartsWrong : ChangeSpec := { name := "md5Parts", fn := fun _ => fun
  | [d] => { results := [.lit (.bool false)], args := [d] }
  | _ => none }
def Md5PartsWrongFalsely : Prop := md5PartsRow.holds Try.pinned (OpenSpec.ofChange md5PartsWrong)

/-- 'shadowboxlaw14.UtfTells': WHATEVER THE INPUT: true; the input reads as it did. -/
def utfTellsSpec : ChangeSpec := { name := "utfTells", fn := fun _ => fun
  | [d] => { results := [.lit (.bool true)], args := [d] }
  | _ => none }
def utfTellsRow : OpenClaim := { program := "ytcnkndmegnfofaa", sum := "f26947bfe0efad7b55c2bab5c13a43a7e6ca97c0baa375cf8f46c90a96191542", func := "shadowbox/shadowboxlaw14.UtfTells", spec := "utfTells", unfollowed := true, recurses := true, apart := false }
def UtfTellsSaid : Prop := utfTellsRow.holds Try.pinned (OpenSpec.ofChange utfTellsSpec)

/-- ITS FALSE NEIGHBOUR: 'it returns false'. Refute it at one input. -/
def utfTellsWrong : ChangeSpec := { name := "utfTells", fn := fun _ => fun
  | [d] => { results := [.lit (.bool false)], args := [d] }
  | _ => none }
def UtfTellsWrongFalsely : Prop := utfTellsRow.holds Try.pinned (OpenSpec.ofChange utfTellsWrong)

/-- 'shadowboxlaw14.UtfClean': WHATEVER THE INPUT: true; the input reads as it did. -/
def utfCleanSpec : ChangeSpec := { name := "utfClean", fn := fun _ => fun
  | [d] => { results := [.lit (.bool true)], args := [d] }
  | _ => none }
def utfCleanRow : OpenClaim := { program := "ytcnkndmegnfofaa", sum := "f26947bfe0efad7b55c2bab5c13a43a7e6ca97c0baa375cf8f46c90a96191542", func := "shadowbox/shadowboxlaw14.UtfClean", spec := "utfClean", unfollowed := true, recurses := true, apart := false }
def UtfCleanSaid : Prop := utfCleanRow.holds Try.pinned (OpenSpec.ofChange utfCleanSpec)

/-- ITS FALSE NEIGHBOUR: 'it returns false'. Refute it at one input. -/
def utfCleanWrong : ChangeSpec := { name := "utfClean", fn := fun _ => fun
  | [d] => { results := [.lit (.bool false)], args := [d] }
  | _ => none }
def UtfCleanWrongFalsely : Prop := utfCleanRow.holds Try.pinned (OpenSpec.ofChange utfCleanWrong)

/- THE SECOND FORM. 'bulk': how many values and letters a reading holds, each counted each time it is reached (what is shared counts as often as it is met; a slice's spare places count too). A statement '..UptoSaid' is the law's where the arguments, and the package variables that the reading takes, are together of bulk at most 1048576: NARROWER than '..Said'. Prove '..Said' where nothing that the law and all that it calls make is longer than what came in: it says more and counts as full. Else prove '..UptoSaid'. A law counts once. -/
mutual
def uptoBulk {H : Type} : DataW H → Nat
  | .lit (.string bytes) => bytes.length + 1
  | .lit _ => 1
  | .nil => 1
  | .ptr d => uptoBulk d + 1
  | .slice elems spare => uptoBulkAll elems + uptoBulkAll spare + 1
  | .agg parts => uptoBulkAll parts + 1
  | .iface _ d => uptoBulk d + 1
  | .map entries => uptoBulkEntries entries + 1
  | .held _ => 1
def uptoBulkAll {H : Type} : List (DataW H) → Nat
  | [] => 0
  | d :: r => uptoBulk d + uptoBulkAll r
def uptoBulkEntries {H : Type} : List (Lit × DataW H) → Nat
  | [] => 0
  | x :: r => uptoBulkEntry x + uptoBulkEntries r
def uptoBulkEntry {H : Type} : Lit × DataW H → Nat
  | (.string bytes, d) => bytes.length + uptoBulk d + 1
  | (_, d) => uptoBulk d + 1
 end
def uptoSmall : (H : Type) → List (DataW H) → Bool := fun _ ds => decide (uptoBulkAll ds ≤ 1048576)
def OpenSpec.upto (s : _root_.Go.ChangeSpec) : _root_.Go.OpenSpec := { _root_.Go.OpenSpec.ofChange s with cond := some uptoSmall }

/-- 'shadowboxlaw04.HexLower', WHERE WHAT IT READS IS OF BULK AT MOST 1048576: true; the input reads as it did. -/
def hexLowerUptoRow : OpenClaim := { program := "ytcnkndmegnfofaa", sum := "f26947bfe0efad7b55c2bab5c13a43a7e6ca97c0baa375cf8f46c90a96191542", func := "shadowbox/shadowboxlaw04.HexLower", spec := "hexLower", unfollowed := true, recurses := true, apart := false, narrowed := true }
def HexLowerUptoSaid : Prop := hexLowerUptoRow.holds Try.pinned (OpenSpec.upto hexLowerSpec)

/-- 'shadowboxlaw35.XmlinKids', WHERE WHAT IT READS IS OF BULK AT MOST 1048576: true; the input reads as it did. -/
def xmlinKidsUptoRow : OpenClaim := { program := "ytcnkndmegnfofaa", sum := "f26947bfe0efad7b55c2bab5c13a43a7e6ca97c0baa375cf8f46c90a96191542", func := "shadowbox/shadowboxlaw35.XmlinKids", spec := "xmlinKids", recurses := true, loops := true, apart := false, narrowed := true }
def XmlinKidsUptoSaid : Prop := xmlinKidsUptoRow.holds Try.pinned (OpenSpec.upto xmlinKidsSpec)

/-- 'shadowboxlaw14.UtfPuts', WHERE WHAT IT READS IS OF BULK AT MOST 1048576: true; the input reads as it did. -/
def utfPutsUptoRow : OpenClaim := { program := "ytcnkndmegnfofaa", sum := "f26947bfe0efad7b55c2bab5c13a43a7e6ca97c0baa375cf8f46c90a96191542", func := "shadowbox/shadowboxlaw14.UtfPuts", spec := "utfPuts", apart := false, narrowed := true }
def UtfPutsUptoSaid : Prop := utfPutsUptoRow.holds Try.pinned (OpenSpec.upto utfPutsSpec)

/-- 'shadowboxlaw04.HexNumbers', WHERE WHAT IT READS IS OF BULK AT MOST 1048576: true; the input reads as it did. -/
def hexNumbersUptoRow : OpenClaim := { program := "ytcnkndmegnfofaa", sum := "f26947bfe0efad7b55c2bab5c13a43a7e6ca97c0baa375cf8f46c90a96191542", func := "shadowbox/shadowboxlaw04.HexNumbers", spec := "hexNumbers", unfollowed := true, recurses := true, apart := false, narrowed := true }
def HexNumbersUptoSaid : Prop := hexNumbersUptoRow.holds Try.pinned (OpenSpec.upto hexNumbersSpec)

/-- 'shadowboxlaw04.HexTells', WHERE WHAT IT READS IS OF BULK AT MOST 1048576: true; the input reads as it did. -/
def hexTellsUptoRow : OpenClaim := { program := "ytcnkndmegnfofaa", sum := "f26947bfe0efad7b55c2bab5c13a43a7e6ca97c0baa375cf8f46c90a96191542", func := "shadowbox/shadowboxlaw04.HexTells", spec := "hexTells", unfollowed := true, recurses := true, apart := false, narrowed := true }
def HexTellsUptoSaid : Prop := hexTellsUptoRow.holds Try.pinned (OpenSpec.upto hexTellsSpec)

/-- 'shadowboxlaw14.UtfBack', WHERE WHAT IT READS IS OF BULK AT MOST 1048576: true; the input reads as it did. -/
def utfBackUptoRow : OpenClaim := { program := "ytcnkndmegnfofaa", sum := "f26947bfe0efad7b55c2bab5c13a43a7e6ca97c0baa375cf8f46c90a96191542", func := "shadowbox/shadowboxlaw14.UtfBack", spec := "utfBack", unfollowed := true, recurses := true, apart := false, narrowed := true }
def UtfBackUptoSaid : Prop := utfBackUptoRow.holds Try.pinned (OpenSpec.upto utfBackSpec)

/-- 'shadowboxlaw11.Md5Blocks', WHERE WHAT IT READS IS OF BULK AT MOST 1048576: true; the input reads as it did. -/
def md5BlocksUptoRow : OpenClaim := { program := "ytcnkndmegnfofaa", sum := "f26947bfe0efad7b55c2bab5c13a43a7e6ca97c0baa375cf8f46c90a96191542", func := "shadowbox/shadowboxlaw11.Md5Blocks", spec := "md5Blocks", apart := false, narrowed := true }
def Md5BlocksUptoSaid : Prop := md5BlocksUptoRow.holds Try.pinned (OpenSpec.upto md5BlocksSpec)

/-- 'shadowboxlaw04.HexBack', WHERE WHAT IT READS IS OF BULK AT MOST 1048576: true; the input reads as it did. -/
def hexBackUptoRow : OpenClaim := { program := "ytcnkndmegnfofaa", sum := "f26947bfe0efad7b55c2bab5c13a43a7e6ca97c0baa375cf8f46c90a96191542", func := "shadowbox/shadowboxlaw04.HexBack", spec := "hexBack", unfollowed := true, recurses := true, apart := false, narrowed := true }
def HexBackUptoSaid : Prop := hexBackUptoRow.holds Try.pinned (OpenSpec.upto hexBackSpec)

/-- 'shadowboxlaw11.Md5Tells', WHERE WHAT IT READS IS OF BULK AT MOST 1048576: true; the input reads as it did. -/
def md5TellsUptoRow : OpenClaim := { program := "ytcnkndmegnfofaa", sum := "f26947bfe0efad7b55c2bab5c13a43a7e6ca97c0baa375cf8f46c90a96191542", func := "shadowbox/shadowboxlaw11.Md5Tells", spec := "md5Tells", apart := false, narrowed := true }
def Md5TellsUptoSaid : Prop := md5TellsUptoRow.holds Try.pinned (OpenSpec.upto md5TellsSpec)

/-- 'shadowboxlaw11.Md5Parts', WHERE WHAT IT READS IS OF BULK AT MOST 1048576: true; the input reads as it did. -/
def md5PartsUptoRow : OpenClaim := { program := "ytcnkndmegnfofaa", sum := "f26947bfe0efad7b55c2bab5c13a43a7e6ca97c0baa375cf8f46c90a96191542", func := "shadowbox/shadowboxlaw11.Md5Parts", spec := "md5Parts", apart := false, narrowed := true }
def Md5PartsUptoSaid : Prop := md5PartsUptoRow.holds Try.pinned (OpenSpec.upto md5PartsSpec)

/-- 'shadowboxlaw14.UtfTells', WHERE WHAT IT READS IS OF BULK AT MOST 1048576: true; the input reads as it did. -/
def utfTellsUptoRow : OpenClaim := { program := "ytcnkndmegnfofaa", sum := "f26947bfe0efad7b55c2bab5c13a43a7e6ca97c0baa375cf8f46c90a96191542", func := "shadowbox/shadowboxlaw14.UtfTells", spec := "utfTells", unfollowed := true, recurses := true, apart := false, narrowed := true }
def UtfTellsUptoSaid : Prop := utfTellsUptoRow.holds Try.pinned (OpenSpec.upto utfTellsSpec)

/-- 'shadowboxlaw14.UtfClean', WHERE WHAT IT READS IS OF BULK AT MOST 1048576: true; the input reads as it did. -/
def utfCleanUptoRow : OpenClaim := { program := "ytcnkndmegnfofaa", sum := "f26947bfe0efad7b55c2bab5c13a43a7e6ca97c0baa375cf8f46c90a96191542", func := "shadowbox/shadowboxlaw14.UtfClean", spec := "utfClean", unfollowed := true, recurses := true, apart := false, narrowed := true }
def UtfCleanUptoSaid : Prop := utfCleanUptoRow.holds Try.pinned (OpenSpec.upto utfCleanSpec)

end Rows
end Go.Proofs.Ytcnkndmegnfofaa
