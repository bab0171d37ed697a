/-
  NARROWER THAN 'FOR EVERY INPUT', by the rows' own cells (each row's printed sentence says how): XmlinKids: loops · XmloutWrites: loops · XmloutCounts: loops.
  DERIVED. THE GIVEN ROWS OF THIS SEAT. 10 by the template 'for every input the law returns true; each argument reads behind the call as it read before'; 0 by the template 'total and deterministic' (their statements: YtaiapalhdejngaaTotals.lean).
  GIVEN WITH THE SEED: the statements are not yours to turn. If you find one false, say at which input.
  Laid BY PROGRAM, IN A SANDBOX (cutbox-rows.mjs): the forced cells as the released guide's own fill.sh prints them over the translation 94ffbf6969d4639a… (all of the seat's roots in one cut). By AI agents, Wed Nov 11 2026. No macro, syntax, notation, axiom, sorry.
-/
import Derived.Test.YtaiapalhdejngaaChecked
import GoSem.Claim
import GoSem.ClaimJoined
import GoSem.ClaimMapViews
import Derived.JoinedTies
import Derived.KernelRfl
namespace Go.Proofs.Ytaiapalhdejngaa
/- THE CELL 'sum', in the pinned program and in every row, IS THE sha256 OF THE DUMP (.gsa) THAT YtaiapalhdejngaaProg.lean LOADS. Nothing in Lean hashes anything: it is a label: what it is worth is what the hold of that sum in a sandbox is worth. -/
noncomputable def Try.pinned : Pinned := { name := "ytaiapalhdejngaa", sum := "94ffbf6969d4639a7c782dfaa869585573324275c9b98437c5891673646bbe4a", checked := Try.checked }
namespace Rows
def none {H : Type} : Left H := { results := [], args := [] }

/-- 'shadowboxlaw35.XmlinKids': WHATEVER THE INPUT: true; the input reads as it did. -/
def xmlinKidsSpec : ChangeSpec := { name := "xmlinKids", fn := fun _ => fun
  | [d1, d2] => { results := [.lit (.bool true)], args := [d1, d2] }
  | _ => none }
def xmlinKidsRow : OpenClaim := { program := "ytaiapalhdejngaa", sum := "94ffbf6969d4639a7c782dfaa869585573324275c9b98437c5891673646bbe4a", func := "shadowbox/shadowboxlaw35.XmlinKids", spec := "xmlinKids", recurses := true, loops := true, apart := false }
def XmlinKidsSaid : Prop := xmlinKidsRow.holds Try.pinned (OpenSpec.ofChange xmlinKidsSpec)

/-- ITS FALSE NEIGHBOUR: 'it returns false'. Refute it at one input. -/
def xmlinKidsWrong : ChangeSpec := { name := "xmlinKids", fn := fun _ => fun
  | [d1, d2] => { results := [.lit (.bool false)], args := [d1, d2] }
  | _ => none }
def XmlinKidsWrongFalsely : Prop := xmlinKidsRow.holds Try.pinned (OpenSpec.ofChange xmlinKidsWrong)

/-- 'shadowboxlaw34.XmloutPlain': WHATEVER THE INPUT: true; the input reads as it did. -/
def xmloutPlainSpec : ChangeSpec := { name := "xmloutPlain", fn := fun _ => fun
  | [d] => { results := [.lit (.bool true)], args := [d] }
  | _ => none }
def xmloutPlainRow : OpenClaim := { program := "ytaiapalhdejngaa", sum := "94ffbf6969d4639a7c782dfaa869585573324275c9b98437c5891673646bbe4a", func := "shadowbox/shadowboxlaw34.XmloutPlain", spec := "xmloutPlain", inPlace := ["internal/abi.NoEscape"], unfollowed := true, recurses := true, apart := false }
def XmloutPlainSaid : Prop := xmloutPlainRow.holds Try.pinned (OpenSpec.ofChange xmloutPlainSpec)

/-- ITS FALSE NEIGHBOUR: 'it returns false'. Refute it at one input. -/
def xmloutPlainWrong : ChangeSpec := { name := "xmloutPlain", fn := fun _ => fun
  | [d] => { results := [.lit (.bool false)], args := [d] }
  | _ => none }
def XmloutPlainWrongFalsely : Prop := xmloutPlainRow.holds Try.pinned (OpenSpec.ofChange xmloutPlainWrong)

/-- 'shadowboxlaw37.EtagParts': WHATEVER THE INPUT: true; the input reads as it did. -/
def etagPartsSpec : ChangeSpec := { name := "etagParts", fn := fun _ => fun
  | [d] => { results := [.lit (.bool true)], args := [d] }
  | _ => none }
def etagPartsRow : OpenClaim := { program := "ytaiapalhdejngaa", sum := "94ffbf6969d4639a7c782dfaa869585573324275c9b98437c5891673646bbe4a", func := "shadowbox/shadowboxlaw37.EtagParts", spec := "etagParts", unfollowed := true, recurses := true, apart := false }
def EtagPartsSaid : Prop := etagPartsRow.holds Try.pinned (OpenSpec.ofChange etagPartsSpec)

/-- ITS FALSE NEIGHBOUR: 'it returns false'. Refute it at one input. -/
def etagPartsWrong : ChangeSpec := { name := "etagParts", fn := fun _ => fun
  | [d] => { results := [.lit (.bool false)], args := [d] }
  | _ => none }
def EtagPartsWrongFalsely : Prop := etagPartsRow.holds Try.pinned (OpenSpec.ofChange etagPartsWrong)

/-- 'shadowboxlaw32.SliceWithin': WHATEVER THE INPUT: true; the input reads as it did. -/
def sliceWithinSpec : ChangeSpec := { name := "sliceWithin", fn := fun _ => fun
  | [d1, d2, d3] => { results := [.lit (.bool true)], args := [d1, d2, d3] }
  | _ => none }
def sliceWithinRow : OpenClaim := { program := "ytaiapalhdejngaa", sum := "94ffbf6969d4639a7c782dfaa869585573324275c9b98437c5891673646bbe4a", func := "shadowbox/shadowboxlaw32.SliceWithin", spec := "sliceWithin", inPlace := ["internal/bytealg.IndexByteString", "internal/bytealg.IndexString"], unfollowed := true, recurses := true, named := ["internal/bytealg.MaxLen"], apart := false }
def SliceWithinSaid : Prop := sliceWithinRow.holds Try.pinned (OpenSpec.ofChange sliceWithinSpec)

/-- ITS FALSE NEIGHBOUR: 'it returns false'. Refute it at one input. -/
def sliceWithinWrong : ChangeSpec := { name := "sliceWithin", fn := fun _ => fun
  | [d1, d2, d3] => { results := [.lit (.bool false)], args := [d1, d2, d3] }
  | _ => none }
def SliceWithinWrongFalsely : Prop := sliceWithinRow.holds Try.pinned (OpenSpec.ofChange sliceWithinWrong)

/-- 'shadowboxlaw32.SliceRanges': WHATEVER THE INPUT: true; the input reads as it did. -/
def sliceRangesSpec : ChangeSpec := { name := "sliceRanges", fn := fun _ => fun
  | [d1, d2] => { results := [.lit (.bool true)], args := [d1, d2] }
  | _ => none }
def sliceRangesRow : OpenClaim := { program := "ytaiapalhdejngaa", sum := "94ffbf6969d4639a7c782dfaa869585573324275c9b98437c5891673646bbe4a", func := "shadowbox/shadowboxlaw32.SliceRanges", spec := "sliceRanges", inPlace := ["internal/bytealg.IndexByteString", "internal/bytealg.IndexString"], unfollowed := true, recurses := true, named := ["internal/bytealg.MaxLen"], apart := false }
def SliceRangesSaid : Prop := sliceRangesRow.holds Try.pinned (OpenSpec.ofChange sliceRangesSpec)

/-- ITS FALSE NEIGHBOUR: 'it returns false'. Refute it at one input. -/
def sliceRangesWrong : ChangeSpec := { name := "sliceRanges", fn := fun _ => fun
  | [d1, d2] => { results := [.lit (.bool false)], args := [d1, d2] }
  | _ => none }
def SliceRangesWrongFalsely : Prop := sliceRangesRow.holds Try.pinned (OpenSpec.ofChange sliceRangesWrong)

/-- 'shadowboxlaw34.XmloutWrites': WHATEVER THE INPUT: true; the input reads as it did. -/
def xmloutWritesSpec : ChangeSpec := { name := "xmloutWrites", fn := fun _ => fun
  | [d1, d2] => { results := [.lit (.bool true)], args := [d1, d2] }
  | _ => none }
def xmloutWritesRow : OpenClaim := { program := "ytaiapalhdejngaa", sum := "94ffbf6969d4639a7c782dfaa869585573324275c9b98437c5891673646bbe4a", func := "shadowbox/shadowboxlaw34.XmloutWrites", spec := "xmloutWrites", inPlace := ["internal/abi.NoEscape"], unfollowed := true, recurses := true, loops := true, apart := false }
def XmloutWritesSaid : Prop := xmloutWritesRow.holds Try.pinned (OpenSpec.ofChange xmloutWritesSpec)

/-- ITS FALSE NEIGHBOUR: 'it returns false'. Refute it at one input. -/
def xmloutWritesWrong : ChangeSpec := { name := "xmloutWrites", fn := fun _ => fun
  | [d1, d2] => { results := [.lit (.bool false)], args := [d1, d2] }
  | _ => none }
def XmloutWritesWrongFalsely : Prop := xmloutWritesRow.holds Try.pinned (OpenSpec.ofChange xmloutWritesWrong)

/-- 'shadowboxlaw34.XmloutCounts': WHATEVER THE INPUT: true; the input reads as it did. -/
def xmloutCountsSpec : ChangeSpec := { name := "xmloutCounts", fn := fun _ => fun
  | [d] => { results := [.lit (.bool true)], args := [d] }
  | _ => none }
def xmloutCountsRow : OpenClaim := { program := "ytaiapalhdejngaa", sum := "94ffbf6969d4639a7c782dfaa869585573324275c9b98437c5891673646bbe4a", func := "shadowbox/shadowboxlaw34.XmloutCounts", spec := "xmloutCounts", inPlace := ["internal/abi.NoEscape"], unfollowed := true, recurses := true, loops := true, apart := false }
def XmloutCountsSaid : Prop := xmloutCountsRow.holds Try.pinned (OpenSpec.ofChange xmloutCountsSpec)

/-- ITS FALSE NEIGHBOUR: 'it returns false'. Refute it at one input. -/
def xmloutCountsWrong : ChangeSpec := { name := "xmloutCounts", fn := fun _ => fun
  | [d] => { results := [.lit (.bool false)], args := [d] }
  | _ => none }
def XmloutCountsWrongFalsely : Prop := xmloutCountsRow.holds Try.pinned (OpenSpec.ofChange xmloutCountsWrong)

/-- 'shadowboxlaw35.XmlinTexts': WHATEVER THE INPUT: true; the input reads as it did. -/
def xmlinTextsSpec : ChangeSpec := { name := "xmlinTexts", fn := fun _ => fun
  | [d] => { results := [.lit (.bool true)], args := [d] }
  | _ => none }
def xmlinTextsRow : OpenClaim := { program := "ytaiapalhdejngaa", sum := "94ffbf6969d4639a7c782dfaa869585573324275c9b98437c5891673646bbe4a", func := "shadowbox/shadowboxlaw35.XmlinTexts", spec := "xmlinTexts", inPlace := ["internal/abi.NoEscape", "internal/bytealg.IndexByteString", "internal/bytealg.IndexString"], unfollowed := true, recurses := true, named := ["internal/bytealg.MaxLen"], apart := false }
def XmlinTextsSaid : Prop := xmlinTextsRow.holds Try.pinned (OpenSpec.ofChange xmlinTextsSpec)

/-- ITS FALSE NEIGHBOUR: 'it returns false'. Refute it at one input. -/
def xmlinTextsWrong : ChangeSpec := { name := "xmlinTexts", fn := fun _ => fun
  | [d] => { results := [.lit (.bool false)], args := [d] }
  | _ => none }
def XmlinTextsWrongFalsely : Prop := xmlinTextsRow.holds Try.pinned (OpenSpec.ofChange xmlinTextsWrong)

/-- 'shadowboxlaw37.EtagTells': WHATEVER THE INPUT: true; the input reads as it did. -/
def etagTellsSpec : ChangeSpec := { name := "etagTells", fn := fun _ => fun
  | [d1, d2] => { results := [.lit (.bool true)], args := [d1, d2] }
  | _ => none }
def etagTellsRow : OpenClaim := { program := "ytaiapalhdejngaa", sum := "94ffbf6969d4639a7c782dfaa869585573324275c9b98437c5891673646bbe4a", func := "shadowbox/shadowboxlaw37.EtagTells", spec := "etagTells", inPlace := ["internal/bytealg.IndexByteString", "internal/bytealg.IndexString"], unfollowed := true, recurses := true, named := ["internal/bytealg.MaxLen"], apart := false }
def EtagTellsSaid : Prop := etagTellsRow.holds Try.pinned (OpenSpec.ofChange etagTellsSpec)

/-- ITS FALSE NEIGHBOUR: 'it returns false'. Refute it at one input. -/
def etagTellsWrong : ChangeSpec := { name := "etagTells", fn := fun _ => fun
  | [d1, d2] => { results := [.lit (.bool false)], args := [d1, d2] }
  | _ => none }
def EtagTellsWrongFalsely : Prop := etagTellsRow.holds Try.pinned (OpenSpec.ofChange etagTellsWrong)

/-- 'shadowboxlaw37.EtagCounts': WHATEVER THE INPUT: true; the input reads as it did. -/
def etagCountsSpec : ChangeSpec := { name := "etagCounts", fn := fun _ => fun
  | [d] => { results := [.lit (.bool true)], args := [d] }
  | _ => none }
def etagCountsRow : OpenClaim := { program := "ytaiapalhdejngaa", sum := "94ffbf6969d4639a7c782dfaa869585573324275c9b98437c5891673646bbe4a", func := "shadowbox/shadowboxlaw37.EtagCounts", spec := "etagCounts", inPlace := ["internal/bytealg.IndexByteString", "internal/bytealg.IndexString"], unfollowed := true, recurses := true, named := ["internal/bytealg.MaxLen"], apart := false }
def EtagCountsSaid : Prop := etagCountsRow.holds Try.pinned (OpenSpec.ofChange etagCountsSpec)

/-- ITS FALSE NEIGHBOUR: 'it returns false'. Refute it at one input. -/
def etagCountsWrong : ChangeSpec := { name := "etagCounts", fn := fun _ => fun
  | [d] => { results := [.lit (.bool false)], args := [d] }
  | _ => none }
def EtagCountsWrongFalsely : Prop := etagCountsRow.holds Try.pinned (OpenSpec.ofChange etagCountsWrong)

/- THE SECOND FORM. 'bulk': how many values and letters a reading holds, each counted each time it is reached (what is shared counts as often as it is met; a slice's spare places count too). A statement '..UptoSaid' is the law's where the arguments, and the package variables that the reading takes, are together of bulk at most 1048576: NARROWER than '..Said'. Prove '..Said' where nothing that the law and all that it calls make is longer than what came in: it says more and counts as full. Else prove '..UptoSaid'. A law counts once. -/
mutual
def uptoBulk {H : Type} : DataW H → Nat
  | .lit (.string bytes) => bytes.length + 1
  | .lit _ => 1
  | .nil => 1
  | .ptr d => uptoBulk d + 1
  | .slice elems spare => uptoBulkAll elems + uptoBulkAll spare + 1
  | .agg parts => uptoBulkAll parts + 1
  | .iface _ d => uptoBulk d + 1
  | .map entries => uptoBulkEntries entries + 1
  | .held _ => 1
def uptoBulkAll {H : Type} : List (DataW H) → Nat
  | [] => 0
  | d :: r => uptoBulk d + uptoBulkAll r
def uptoBulkEntries {H : Type} : List (Lit × DataW H) → Nat
  | [] => 0
  | x :: r => uptoBulkEntry x + uptoBulkEntries r
def uptoBulkEntry {H : Type} : Lit × DataW H → Nat
  | (.string bytes, d) => bytes.length + uptoBulk d + 1
  | (_, d) => uptoBulk d + 1
 end
def uptoSmall : (H : Type) → List (DataW H) → Bool := fun _ ds => decide (uptoBulkAll ds ≤ 1048576)
def OpenSpec.upto (s : _root_.Go.ChangeSpec) : _root_.Go.OpenSpec := { _root_.Go.OpenSpec.ofChange s with cond := some uptoSmall }

/-- 'shadowboxlaw35.XmlinKids', WHERE WHAT IT READS IS OF BULK AT MOST 1048576: true; the input reads as it did. -/
def xmlinKidsUptoRow : OpenClaim := { program := "ytaiapalhdejngaa", sum := "94ffbf6969d4639a7c782dfaa869585573324275c9b98437c5891673646bbe4a", func := "shadowbox/shadowboxlaw35.XmlinKids", spec := "xmlinKids", recurses := true, loops := true, apart := false, narrowed := true }
def XmlinKidsUptoSaid : Prop := xmlinKidsUptoRow.holds Try.pinned (OpenSpec.upto xmlinKidsSpec)

/-- 'shadowboxlaw34.XmloutPlain', WHERE WHAT IT READS IS OF BULK AT MOST 1048576: true; the input reads as it did. -/
def xmloutPlainUptoRow : OpenClaim := { program := "ytaiapalhdejngaa", sum := "94ffbf6969d4639a7c782dfaa869585573324275c9b98437c5891673646bbe4a", func := "shadowbox/shadowboxlaw34.XmloutPlain", spec := "xmloutPlain", inPlace := ["internal/abi.NoEscape"], unfollowed := true, recurses := true, apart := false, narrowed := true }
def XmloutPlainUptoSaid : Prop := xmloutPlainUptoRow.holds Try.pinned (OpenSpec.upto xmloutPlainSpec)

/-- 'shadowboxlaw37.EtagParts', WHERE WHAT IT READS IS OF BULK AT MOST 1048576: true; the input reads as it did. -/
def etagPartsUptoRow : OpenClaim := { program := "ytaiapalhdejngaa", sum := "94ffbf6969d4639a7c782dfaa869585573324275c9b98437c5891673646bbe4a", func := "shadowbox/shadowboxlaw37.EtagParts", spec := "etagParts", unfollowed := true, recurses := true, apart := false, narrowed := true }
def EtagPartsUptoSaid : Prop := etagPartsUptoRow.holds Try.pinned (OpenSpec.upto etagPartsSpec)

/-- 'shadowboxlaw32.SliceWithin', WHERE WHAT IT READS IS OF BULK AT MOST 1048576: true; the input reads as it did. -/
def sliceWithinUptoRow : OpenClaim := { program := "ytaiapalhdejngaa", sum := "94ffbf6969d4639a7c782dfaa869585573324275c9b98437c5891673646bbe4a", func := "shadowbox/shadowboxlaw32.SliceWithin", spec := "sliceWithin", inPlace := ["internal/bytealg.IndexByteString", "internal/bytealg.IndexString"], unfollowed := true, recurses := true, named := ["internal/bytealg.MaxLen"], apart := false, narrowed := true }
def SliceWithinUptoSaid : Prop := sliceWithinUptoRow.holds Try.pinned (OpenSpec.upto sliceWithinSpec)

/-- 'shadowboxlaw32.SliceRanges', WHERE WHAT IT READS IS OF BULK AT MOST 1048576: true; the input reads as it did. -/
def sliceRangesUptoRow : OpenClaim := { program := "ytaiapalhdejngaa", sum := "94ffbf6969d4639a7c782dfaa869585573324275c9b98437c5891673646bbe4a", func := "shadowbox/shadowboxlaw32.SliceRanges", spec := "sliceRanges", inPlace := ["internal/bytealg.IndexByteString", "internal/bytealg.IndexString"], unfollowed := true, recurses := true, named := ["internal/bytealg.MaxLen"], apart := false, narrowed := true }
def SliceRangesUptoSaid : Prop := sliceRangesUptoRow.holds Try.pinned (OpenSpec.upto sliceRangesSpec)

/-- 'shadowboxlaw34.XmloutWrites', WHERE WHAT IT READS IS OF BULK AT MOST 1048576: true; the input reads as it did. -/
def xmloutWritesUptoRow : OpenClaim := { program := "ytaiapalhdejngaa", sum := "94ffbf6969d4639a7c782dfaa869585573324275c9b98437c5891673646bbe4a", func := "shadowbox/shadowboxlaw34.XmloutWrites", spec := "xmloutWrites", inPlace := ["internal/abi.NoEscape"], unfollowed := true, recurses := true, loops := true, apart := false, narrowed := true }
def XmloutWritesUptoSaid : Prop := xmloutWritesUptoRow.holds Try.pinned (OpenSpec.upto xmloutWritesSpec)

/-- 'shadowboxlaw34.XmloutCounts', WHERE WHAT IT READS IS OF BULK AT MOST 1048576: true; the input reads as it did. -/
def xmloutCountsUptoRow : OpenClaim := { program := "ytaiapalhdejngaa", sum := "94ffbf6969d4639a7c782dfaa869585573324275c9b98437c5891673646bbe4a", func := "shadowbox/shadowboxlaw34.XmloutCounts", spec := "xmloutCounts", inPlace := ["internal/abi.NoEscape"], unfollowed := true, recurses := true, loops := true, apart := false, narrowed := true }
def XmloutCountsUptoSaid : Prop := xmloutCountsUptoRow.holds Try.pinned (OpenSpec.upto xmloutCountsSpec)

/-- 'shadowboxlaw35.XmlinTexts', WHERE WHAT IT READS IS OF BULK AT MOST 1048576: true; the input reads as it did. -/
def xmlinTextsUptoRow : OpenClaim := { program := "ytaiapalhdejngaa", sum := "94ffbf6969d4639a7c782dfaa869585573324275c9b98437c5891673646bbe4a", func := "shadowbox/shadowboxlaw35.XmlinTexts", spec := "xmlinTexts", inPlace := ["internal/abi.NoEscape", "internal/bytealg.IndexByteString", "internal/bytealg.IndexString"], unfollowed := true, recurses := true, named := ["internal/bytealg.MaxLen"], apart := false, narrowed := true }
def XmlinTextsUptoSaid : Prop := xmlinTextsUptoRow.holds Try.pinned (OpenSpec.upto xmlinTextsSpec)

/-- 'shadowboxlaw37.EtagTells', WHERE WHAT IT READS IS OF BULK AT MOST 1048576: true; the input reads as it did. -/
def etagTellsUptoRow : OpenClaim := { program := "ytaiapalhdejngaa", sum := "94ffbf6969d4639a7c782dfaa869585573324275c9b98437c5891673646bbe4a", func := "shadowbox/shadowboxlaw37.EtagTells", spec := "etagTells", inPlace := ["internal/bytealg.IndexByteString", "internal/bytealg.IndexString"], unfollowed := true, recurses := true, named := ["internal/bytealg.MaxLen"], apart := false, narrowed := true }
def EtagTellsUptoSaid : Prop := etagTellsUptoRow.holds Try.pinned (OpenSpec.upto etagTellsSpec)

/-- 'shadowboxlaw37.EtagCounts', WHERE WHAT IT READS IS OF BULK AT MOST 1048576: true; the input reads as it did. -/
def etagCountsUptoRow : OpenClaim := { program := "ytaiapalhdejngaa", sum := "94ffbf6969d4639a7c782dfaa869585573324275c9b98437c5891673646bbe4a", func := "shadowbox/shadowboxlaw37.EtagCounts", spec := "etagCounts", inPlace := ["internal/bytealg.IndexByteString", "internal/bytealg.IndexString"], unfollowed := true, recurses := true, named := ["internal/bytealg.MaxLen"], apart := false, narrowed := true }
def EtagCountsUptoSaid : Prop := etagCountsUptoRow.holds Try.pinned (OpenSpec.upto etagCountsSpec)

end Rows
end Go.Proofs.Ytaiapalhdejngaa
