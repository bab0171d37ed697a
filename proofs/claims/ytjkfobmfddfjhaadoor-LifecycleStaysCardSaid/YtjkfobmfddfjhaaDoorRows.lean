/-
  NARROWER THAN 'FOR EVERY INPUT', by the rows' own cells (each row's printed sentence says how): PolicyStars: laid · PolicyDecides: laid · PolicyDenies: laid · PolicyTexts: laid · LifecycleStays: laid · PolicyBack: laid · LifecycleBack: laid.
  DERIVED. THE GIVEN ROWS OF THIS SEAT. 7 by the template 'for every input the law returns true; each argument reads behind the call as it read before'; 0 by the template 'total and deterministic' (their statements: YtjkfobmfddfjhaaDoorTotals.lean).
  GIVEN WITH THE SEED: the statements are not yours to turn. If you find one false, say at which input.
  Laid BY PROGRAM, IN A SANDBOX (cutbox-rows.mjs): the forced cells as the released guide's own fill.sh prints them over the translation c5797878f45887db… (all of the seat's roots in one cut). By AI agents, Wed Nov 11 2026. No macro, syntax, notation, axiom, sorry.
-/
import Derived.Test.YtjkfobmfddfjhaaDoorChecked
import GoSem.PinnedTables
import GoSem.Claim
import GoSem.ClaimJoined
import GoSem.ClaimMapViews
import Derived.JoinedTies
import Derived.KernelRfl
namespace Go.Proofs.YtjkfobmfddfjhaaDoor
/- THE CELL 'sum', in the pinned program and in every row, IS THE sha256 OF THE DUMP (.gsa) THAT YtjkfobmfddfjhaaDoorProg.lean LOADS. Nothing in Lean hashes anything: it is a label: what it is worth is what the hold of that sum in a sandbox is worth. -/
noncomputable def Tryd.pinned : Pinned := { name := "ytjkfobmfddfjhaadoor", sum := "c5797878f45887dba724b78ffabb5d1d6f4c61aa582dcdd6bc18b4469a07ed20", checked := Tryd.checked }
namespace Rows
def none {H : Type} : Left H := { results := [], args := [] }

/- WHAT THE LISTED PACKAGE-LEVEL VARIABLES READ AS WHEN THE CALL BEGINS. Each datum BY PROGRAM (the guide's laid-datum.mjs) off the statement by which the dump's own 'gosem.cut.vars' lays the variable. In a bare row this is a premise. The card (YtjkfobmfddfjhaaDoorCards.lean) ties it to the program's text. -/
def laid_unicode_utf8_acceptRanges {H : Type} : DataW H := .agg [.agg [.lit (.int .u8 128), .lit (.int .u8 191)], .agg [.lit (.int .u8 160), .lit (.int .u8 191)], .agg [.lit (.int .u8 128), .lit (.int .u8 159)], .agg [.lit (.int .u8 144), .lit (.int .u8 191)], .agg [.lit (.int .u8 128), .lit (.int .u8 143)], .agg [.lit (.int .u8 0), .lit (.int .u8 0)], .agg [.lit (.int .u8 0), .lit (.int .u8 0)], .agg [.lit (.int .u8 0), .lit (.int .u8 0)], .agg [.lit (.int .u8 0), .lit (.int .u8 0)], .agg [.lit (.int .u8 0), .lit (.int .u8 0)], .agg [.lit (.int .u8 0), .lit (.int .u8 0)], .agg [.lit (.int .u8 0), .lit (.int .u8 0)], .agg [.lit (.int .u8 0), .lit (.int .u8 0)], .agg [.lit (.int .u8 0), .lit (.int .u8 0)], .agg [.lit (.int .u8 0), .lit (.int .u8 0)], .agg [.lit (.int .u8 0), .lit (.int .u8 0)]]
/-- One of Go's own tables, pinned by name: the form's constant. -/
def laid_unicode_utf8_first : DataW Unit := Go.Pinned.utf8First

/-- 'shadowboxlaw42.PolicyStars': WHATEVER THE INPUT: true; the input reads as it did. -/
def policyStarsSpec : ChangeSpec := { name := "policyStars", fn := fun _ => fun
  | [d1, d2, d3] => { results := [.lit (.bool true)], args := [d1, d2, d3] }
  | _ => none }
def policyStarsRow : OpenClaim := { program := "ytjkfobmfddfjhaadoor", sum := "c5797878f45887dba724b78ffabb5d1d6f4c61aa582dcdd6bc18b4469a07ed20", func := "shadowbox/shadowboxlaw42.PolicyStars", spec := "policyStars", inPlace := ["internal/bytealg.IndexByteString", "internal/bytealg.IndexString"], named := ["unicode/utf8.first", "unicode/utf8.acceptRanges", "internal/bytealg.MaxLen"], apart := false, laid := [("unicode/utf8.acceptRanges", laid_unicode_utf8_acceptRanges), ("unicode/utf8.first", laid_unicode_utf8_first)] }
def PolicyStarsSaid : Prop := policyStarsRow.holds Tryd.pinned (OpenSpec.ofChange policyStarsSpec)

/-- ITS FALSE NEIGHBOUR: 'it returns false'. Refute it at one input. -/
def policyStarsWrong : ChangeSpec := { name := "policyStars", fn := fun _ => fun
  | [d1, d2, d3] => { results := [.lit (.bool false)], args := [d1, d2, d3] }
  | _ => none }
def PolicyStarsWrongFalsely : Prop := policyStarsRow.holds Tryd.pinned (OpenSpec.ofChange policyStarsWrong)

/-- 'shadowboxlaw42.PolicyDecides': WHATEVER THE INPUT: true; the input reads as it did. -/
def policyDecidesSpec : ChangeSpec := { name := "policyDecides", fn := fun _ => fun
  | [d1, d2] => { results := [.lit (.bool true)], args := [d1, d2] }
  | _ => none }
def policyDecidesRow : OpenClaim := { program := "ytjkfobmfddfjhaadoor", sum := "c5797878f45887dba724b78ffabb5d1d6f4c61aa582dcdd6bc18b4469a07ed20", func := "shadowbox/shadowboxlaw42.PolicyDecides", spec := "policyDecides", inPlace := ["internal/bytealg.IndexByteString", "internal/bytealg.IndexString"], named := ["unicode/utf8.first", "unicode/utf8.acceptRanges", "internal/bytealg.MaxLen"], apart := false, laid := [("unicode/utf8.acceptRanges", laid_unicode_utf8_acceptRanges), ("unicode/utf8.first", laid_unicode_utf8_first)] }
def PolicyDecidesSaid : Prop := policyDecidesRow.holds Tryd.pinned (OpenSpec.ofChange policyDecidesSpec)

/-- ITS FALSE NEIGHBOUR: 'it returns false'. Refute it at one input. -/
def policyDecidesWrong : ChangeSpec := { name := "policyDecides", fn := fun _ => fun
  | [d1, d2] => { results := [.lit (.bool false)], args := [d1, d2] }
  | _ => none }
def PolicyDecidesWrongFalsely : Prop := policyDecidesRow.holds Tryd.pinned (OpenSpec.ofChange policyDecidesWrong)

/-- 'shadowboxlaw42.PolicyDenies': WHATEVER THE INPUT: true; the input reads as it did. -/
def policyDeniesSpec : ChangeSpec := { name := "policyDenies", fn := fun _ => fun
  | [d1, d2, d3] => { results := [.lit (.bool true)], args := [d1, d2, d3] }
  | _ => none }
def policyDeniesRow : OpenClaim := { program := "ytjkfobmfddfjhaadoor", sum := "c5797878f45887dba724b78ffabb5d1d6f4c61aa582dcdd6bc18b4469a07ed20", func := "shadowbox/shadowboxlaw42.PolicyDenies", spec := "policyDenies", inPlace := ["internal/bytealg.IndexByteString", "internal/bytealg.IndexString"], named := ["unicode/utf8.first", "unicode/utf8.acceptRanges", "internal/bytealg.MaxLen"], apart := false, laid := [("unicode/utf8.acceptRanges", laid_unicode_utf8_acceptRanges), ("unicode/utf8.first", laid_unicode_utf8_first)] }
def PolicyDeniesSaid : Prop := policyDeniesRow.holds Tryd.pinned (OpenSpec.ofChange policyDeniesSpec)

/-- ITS FALSE NEIGHBOUR: 'it returns false'. Refute it at one input. -/
def policyDeniesWrong : ChangeSpec := { name := "policyDenies", fn := fun _ => fun
  | [d1, d2, d3] => { results := [.lit (.bool false)], args := [d1, d2, d3] }
  | _ => none }
def PolicyDeniesWrongFalsely : Prop := policyDeniesRow.holds Tryd.pinned (OpenSpec.ofChange policyDeniesWrong)

/-- 'shadowboxlaw42.PolicyTexts': WHATEVER THE INPUT: true; the input reads as it did. -/
def policyTextsSpec : ChangeSpec := { name := "policyTexts", fn := fun _ => fun
  | [d] => { results := [.lit (.bool true)], args := [d] }
  | _ => none }
def policyTextsRow : OpenClaim := { program := "ytjkfobmfddfjhaadoor", sum := "c5797878f45887dba724b78ffabb5d1d6f4c61aa582dcdd6bc18b4469a07ed20", func := "shadowbox/shadowboxlaw42.PolicyTexts", spec := "policyTexts", inPlace := ["internal/bytealg.IndexByteString", "internal/bytealg.IndexString", "internal/abi.NoEscape"], unfollowed := true, recurses := true, named := ["unicode/utf8.first", "unicode/utf8.acceptRanges", "internal/bytealg.MaxLen"], apart := false, laid := [("unicode/utf8.acceptRanges", laid_unicode_utf8_acceptRanges), ("unicode/utf8.first", laid_unicode_utf8_first)] }
def PolicyTextsSaid : Prop := policyTextsRow.holds Tryd.pinned (OpenSpec.ofChange policyTextsSpec)

/-- ITS FALSE NEIGHBOUR: 'it returns false'. Refute it at one input. -/
def policyTextsWrong : ChangeSpec := { name := "policyTexts", fn := fun _ => fun
  | [d] => { results := [.lit (.bool false)], args := [d] }
  | _ => none }
def PolicyTextsWrongFalsely : Prop := policyTextsRow.holds Tryd.pinned (OpenSpec.ofChange policyTextsWrong)

/-- 'shadowboxlaw41.LifecycleStays': WHATEVER THE INPUT: true; the input reads as it did. -/
def lifecycleStaysSpec : ChangeSpec := { name := "lifecycleStays", fn := fun _ => fun
  | [d1, d2, d3] => { results := [.lit (.bool true)], args := [d1, d2, d3] }
  | _ => none }
def lifecycleStaysRow : OpenClaim := { program := "ytjkfobmfddfjhaadoor", sum := "c5797878f45887dba724b78ffabb5d1d6f4c61aa582dcdd6bc18b4469a07ed20", func := "shadowbox/shadowboxlaw41.LifecycleStays", spec := "lifecycleStays", inPlace := ["internal/bytealg.IndexByteString", "internal/bytealg.IndexString", "internal/abi.NoEscape"], unfollowed := true, recurses := true, named := ["unicode/utf8.first", "unicode/utf8.acceptRanges", "internal/bytealg.MaxLen"], apart := false, laid := [("unicode/utf8.acceptRanges", laid_unicode_utf8_acceptRanges), ("unicode/utf8.first", laid_unicode_utf8_first)] }
def LifecycleStaysSaid : Prop := lifecycleStaysRow.holds Tryd.pinned (OpenSpec.ofChange lifecycleStaysSpec)

/-- ITS FALSE NEIGHBOUR: 'it returns false'. Refute it at one input. -/
def lifecycleStaysWrong : ChangeSpec := { name := "lifecycleStays", fn := fun _ => fun
  | [d1, d2, d3] => { results := [.lit (.bool false)], args := [d1, d2, d3] }
  | _ => none }
def LifecycleStaysWrongFalsely : Prop := lifecycleStaysRow.holds Tryd.pinned (OpenSpec.ofChange lifecycleStaysWrong)

/-- 'shadowboxlaw42.PolicyBack': WHATEVER THE INPUT: true; the input reads as it did. -/
def policyBackSpec : ChangeSpec := { name := "policyBack", fn := fun _ => fun
  | [d] => { results := [.lit (.bool true)], args := [d] }
  | _ => none }
def policyBackRow : OpenClaim := { program := "ytjkfobmfddfjhaadoor", sum := "c5797878f45887dba724b78ffabb5d1d6f4c61aa582dcdd6bc18b4469a07ed20", func := "shadowbox/shadowboxlaw42.PolicyBack", spec := "policyBack", inPlace := ["internal/abi.NoEscape", "internal/bytealg.MakeNoZero", "internal/bytealg.IndexByteString", "internal/bytealg.IndexString"], unfollowed := true, recurses := true, named := ["unicode/utf8.first", "unicode/utf8.acceptRanges", "internal/bytealg.MaxLen"], apart := false, laid := [("unicode/utf8.acceptRanges", laid_unicode_utf8_acceptRanges), ("unicode/utf8.first", laid_unicode_utf8_first)] }
def PolicyBackSaid : Prop := policyBackRow.holds Tryd.pinned (OpenSpec.ofChange policyBackSpec)

/-- ITS FALSE NEIGHBOUR: 'it returns false'. Refute it at one input. -/
def policyBackWrong : ChangeSpec := { name := "policyBack", fn := fun _ => fun
  | [d] => { results := [.lit (.bool false)], args := [d] }
  | _ => none }
def PolicyBackWrongFalsely : Prop := policyBackRow.holds Tryd.pinned (OpenSpec.ofChange policyBackWrong)

/-- 'shadowboxlaw41.LifecycleBack': WHATEVER THE INPUT: true; the input reads as it did. -/
def lifecycleBackSpec : ChangeSpec := { name := "lifecycleBack", fn := fun _ => fun
  | [d] => { results := [.lit (.bool true)], args := [d] }
  | _ => none }
def lifecycleBackRow : OpenClaim := { program := "ytjkfobmfddfjhaadoor", sum := "c5797878f45887dba724b78ffabb5d1d6f4c61aa582dcdd6bc18b4469a07ed20", func := "shadowbox/shadowboxlaw41.LifecycleBack", spec := "lifecycleBack", inPlace := ["internal/bytealg.IndexByteString", "internal/bytealg.IndexString", "internal/abi.NoEscape"], unfollowed := true, recurses := true, named := ["unicode/utf8.first", "unicode/utf8.acceptRanges", "internal/bytealg.MaxLen"], apart := false, laid := [("unicode/utf8.acceptRanges", laid_unicode_utf8_acceptRanges), ("unicode/utf8.first", laid_unicode_utf8_first)] }
def LifecycleBackSaid : Prop := lifecycleBackRow.holds Tryd.pinned (OpenSpec.ofChange lifecycleBackSpec)

/-- ITS FALSE NEIGHBOUR: 'it returns false'. Refute it at one input. -/
def lifecycleBackWrong : ChangeSpec := { name := "lifecycleBack", fn := fun _ => fun
  | [d] => { results := [.lit (.bool false)], args := [d] }
  | _ => none }
def LifecycleBackWrongFalsely : Prop := lifecycleBackRow.holds Tryd.pinned (OpenSpec.ofChange lifecycleBackWrong)

/- THE SECOND FORM. 'bulk': how many values and letters a reading holds, each counted each time it is reached (what is shared counts as often as it is met; a slice's spare places count too). A statement '..UptoSaid' is the law's where the arguments, and the package variables that the reading takes, are together of bulk at most 1048576: NARROWER than '..Said'. Prove '..Said' where nothing that the law and all that it calls make is longer than what came in: it says more and counts as full. Else prove '..UptoSaid'. A law counts once. -/
mutual
def uptoBulk {H : Type} : DataW H → Nat
  | .lit (.string bytes) => bytes.length + 1
  | .lit _ => 1
  | .nil => 1
  | .ptr d => uptoBulk d + 1
  | .slice elems spare => uptoBulkAll elems + uptoBulkAll spare + 1
  | .agg parts => uptoBulkAll parts + 1
  | .iface _ d => uptoBulk d + 1
  | .map entries => uptoBulkEntries entries + 1
  | .held _ => 1
def uptoBulkAll {H : Type} : List (DataW H) → Nat
  | [] => 0
  | d :: r => uptoBulk d + uptoBulkAll r
def uptoBulkEntries {H : Type} : List (Lit × DataW H) → Nat
  | [] => 0
  | x :: r => uptoBulkEntry x + uptoBulkEntries r
def uptoBulkEntry {H : Type} : Lit × DataW H → Nat
  | (.string bytes, d) => bytes.length + uptoBulk d + 1
  | (_, d) => uptoBulk d + 1
 end
def uptoSmall : (H : Type) → List (DataW H) → Bool := fun _ ds => decide (uptoBulkAll ds ≤ 1048576)
def OpenSpec.upto (s : _root_.Go.ChangeSpec) : _root_.Go.OpenSpec := { _root_.Go.OpenSpec.ofChange s with cond := some uptoSmall }

/-- 'shadowboxlaw42.PolicyStars', WHERE WHAT IT READS IS OF BULK AT MOST 1048576: true; the input reads as it did. -/
def policyStarsUptoRow : OpenClaim := { program := "ytjkfobmfddfjhaadoor", sum := "c5797878f45887dba724b78ffabb5d1d6f4c61aa582dcdd6bc18b4469a07ed20", func := "shadowbox/shadowboxlaw42.PolicyStars", spec := "policyStars", inPlace := ["internal/bytealg.IndexByteString", "internal/bytealg.IndexString"], named := ["unicode/utf8.first", "unicode/utf8.acceptRanges", "internal/bytealg.MaxLen"], apart := false, laid := [("unicode/utf8.acceptRanges", laid_unicode_utf8_acceptRanges), ("unicode/utf8.first", laid_unicode_utf8_first)], narrowed := true }
def PolicyStarsUptoSaid : Prop := policyStarsUptoRow.holds Tryd.pinned (OpenSpec.upto policyStarsSpec)

/-- 'shadowboxlaw42.PolicyDecides', WHERE WHAT IT READS IS OF BULK AT MOST 1048576: true; the input reads as it did. -/
def policyDecidesUptoRow : OpenClaim := { program := "ytjkfobmfddfjhaadoor", sum := "c5797878f45887dba724b78ffabb5d1d6f4c61aa582dcdd6bc18b4469a07ed20", func := "shadowbox/shadowboxlaw42.PolicyDecides", spec := "policyDecides", inPlace := ["internal/bytealg.IndexByteString", "internal/bytealg.IndexString"], named := ["unicode/utf8.first", "unicode/utf8.acceptRanges", "internal/bytealg.MaxLen"], apart := false, laid := [("unicode/utf8.acceptRanges", laid_unicode_utf8_acceptRanges), ("unicode/utf8.first", laid_unicode_utf8_first)], narrowed := true }
def PolicyDecidesUptoSaid : Prop := policyDecidesUptoRow.holds Tryd.pinned (OpenSpec.upto policyDecidesSpec)

/-- 'shadowboxlaw42.PolicyDenies', WHERE WHAT IT READS IS OF BULK AT MOST 1048576: true; the input reads as it did. -/
def policyDeniesUptoRow : OpenClaim := { program := "ytjkfobmfddfjhaadoor", sum := "c5797878f45887dba724b78ffabb5d1d6f4c61aa582dcdd6bc18b4469a07ed20", func := "shadowbox/shadowboxlaw42.PolicyDenies", spec := "policyDenies", inPlace := ["internal/bytealg.IndexByteString", "internal/bytealg.IndexString"], named := ["unicode/utf8.first", "unicode/utf8.acceptRanges", "internal/bytealg.MaxLen"], apart := false, laid := [("unicode/utf8.acceptRanges", laid_unicode_utf8_acceptRanges), ("unicode/utf8.first", laid_unicode_utf8_first)], narrowed := true }
def PolicyDeniesUptoSaid : Prop := policyDeniesUptoRow.holds Tryd.pinned (OpenSpec.upto policyDeniesSpec)

/-- 'shadowboxlaw42.PolicyTexts', WHERE WHAT IT READS IS OF BULK AT MOST 1048576: true; the input reads as it did. -/
def policyTextsUptoRow : OpenClaim := { program := "ytjkfobmfddfjhaadoor", sum := "c5797878f45887dba724b78ffabb5d1d6f4c61aa582dcdd6bc18b4469a07ed20", func := "shadowbox/shadowboxlaw42.PolicyTexts", spec := "policyTexts", inPlace := ["internal/bytealg.IndexByteString", "internal/bytealg.IndexString", "internal/abi.NoEscape"], unfollowed := true, recurses := true, named := ["unicode/utf8.first", "unicode/utf8.acceptRanges", "internal/bytealg.MaxLen"], apart := false, laid := [("unicode/utf8.acceptRanges", laid_unicode_utf8_acceptRanges), ("unicode/utf8.first", laid_unicode_utf8_first)], narrowed := true }
def PolicyTextsUptoSaid : Prop := policyTextsUptoRow.holds Tryd.pinned (OpenSpec.upto policyTextsSpec)

/-- 'shadowboxlaw41.LifecycleStays', WHERE WHAT IT READS IS OF BULK AT MOST 1048576: true; the input reads as it did. -/
def lifecycleStaysUptoRow : OpenClaim := { program := "ytjkfobmfddfjhaadoor", sum := "c5797878f45887dba724b78ffabb5d1d6f4c61aa582dcdd6bc18b4469a07ed20", func := "shadowbox/shadowboxlaw41.LifecycleStays", spec := "lifecycleStays", inPlace := ["internal/bytealg.IndexByteString", "internal/bytealg.IndexString", "internal/abi.NoEscape"], unfollowed := true, recurses := true, named := ["unicode/utf8.first", "unicode/utf8.acceptRanges", "internal/bytealg.MaxLen"], apart := false, laid := [("unicode/utf8.acceptRanges", laid_unicode_utf8_acceptRanges), ("unicode/utf8.first", laid_unicode_utf8_first)], narrowed := true }
def LifecycleStaysUptoSaid : Prop := lifecycleStaysUptoRow.holds Tryd.pinned (OpenSpec.upto lifecycleStaysSpec)

/-- 'shadowboxlaw42.PolicyBack', WHERE WHAT IT READS IS OF BULK AT MOST 1048576: true; the input reads as it did. -/
def policyBackUptoRow : OpenClaim := { program := "ytjkfobmfddfjhaadoor", sum := "c5797878f45887dba724b78ffabb5d1d6f4c61aa582dcdd6bc18b4469a07ed20", func := "shadowbox/shadowboxlaw42.PolicyBack", spec := "policyBack", inPlace := ["internal/abi.NoEscape", "internal/bytealg.MakeNoZero", "internal/bytealg.IndexByteString", "internal/bytealg.IndexString"], unfollowed := true, recurses := true, named := ["unicode/utf8.first", "unicode/utf8.acceptRanges", "internal/bytealg.MaxLen"], apart := false, laid := [("unicode/utf8.acceptRanges", laid_unicode_utf8_acceptRanges), ("unicode/utf8.first", laid_unicode_utf8_first)], narrowed := true }
def PolicyBackUptoSaid : Prop := policyBackUptoRow.holds Tryd.pinned (OpenSpec.upto policyBackSpec)

/-- 'shadowboxlaw41.LifecycleBack', WHERE WHAT IT READS IS OF BULK AT MOST 1048576: true; the input reads as it did. -/
def lifecycleBackUptoRow : OpenClaim := { program := "ytjkfobmfddfjhaadoor", sum := "c5797878f45887dba724b78ffabb5d1d6f4c61aa582dcdd6bc18b4469a07ed20", func := "shadowbox/shadowboxlaw41.LifecycleBack", spec := "lifecycleBack", inPlace := ["internal/bytealg.IndexByteString", "internal/bytealg.IndexString", "internal/abi.NoEscape"], unfollowed := true, recurses := true, named := ["unicode/utf8.first", "unicode/utf8.acceptRanges", "internal/bytealg.MaxLen"], apart := false, laid := [("unicode/utf8.acceptRanges", laid_unicode_utf8_acceptRanges), ("unicode/utf8.first", laid_unicode_utf8_first)], narrowed := true }
def LifecycleBackUptoSaid : Prop := lifecycleBackUptoRow.holds Tryd.pinned (OpenSpec.upto lifecycleBackSpec)

end Rows
end Go.Proofs.YtjkfobmfddfjhaaDoor
