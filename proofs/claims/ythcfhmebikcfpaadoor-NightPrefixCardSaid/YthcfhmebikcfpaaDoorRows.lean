/-
  NARROWER THAN 'FOR EVERY INPUT', by the rows' own cells (each row's printed sentence says how): NightBack: laid · NightPrefix: laid · NightLeast: laid · NightOrder: laid · NightApart: laid · NightByte: laid · NightCodes: laid · NightLong: laid · NightMore: laid.
  DERIVED. THE GIVEN ROWS OF THIS SEAT. 9 by the template 'for every input the law returns true; each argument reads behind the call as it read before'; 0 by the template 'total and deterministic' (their statements: YthcfhmebikcfpaaDoorTotals.lean).
  GIVEN WITH THE SEED: the statements are not yours to turn. If you find one false, say at which input.
  Laid BY PROGRAM, IN A SANDBOX (cutbox-rows.mjs): the forced cells as the released guide's own fill.sh prints them over the translation 79552d640f4f9857… (all of the seat's roots in one cut). By AI agents, Wed Nov 11 2026. No macro, syntax, notation, axiom, sorry.
-/
import Derived.Test.YthcfhmebikcfpaaDoorChecked
import GoSem.PinnedTables
import GoSem.Claim
import GoSem.ClaimJoined
import GoSem.ClaimMapViews
import Derived.JoinedTies
import Derived.KernelRfl
namespace Go.Proofs.YthcfhmebikcfpaaDoor
/- THE CELL 'sum', in the pinned program and in every row, IS THE sha256 OF THE DUMP (.gsa) THAT YthcfhmebikcfpaaDoorProg.lean LOADS. Nothing in Lean hashes anything: it is a label: what it is worth is what the hold of that sum in a sandbox is worth. -/
noncomputable def Tryd.pinned : Pinned := { name := "ythcfhmebikcfpaadoor", sum := "79552d640f4f9857f446fe250f0a7ec95c14bfb481b6ae4859389169e31e74f1", checked := Tryd.checked }
namespace Rows
def none {H : Type} : Left H := { results := [], args := [] }

/- WHAT THE LISTED PACKAGE-LEVEL VARIABLES READ AS WHEN THE CALL BEGINS. Each datum BY PROGRAM (the guide's laid-datum.mjs) off the statement by which the dump's own 'gosem.cut.vars' lays the variable. In a bare row this is a premise. The card (YthcfhmebikcfpaaDoorCards.lean) ties it to the program's text. -/
def laid_unicode_utf8_acceptRanges {H : Type} : DataW H := .agg [.agg [.lit (.int .u8 128), .lit (.int .u8 191)], .agg [.lit (.int .u8 160), .lit (.int .u8 191)], .agg [.lit (.int .u8 128), .lit (.int .u8 159)], .agg [.lit (.int .u8 144), .lit (.int .u8 191)], .agg [.lit (.int .u8 128), .lit (.int .u8 143)], .agg [.lit (.int .u8 0), .lit (.int .u8 0)], .agg [.lit (.int .u8 0), .lit (.int .u8 0)], .agg [.lit (.int .u8 0), .lit (.int .u8 0)], .agg [.lit (.int .u8 0), .lit (.int .u8 0)], .agg [.lit (.int .u8 0), .lit (.int .u8 0)], .agg [.lit (.int .u8 0), .lit (.int .u8 0)], .agg [.lit (.int .u8 0), .lit (.int .u8 0)], .agg [.lit (.int .u8 0), .lit (.int .u8 0)], .agg [.lit (.int .u8 0), .lit (.int .u8 0)], .agg [.lit (.int .u8 0), .lit (.int .u8 0)], .agg [.lit (.int .u8 0), .lit (.int .u8 0)]]
/-- One of Go's own tables, pinned by name: the form's constant. -/
def laid_unicode_utf8_first : DataW Unit := Go.Pinned.utf8First

/-- 'flonglaw14.NightBack': WHATEVER THE INPUT: true; the input reads as it did. -/
def nightBackSpec : ChangeSpec := { name := "nightBack", fn := fun _ => fun
  | [d1, d2] => { results := [.lit (.bool true)], args := [d1, d2] }
  | _ => none }
def nightBackRow : OpenClaim := { program := "ythcfhmebikcfpaadoor", sum := "79552d640f4f9857f446fe250f0a7ec95c14bfb481b6ae4859389169e31e74f1", func := "flong/flonglaw14.NightBack", spec := "nightBack", inPlace := ["internal/abi.NoEscape", "internal/bytealg.IndexByteString", "internal/bytealg.IndexString"], unfollowed := true, recurses := true, named := ["unicode/utf8.first", "unicode/utf8.acceptRanges", "internal/bytealg.MaxLen"], apart := false, laid := [("unicode/utf8.acceptRanges", laid_unicode_utf8_acceptRanges), ("unicode/utf8.first", laid_unicode_utf8_first)] }
def NightBackSaid : Prop := nightBackRow.holds Tryd.pinned (OpenSpec.ofChange nightBackSpec)

/-- ITS FALSE NEIGHBOUR: 'it returns false'. Refute it at one input. -/
def nightBackWrong : ChangeSpec := { name := "nightBack", fn := fun _ => fun
  | [d1, d2] => { results := [.lit (.bool false)], args := [d1, d2] }
  | _ => none }
def NightBackWrongFalsely : Prop := nightBackRow.holds Tryd.pinned (OpenSpec.ofChange nightBackWrong)

/-- 'flonglaw14.NightPrefix': WHATEVER THE INPUT: true; the input reads as it did. -/
def nightPrefixSpec : ChangeSpec := { name := "nightPrefix", fn := fun _ => fun
  | [d] => { results := [.lit (.bool true)], args := [d] }
  | _ => none }
def nightPrefixRow : OpenClaim := { program := "ythcfhmebikcfpaadoor", sum := "79552d640f4f9857f446fe250f0a7ec95c14bfb481b6ae4859389169e31e74f1", func := "flong/flonglaw14.NightPrefix", spec := "nightPrefix", inPlace := ["internal/abi.NoEscape", "internal/bytealg.IndexByteString", "internal/bytealg.IndexString"], unfollowed := true, recurses := true, named := ["unicode/utf8.first", "unicode/utf8.acceptRanges", "internal/bytealg.MaxLen"], apart := false, laid := [("unicode/utf8.acceptRanges", laid_unicode_utf8_acceptRanges), ("unicode/utf8.first", laid_unicode_utf8_first)] }
def NightPrefixSaid : Prop := nightPrefixRow.holds Tryd.pinned (OpenSpec.ofChange nightPrefixSpec)

/-- ITS FALSE NEIGHBOUR: 'it returns false'. Refute it at one input. -/
def nightPrefixWrong : ChangeSpec := { name := "nightPrefix", fn := fun _ => fun
  | [d] => { results := [.lit (.bool false)], args := [d] }
  | _ => none }
def NightPrefixWrongFalsely : Prop := nightPrefixRow.holds Tryd.pinned (OpenSpec.ofChange nightPrefixWrong)

/-- 'flonglaw14.NightLeast': WHATEVER THE INPUT: true; the input reads as it did. -/
def nightLeastSpec : ChangeSpec := { name := "nightLeast", fn := fun _ => fun
  | [d1, d2] => { results := [.lit (.bool true)], args := [d1, d2] }
  | _ => none }
def nightLeastRow : OpenClaim := { program := "ythcfhmebikcfpaadoor", sum := "79552d640f4f9857f446fe250f0a7ec95c14bfb481b6ae4859389169e31e74f1", func := "flong/flonglaw14.NightLeast", spec := "nightLeast", inPlace := ["internal/abi.NoEscape", "internal/bytealg.IndexByteString", "internal/bytealg.IndexString"], unfollowed := true, recurses := true, named := ["unicode/utf8.first", "unicode/utf8.acceptRanges", "internal/bytealg.MaxLen"], apart := false, laid := [("unicode/utf8.acceptRanges", laid_unicode_utf8_acceptRanges), ("unicode/utf8.first", laid_unicode_utf8_first)] }
def NightLeastSaid : Prop := nightLeastRow.holds Tryd.pinned (OpenSpec.ofChange nightLeastSpec)

/-- ITS FALSE NEIGHBOUR: 'it returns false'. Refute it at one input. -/
def nightLeastWrong : ChangeSpec := { name := "nightLeast", fn := fun _ => fun
  | [d1, d2] => { results := [.lit (.bool false)], args := [d1, d2] }
  | _ => none }
def NightLeastWrongFalsely : Prop := nightLeastRow.holds Tryd.pinned (OpenSpec.ofChange nightLeastWrong)

/-- 'flonglaw14.NightOrder': WHATEVER THE INPUT: true; the input reads as it did. -/
def nightOrderSpec : ChangeSpec := { name := "nightOrder", fn := fun _ => fun
  | [d1, d2, d3] => { results := [.lit (.bool true)], args := [d1, d2, d3] }
  | _ => none }
def nightOrderRow : OpenClaim := { program := "ythcfhmebikcfpaadoor", sum := "79552d640f4f9857f446fe250f0a7ec95c14bfb481b6ae4859389169e31e74f1", func := "flong/flonglaw14.NightOrder", spec := "nightOrder", inPlace := ["internal/abi.NoEscape", "internal/bytealg.IndexByteString", "internal/bytealg.IndexString"], unfollowed := true, recurses := true, named := ["unicode/utf8.first", "unicode/utf8.acceptRanges", "internal/bytealg.MaxLen"], apart := false, laid := [("unicode/utf8.acceptRanges", laid_unicode_utf8_acceptRanges), ("unicode/utf8.first", laid_unicode_utf8_first)] }
def NightOrderSaid : Prop := nightOrderRow.holds Tryd.pinned (OpenSpec.ofChange nightOrderSpec)

/-- ITS FALSE NEIGHBOUR: 'it returns false'. Refute it at one input. -/
def nightOrderWrong : ChangeSpec := { name := "nightOrder", fn := fun _ => fun
  | [d1, d2, d3] => { results := [.lit (.bool false)], args := [d1, d2, d3] }
  | _ => none }
def NightOrderWrongFalsely : Prop := nightOrderRow.holds Tryd.pinned (OpenSpec.ofChange nightOrderWrong)

/-- 'flonglaw14.NightApart': WHATEVER THE INPUT: true; the input reads as it did. -/
def nightApartSpec : ChangeSpec := { name := "nightApart", fn := fun _ => fun
  | [d1, d2] => { results := [.lit (.bool true)], args := [d1, d2] }
  | _ => none }
def nightApartRow : OpenClaim := { program := "ythcfhmebikcfpaadoor", sum := "79552d640f4f9857f446fe250f0a7ec95c14bfb481b6ae4859389169e31e74f1", func := "flong/flonglaw14.NightApart", spec := "nightApart", inPlace := ["internal/abi.NoEscape", "internal/bytealg.IndexByteString", "internal/bytealg.IndexString"], unfollowed := true, recurses := true, named := ["unicode/utf8.first", "unicode/utf8.acceptRanges", "internal/bytealg.MaxLen"], apart := false, laid := [("unicode/utf8.acceptRanges", laid_unicode_utf8_acceptRanges), ("unicode/utf8.first", laid_unicode_utf8_first)] }
def NightApartSaid : Prop := nightApartRow.holds Tryd.pinned (OpenSpec.ofChange nightApartSpec)

/-- ITS FALSE NEIGHBOUR: 'it returns false'. Refute it at one input. -/
def nightApartWrong : ChangeSpec := { name := "nightApart", fn := fun _ => fun
  | [d1, d2] => { results := [.lit (.bool false)], args := [d1, d2] }
  | _ => none }
def NightApartWrongFalsely : Prop := nightApartRow.holds Tryd.pinned (OpenSpec.ofChange nightApartWrong)

/-- 'flonglaw14.NightByte': WHATEVER THE INPUT: true; the input reads as it did. -/
def nightByteSpec : ChangeSpec := { name := "nightByte", fn := fun _ => fun
  | [d1, d2] => { results := [.lit (.bool true)], args := [d1, d2] }
  | _ => none }
def nightByteRow : OpenClaim := { program := "ythcfhmebikcfpaadoor", sum := "79552d640f4f9857f446fe250f0a7ec95c14bfb481b6ae4859389169e31e74f1", func := "flong/flonglaw14.NightByte", spec := "nightByte", inPlace := ["internal/abi.NoEscape", "internal/bytealg.IndexByteString", "internal/bytealg.IndexString"], unfollowed := true, recurses := true, named := ["unicode/utf8.first", "unicode/utf8.acceptRanges", "internal/bytealg.MaxLen"], apart := false, laid := [("unicode/utf8.acceptRanges", laid_unicode_utf8_acceptRanges), ("unicode/utf8.first", laid_unicode_utf8_first)] }
def NightByteSaid : Prop := nightByteRow.holds Tryd.pinned (OpenSpec.ofChange nightByteSpec)

/-- ITS FALSE NEIGHBOUR: 'it returns false'. Refute it at one input. -/
def nightByteWrong : ChangeSpec := { name := "nightByte", fn := fun _ => fun
  | [d1, d2] => { results := [.lit (.bool false)], args := [d1, d2] }
  | _ => none }
def NightByteWrongFalsely : Prop := nightByteRow.holds Tryd.pinned (OpenSpec.ofChange nightByteWrong)

/-- 'flonglaw14.NightCodes': WHATEVER THE INPUT: true; the input reads as it did. -/
def nightCodesSpec : ChangeSpec := { name := "nightCodes", fn := fun _ => fun
  | [d1, d2] => { results := [.lit (.bool true)], args := [d1, d2] }
  | _ => none }
def nightCodesRow : OpenClaim := { program := "ythcfhmebikcfpaadoor", sum := "79552d640f4f9857f446fe250f0a7ec95c14bfb481b6ae4859389169e31e74f1", func := "flong/flonglaw14.NightCodes", spec := "nightCodes", inPlace := ["internal/abi.NoEscape", "internal/bytealg.IndexByteString", "internal/bytealg.IndexString"], unfollowed := true, recurses := true, named := ["unicode/utf8.first", "unicode/utf8.acceptRanges", "internal/bytealg.MaxLen"], apart := false, laid := [("unicode/utf8.acceptRanges", laid_unicode_utf8_acceptRanges), ("unicode/utf8.first", laid_unicode_utf8_first)] }
def NightCodesSaid : Prop := nightCodesRow.holds Tryd.pinned (OpenSpec.ofChange nightCodesSpec)

/-- ITS FALSE NEIGHBOUR: 'it returns false'. Refute it at one input. -/
def nightCodesWrong : ChangeSpec := { name := "nightCodes", fn := fun _ => fun
  | [d1, d2] => { results := [.lit (.bool false)], args := [d1, d2] }
  | _ => none }
def NightCodesWrongFalsely : Prop := nightCodesRow.holds Tryd.pinned (OpenSpec.ofChange nightCodesWrong)

/-- 'flonglaw14.NightLong': WHATEVER THE INPUT: true; the input reads as it did. -/
def nightLongSpec : ChangeSpec := { name := "nightLong", fn := fun _ => fun
  | [d] => { results := [.lit (.bool true)], args := [d] }
  | _ => none }
def nightLongRow : OpenClaim := { program := "ythcfhmebikcfpaadoor", sum := "79552d640f4f9857f446fe250f0a7ec95c14bfb481b6ae4859389169e31e74f1", func := "flong/flonglaw14.NightLong", spec := "nightLong", inPlace := ["internal/abi.NoEscape", "internal/bytealg.IndexByteString", "internal/bytealg.IndexString"], unfollowed := true, recurses := true, named := ["unicode/utf8.first", "unicode/utf8.acceptRanges", "internal/bytealg.MaxLen"], apart := false, laid := [("unicode/utf8.acceptRanges", laid_unicode_utf8_acceptRanges), ("unicode/utf8.first", laid_unicode_utf8_first)] }
def NightLongSaid : Prop := nightLongRow.holds Tryd.pinned (OpenSpec.ofChange nightLongSpec)

/-- ITS FALSE NEIGHBOUR: 'it returns false'. Refute it at one input. -/
def nightLongWrong : ChangeSpec := { name := "nightLong", fn := fun _ => fun
  | [d] => { results := [.lit (.bool false)], args := [d] }
  | _ => none }
def NightLongWrongFalsely : Prop := nightLongRow.holds Tryd.pinned (OpenSpec.ofChange nightLongWrong)

/-- 'flonglaw14.NightMore': WHATEVER THE INPUT: true; the input reads as it did. -/
def nightMoreSpec : ChangeSpec := { name := "nightMore", fn := fun _ => fun
  | [d] => { results := [.lit (.bool true)], args := [d] }
  | _ => none }
def nightMoreRow : OpenClaim := { program := "ythcfhmebikcfpaadoor", sum := "79552d640f4f9857f446fe250f0a7ec95c14bfb481b6ae4859389169e31e74f1", func := "flong/flonglaw14.NightMore", spec := "nightMore", inPlace := ["internal/abi.NoEscape", "internal/bytealg.IndexByteString", "internal/bytealg.IndexString"], unfollowed := true, recurses := true, named := ["unicode/utf8.first", "unicode/utf8.acceptRanges", "internal/bytealg.MaxLen"], apart := false, laid := [("unicode/utf8.acceptRanges", laid_unicode_utf8_acceptRanges), ("unicode/utf8.first", laid_unicode_utf8_first)] }
def NightMoreSaid : Prop := nightMoreRow.holds Tryd.pinned (OpenSpec.ofChange nightMoreSpec)

/-- ITS FALSE NEIGHBOUR: 'it returns false'. Refute it at one input. -/
def nightMoreWrong : ChangeSpec := { name := "nightMore", fn := fun _ => fun
  | [d] => { results := [.lit (.bool false)], args := [d] }
  | _ => none }
def NightMoreWrongFalsely : Prop := nightMoreRow.holds Tryd.pinned (OpenSpec.ofChange nightMoreWrong)

/- THE SECOND FORM. 'bulk': how many values and letters a reading holds, each counted each time it is reached (what is shared counts as often as it is met; a slice's spare places count too). A statement '..UptoSaid' is the law's where the arguments, and the package variables that the reading takes, are together of bulk at most 1048576: NARROWER than '..Said'. Prove '..Said' where nothing that the law and all that it calls make is longer than what came in: it says more and counts as full. Else prove '..UptoSaid'. A law counts once. -/
mutual
def uptoBulk {H : Type} : DataW H → Nat
  | .lit (.string bytes) => bytes.length + 1
  | .lit _ => 1
  | .nil => 1
  | .ptr d => uptoBulk d + 1
  | .slice elems spare => uptoBulkAll elems + uptoBulkAll spare + 1
  | .agg parts => uptoBulkAll parts + 1
  | .iface _ d => uptoBulk d + 1
  | .map entries => uptoBulkEntries entries + 1
  | .held _ => 1
def uptoBulkAll {H : Type} : List (DataW H) → Nat
  | [] => 0
  | d :: r => uptoBulk d + uptoBulkAll r
def uptoBulkEntries {H : Type} : List (Lit × DataW H) → Nat
  | [] => 0
  | x :: r => uptoBulkEntry x + uptoBulkEntries r
def uptoBulkEntry {H : Type} : Lit × DataW H → Nat
  | (.string bytes, d) => bytes.length + uptoBulk d + 1
  | (_, d) => uptoBulk d + 1
 end
def uptoSmall : (H : Type) → List (DataW H) → Bool := fun _ ds => decide (uptoBulkAll ds ≤ 1048576)
def OpenSpec.upto (s : _root_.Go.ChangeSpec) : _root_.Go.OpenSpec := { _root_.Go.OpenSpec.ofChange s with cond := some uptoSmall }

/-- 'flonglaw14.NightBack', WHERE WHAT IT READS IS OF BULK AT MOST 1048576: true; the input reads as it did. -/
def nightBackUptoRow : OpenClaim := { program := "ythcfhmebikcfpaadoor", sum := "79552d640f4f9857f446fe250f0a7ec95c14bfb481b6ae4859389169e31e74f1", func := "flong/flonglaw14.NightBack", spec := "nightBack", inPlace := ["internal/abi.NoEscape", "internal/bytealg.IndexByteString", "internal/bytealg.IndexString"], unfollowed := true, recurses := true, named := ["unicode/utf8.first", "unicode/utf8.acceptRanges", "internal/bytealg.MaxLen"], apart := false, laid := [("unicode/utf8.acceptRanges", laid_unicode_utf8_acceptRanges), ("unicode/utf8.first", laid_unicode_utf8_first)], narrowed := true }
def NightBackUptoSaid : Prop := nightBackUptoRow.holds Tryd.pinned (OpenSpec.upto nightBackSpec)

/-- 'flonglaw14.NightPrefix', WHERE WHAT IT READS IS OF BULK AT MOST 1048576: true; the input reads as it did. -/
def nightPrefixUptoRow : OpenClaim := { program := "ythcfhmebikcfpaadoor", sum := "79552d640f4f9857f446fe250f0a7ec95c14bfb481b6ae4859389169e31e74f1", func := "flong/flonglaw14.NightPrefix", spec := "nightPrefix", inPlace := ["internal/abi.NoEscape", "internal/bytealg.IndexByteString", "internal/bytealg.IndexString"], unfollowed := true, recurses := true, named := ["unicode/utf8.first", "unicode/utf8.acceptRanges", "internal/bytealg.MaxLen"], apart := false, laid := [("unicode/utf8.acceptRanges", laid_unicode_utf8_acceptRanges), ("unicode/utf8.first", laid_unicode_utf8_first)], narrowed := true }
def NightPrefixUptoSaid : Prop := nightPrefixUptoRow.holds Tryd.pinned (OpenSpec.upto nightPrefixSpec)

/-- 'flonglaw14.NightLeast', WHERE WHAT IT READS IS OF BULK AT MOST 1048576: true; the input reads as it did. -/
def nightLeastUptoRow : OpenClaim := { program := "ythcfhmebikcfpaadoor", sum := "79552d640f4f9857f446fe250f0a7ec95c14bfb481b6ae4859389169e31e74f1", func := "flong/flonglaw14.NightLeast", spec := "nightLeast", inPlace := ["internal/abi.NoEscape", "internal/bytealg.IndexByteString", "internal/bytealg.IndexString"], unfollowed := true, recurses := true, named := ["unicode/utf8.first", "unicode/utf8.acceptRanges", "internal/bytealg.MaxLen"], apart := false, laid := [("unicode/utf8.acceptRanges", laid_unicode_utf8_acceptRanges), ("unicode/utf8.first", laid_unicode_utf8_first)], narrowed := true }
def NightLeastUptoSaid : Prop := nightLeastUptoRow.holds Tryd.pinned (OpenSpec.upto nightLeastSpec)

/-- 'flonglaw14.NightOrder', WHERE WHAT IT READS IS OF BULK AT MOST 1048576: true; the input reads as it did. -/
def nightOrderUptoRow : OpenClaim := { program := "ythcfhmebikcfpaadoor", sum := "79552d640f4f9857f446fe250f0a7ec95c14bfb481b6ae4859389169e31e74f1", func := "flong/flonglaw14.NightOrder", spec := "nightOrder", inPlace := ["internal/abi.NoEscape", "internal/bytealg.IndexByteString", "internal/bytealg.IndexString"], unfollowed := true, recurses := true, named := ["unicode/utf8.first", "unicode/utf8.acceptRanges", "internal/bytealg.MaxLen"], apart := false, laid := [("unicode/utf8.acceptRanges", laid_unicode_utf8_acceptRanges), ("unicode/utf8.first", laid_unicode_utf8_first)], narrowed := true }
def NightOrderUptoSaid : Prop := nightOrderUptoRow.holds Tryd.pinned (OpenSpec.upto nightOrderSpec)

/-- 'flonglaw14.NightApart', WHERE WHAT IT READS IS OF BULK AT MOST 1048576: true; the input reads as it did. -/
def nightApartUptoRow : OpenClaim := { program := "ythcfhmebikcfpaadoor", sum := "79552d640f4f9857f446fe250f0a7ec95c14bfb481b6ae4859389169e31e74f1", func := "flong/flonglaw14.NightApart", spec := "nightApart", inPlace := ["internal/abi.NoEscape", "internal/bytealg.IndexByteString", "internal/bytealg.IndexString"], unfollowed := true, recurses := true, named := ["unicode/utf8.first", "unicode/utf8.acceptRanges", "internal/bytealg.MaxLen"], apart := false, laid := [("unicode/utf8.acceptRanges", laid_unicode_utf8_acceptRanges), ("unicode/utf8.first", laid_unicode_utf8_first)], narrowed := true }
def NightApartUptoSaid : Prop := nightApartUptoRow.holds Tryd.pinned (OpenSpec.upto nightApartSpec)

/-- 'flonglaw14.NightByte', WHERE WHAT IT READS IS OF BULK AT MOST 1048576: true; the input reads as it did. -/
def nightByteUptoRow : OpenClaim := { program := "ythcfhmebikcfpaadoor", sum := "79552d640f4f9857f446fe250f0a7ec95c14bfb481b6ae4859389169e31e74f1", func := "flong/flonglaw14.NightByte", spec := "nightByte", inPlace := ["internal/abi.NoEscape", "internal/bytealg.IndexByteString", "internal/bytealg.IndexString"], unfollowed := true, recurses := true, named := ["unicode/utf8.first", "unicode/utf8.acceptRanges", "internal/bytealg.MaxLen"], apart := false, laid := [("unicode/utf8.acceptRanges", laid_unicode_utf8_acceptRanges), ("unicode/utf8.first", laid_unicode_utf8_first)], narrowed := true }
def NightByteUptoSaid : Prop := nightByteUptoRow.holds Tryd.pinned (OpenSpec.upto nightByteSpec)

/-- 'flonglaw14.NightCodes', WHERE WHAT IT READS IS OF BULK AT MOST 1048576: true; the input reads as it did. -/
def nightCodesUptoRow : OpenClaim := { program := "ythcfhmebikcfpaadoor", sum := "79552d640f4f9857f446fe250f0a7ec95c14bfb481b6ae4859389169e31e74f1", func := "flong/flonglaw14.NightCodes", spec := "nightCodes", inPlace := ["internal/abi.NoEscape", "internal/bytealg.IndexByteString", "internal/bytealg.IndexString"], unfollowed := true, recurses := true, named := ["unicode/utf8.first", "unicode/utf8.acceptRanges", "internal/bytealg.MaxLen"], apart := false, laid := [("unicode/utf8.acceptRanges", laid_unicode_utf8_acceptRanges), ("unicode/utf8.first", laid_unicode_utf8_first)], narrowed := true }
def NightCodesUptoSaid : Prop := nightCodesUptoRow.holds Tryd.pinned (OpenSpec.upto nightCodesSpec)

/-- 'flonglaw14.NightLong', WHERE WHAT IT READS IS OF BULK AT MOST 1048576: true; the input reads as it did. -/
def nightLongUptoRow : OpenClaim := { program := "ythcfhmebikcfpaadoor", sum := "79552d640f4f9857f446fe250f0a7ec95c14bfb481b6ae4859389169e31e74f1", func := "flong/flonglaw14.NightLong", spec := "nightLong", inPlace := ["internal/abi.NoEscape", "internal/bytealg.IndexByteString", "internal/bytealg.IndexString"], unfollowed := true, recurses := true, named := ["unicode/utf8.first", "unicode/utf8.acceptRanges", "internal/bytealg.MaxLen"], apart := false, laid := [("unicode/utf8.acceptRanges", laid_unicode_utf8_acceptRanges), ("unicode/utf8.first", laid_unicode_utf8_first)], narrowed := true }
def NightLongUptoSaid : Prop := nightLongUptoRow.holds Tryd.pinned (OpenSpec.upto nightLongSpec)

/-- 'flonglaw14.NightMore', WHERE WHAT IT READS IS OF BULK AT MOST 1048576: true; the input reads as it did. -/
def nightMoreUptoRow : OpenClaim := { program := "ythcfhmebikcfpaadoor", sum := "79552d640f4f9857f446fe250f0a7ec95c14bfb481b6ae4859389169e31e74f1", func := "flong/flonglaw14.NightMore", spec := "nightMore", inPlace := ["internal/abi.NoEscape", "internal/bytealg.IndexByteString", "internal/bytealg.IndexString"], unfollowed := true, recurses := true, named := ["unicode/utf8.first", "unicode/utf8.acceptRanges", "internal/bytealg.MaxLen"], apart := false, laid := [("unicode/utf8.acceptRanges", laid_unicode_utf8_acceptRanges), ("unicode/utf8.first", laid_unicode_utf8_first)], narrowed := true }
def NightMoreUptoSaid : Prop := nightMoreUptoRow.holds Tryd.pinned (OpenSpec.upto nightMoreSpec)

end Rows
end Go.Proofs.YthcfhmebikcfpaaDoor
