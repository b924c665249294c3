/-
  NARROWER THAN 'FOR EVERY INPUT', by the rows' own cells (each row's printed sentence says how): PathParams: laid · SrsStays: laid · SrsKnown: laid · SrsTwo: laid · SrsBack: laid.
  DERIVED. THE GIVEN ROWS OF THIS SEAT. 5 by the template 'for every input the law returns true; each argument reads behind the call as it read before'; 0 by the template 'total and deterministic' (their statements: YtgjlncfhghhaeaaGreatDoorTotals.lean).
  GIVEN WITH THE SEED: the statements are not yours to turn. If you find one false, say at which input.
  Laid BY PROGRAM, IN A SANDBOX (cutbox-rows.mjs): the forced cells as the released guide's own fill.sh prints them over the translation 5794d58465e29ed3… (all of the seat's roots in one cut). By AI agents, Wed Nov 11 2026. No macro, syntax, notation, axiom, sorry.
-/
import Derived.Test.YtgjlncfhghhaeaaGreatDoorChecked
import GoSem.PinnedTables
import GoSem.Claim
import GoSem.ClaimJoined
import GoSem.ClaimMapViews
import Derived.JoinedTies
import Derived.KernelRfl
namespace Go.Proofs.YtgjlncfhghhaeaaGreatDoor
/- THE CELL 'sum', in the pinned program and in every row, IS THE sha256 OF THE DUMP (.gsa) THAT YtgjlncfhghhaeaaGreatDoorProg.lean LOADS. Nothing in Lean hashes anything: it is a label: what it is worth is what the hold of that sum in a sandbox is worth. -/
noncomputable def Tryz.pinned : Pinned := { name := "ytgjlncfhghhaeaagreatdoor", sum := "5794d58465e29ed3861777579d2f5e091e21d7c7babf0f332882e8908624e30b", checked := Tryz.checked }
namespace Rows
def none {H : Type} : Left H := { results := [], args := [] }

/- WHAT THE LISTED PACKAGE-LEVEL VARIABLES READ AS WHEN THE CALL BEGINS. Each datum BY PROGRAM (the guide's laid-datum.mjs) off the statement by which the dump's own 'gosem.cut.vars' lays the variable. In a bare row this is a premise. The card (YtgjlncfhghhaeaaGreatDoorCards.lean) ties it to the program's text. -/
def laid_math_bits_deBruijn32tab {H : Type} : DataW H := .agg [.lit (.int .u8 0), .lit (.int .u8 1), .lit (.int .u8 28), .lit (.int .u8 2), .lit (.int .u8 29), .lit (.int .u8 14), .lit (.int .u8 24), .lit (.int .u8 3), .lit (.int .u8 30), .lit (.int .u8 22), .lit (.int .u8 20), .lit (.int .u8 15), .lit (.int .u8 25), .lit (.int .u8 17), .lit (.int .u8 4), .lit (.int .u8 8), .lit (.int .u8 31), .lit (.int .u8 27), .lit (.int .u8 13), .lit (.int .u8 23), .lit (.int .u8 21), .lit (.int .u8 19), .lit (.int .u8 16), .lit (.int .u8 7), .lit (.int .u8 26), .lit (.int .u8 12), .lit (.int .u8 18), .lit (.int .u8 6), .lit (.int .u8 11), .lit (.int .u8 5), .lit (.int .u8 10), .lit (.int .u8 9)]
def laid_math_bits_deBruijn64tab {H : Type} : DataW H := .agg [.lit (.int .u8 0), .lit (.int .u8 1), .lit (.int .u8 56), .lit (.int .u8 2), .lit (.int .u8 57), .lit (.int .u8 49), .lit (.int .u8 28), .lit (.int .u8 3), .lit (.int .u8 61), .lit (.int .u8 58), .lit (.int .u8 42), .lit (.int .u8 50), .lit (.int .u8 38), .lit (.int .u8 29), .lit (.int .u8 17), .lit (.int .u8 4), .lit (.int .u8 62), .lit (.int .u8 47), .lit (.int .u8 59), .lit (.int .u8 36), .lit (.int .u8 45), .lit (.int .u8 43), .lit (.int .u8 51), .lit (.int .u8 22), .lit (.int .u8 53), .lit (.int .u8 39), .lit (.int .u8 33), .lit (.int .u8 30), .lit (.int .u8 24), .lit (.int .u8 18), .lit (.int .u8 12), .lit (.int .u8 5), .lit (.int .u8 63), .lit (.int .u8 55), .lit (.int .u8 48), .lit (.int .u8 27), .lit (.int .u8 60), .lit (.int .u8 41), .lit (.int .u8 37), .lit (.int .u8 16), .lit (.int .u8 46), .lit (.int .u8 35), .lit (.int .u8 44), .lit (.int .u8 21), .lit (.int .u8 52), .lit (.int .u8 32), .lit (.int .u8 23), .lit (.int .u8 11), .lit (.int .u8 54), .lit (.int .u8 26), .lit (.int .u8 40), .lit (.int .u8 15), .lit (.int .u8 34), .lit (.int .u8 20), .lit (.int .u8 31), .lit (.int .u8 10), .lit (.int .u8 25), .lit (.int .u8 14), .lit (.int .u8 19), .lit (.int .u8 9), .lit (.int .u8 13), .lit (.int .u8 8), .lit (.int .u8 7), .lit (.int .u8 6)]
def laid_internal_strconv_uint64pow10 {H : Type} : DataW H := .agg [.lit (.int .u64 1), .lit (.int .u64 10), .lit (.int .u64 100), .lit (.int .u64 1000), .lit (.int .u64 10000), .lit (.int .u64 100000), .lit (.int .u64 1000000), .lit (.int .u64 10000000), .lit (.int .u64 100000000), .lit (.int .u64 1000000000), .lit (.int .u64 10000000000), .lit (.int .u64 100000000000), .lit (.int .u64 1000000000000), .lit (.int .u64 10000000000000), .lit (.int .u64 100000000000000), .lit (.int .u64 1000000000000000), .lit (.int .u64 10000000000000000), .lit (.int .u64 100000000000000000), .lit (.int .u64 1000000000000000000), .lit (.int .u64 10000000000000000000)]
def laid_unicode_utf8_acceptRanges {H : Type} : DataW H := .agg [.agg [.lit (.int .u8 128), .lit (.int .u8 191)], .agg [.lit (.int .u8 160), .lit (.int .u8 191)], .agg [.lit (.int .u8 128), .lit (.int .u8 159)], .agg [.lit (.int .u8 144), .lit (.int .u8 191)], .agg [.lit (.int .u8 128), .lit (.int .u8 143)], .agg [.lit (.int .u8 0), .lit (.int .u8 0)], .agg [.lit (.int .u8 0), .lit (.int .u8 0)], .agg [.lit (.int .u8 0), .lit (.int .u8 0)], .agg [.lit (.int .u8 0), .lit (.int .u8 0)], .agg [.lit (.int .u8 0), .lit (.int .u8 0)], .agg [.lit (.int .u8 0), .lit (.int .u8 0)], .agg [.lit (.int .u8 0), .lit (.int .u8 0)], .agg [.lit (.int .u8 0), .lit (.int .u8 0)], .agg [.lit (.int .u8 0), .lit (.int .u8 0)], .agg [.lit (.int .u8 0), .lit (.int .u8 0)], .agg [.lit (.int .u8 0), .lit (.int .u8 0)]]
def laid_postrider_text_atext {H : Type} : DataW H := .agg [.lit (.int .u32 0), .lit (.int .u32 2751442170), .lit (.int .u32 3355443198), .lit (.int .u32 2147483647)]
def laid_postrider_path_says {H : Type} : DataW H := .iface "func table" (.map [(.string [98, 111, 100, 121], .iface "func" (.lit (.string [112, 111, 115, 116, 114, 105, 100, 101, 114, 47, 112, 97, 116, 104, 46, 115, 97, 121, 115, 36, 50]))), (.string [115, 105, 122, 101], .iface "func" (.lit (.string [112, 111, 115, 116, 114, 105, 100, 101, 114, 47, 112, 97, 116, 104, 46, 115, 97, 121, 115, 36, 49])))])
/-- One of Go's own tables, pinned by name: the form's constant. -/
def laid_unicode_CaseRanges : DataW Unit := Go.Pinned.caseRanges
/-- One of Go's own tables, pinned by name: the form's constant. -/
def laid_unicode_utf8_first : DataW Unit := Go.Pinned.utf8First
def laid_postrider_hash_begins {H : Type} : DataW H := .agg [.lit (.int .u32 1732584193), .lit (.int .u32 4023233417), .lit (.int .u32 2562383102), .lit (.int .u32 271733878), .lit (.int .u32 3285377520)]
def laid_postrider_hash_turns {H : Type} : DataW H := .iface "func table" (.agg [.agg [.iface "func" (.lit (.string [112, 111, 115, 116, 114, 105, 100, 101, 114, 47, 104, 97, 115, 104, 46, 99, 104, 111, 105, 99, 101])), .lit (.int .u32 1518500249)], .agg [.iface "func" (.lit (.string [112, 111, 115, 116, 114, 105, 100, 101, 114, 47, 104, 97, 115, 104, 46, 112, 97, 114, 105, 116, 121])), .lit (.int .u32 1859775393)], .agg [.iface "func" (.lit (.string [112, 111, 115, 116, 114, 105, 100, 101, 114, 47, 104, 97, 115, 104, 46, 109, 111, 115, 116])), .lit (.int .u32 2400959708)], .agg [.iface "func" (.lit (.string [112, 111, 115, 116, 114, 105, 100, 101, 114, 47, 104, 97, 115, 104, 46, 112, 97, 114, 105, 116, 121])), .lit (.int .u32 3395469782)]])
def laid_postrider_coding_kinds {H : Type} : DataW H := .agg [.agg [.lit (.string [65, 66, 67, 68, 69, 70, 71, 72, 73, 74, 75, 76, 77, 78, 79, 80, 81, 82, 83, 84, 85, 86, 87, 88, 89, 90, 50, 51, 52, 53, 54, 55]), .lit (.int .i64 5), .lit (.int .i64 1)], .agg [.lit (.string [65, 66, 67, 68, 69, 70, 71, 72, 73, 74, 75, 76, 77, 78, 79, 80, 81, 82, 83, 84, 85, 86, 87, 88, 89, 90, 97, 98, 99, 100, 101, 102, 103, 104, 105, 106, 107, 108, 109, 110, 111, 112, 113, 114, 115, 116, 117, 118, 119, 120, 121, 122, 48, 49, 50, 51, 52, 53, 54, 55, 56, 57, 43, 47]), .lit (.int .i64 6), .lit (.int .i64 4)], .agg [.lit (.string [48, 49, 50, 51, 52, 53, 54, 55, 56, 57, 97, 98, 99, 100, 101, 102]), .lit (.int .i64 4), .lit (.int .i64 1)]]

/-- 'postriderlaw06.PathParams': WHATEVER THE INPUT: true; the input reads as it did. -/
def pathParamsSpec : ChangeSpec := { name := "pathParams", fn := fun _ => fun
  | [d1, d2, d3] => { results := [.lit (.bool true)], args := [d1, d2, d3] }
  | _ => none }
def pathParamsRow : OpenClaim := { program := "ytgjlncfhghhaeaagreatdoor", sum := "5794d58465e29ed3861777579d2f5e091e21d7c7babf0f332882e8908624e30b", func := "postrider/postriderlaw06.PathParams", spec := "pathParams", inPlace := ["internal/abi.NoEscape", "internal/bytealg.MakeNoZero", "internal/bytealg.IndexByteString", "internal/bytealg.IndexString", "internal/bytealg.CountString"], unfollowed := true, recurses := true, named := ["unicode/utf8.first", "unicode/utf8.acceptRanges", "unicode.CaseRanges", "postrider/path.says", "internal/bytealg.MaxLen", "postrider/text.atext", "internal/strconv.uint64pow10", "math/bits.deBruijn32tab", "math/bits.deBruijn64tab"], apart := false, laid := [("math/bits.deBruijn32tab", laid_math_bits_deBruijn32tab), ("math/bits.deBruijn64tab", laid_math_bits_deBruijn64tab), ("internal/strconv.uint64pow10", laid_internal_strconv_uint64pow10), ("unicode/utf8.acceptRanges", laid_unicode_utf8_acceptRanges), ("postrider/text.atext", laid_postrider_text_atext), ("postrider/path.says", laid_postrider_path_says), ("unicode.CaseRanges", laid_unicode_CaseRanges), ("unicode/utf8.first", laid_unicode_utf8_first)] }
def PathParamsSaid : Prop := pathParamsRow.holds Tryz.pinned (OpenSpec.ofChange pathParamsSpec)

/-- ITS FALSE NEIGHBOUR: 'it returns false'. Refute it at one input. -/
def pathParamsWrong : ChangeSpec := { name := "pathParams", fn := fun _ => fun
  | [d1, d2, d3] => { results := [.lit (.bool false)], args := [d1, d2, d3] }
  | _ => none }
def PathParamsWrongFalsely : Prop := pathParamsRow.holds Tryz.pinned (OpenSpec.ofChange pathParamsWrong)

/-- 'postriderlaw12.SrsStays': WHATEVER THE INPUT: true; the input reads as it did. -/
def srsStaysSpec : ChangeSpec := { name := "srsStays", fn := fun _ => fun
  | [d1, d2, d3] => { results := [.lit (.bool true)], args := [d1, d2, d3] }
  | _ => none }
def srsStaysRow : OpenClaim := { program := "ytgjlncfhghhaeaagreatdoor", sum := "5794d58465e29ed3861777579d2f5e091e21d7c7babf0f332882e8908624e30b", func := "postrider/postriderlaw12.SrsStays", spec := "srsStays", inPlace := ["internal/bytealg.CountString", "internal/bytealg.IndexByteString", "internal/bytealg.IndexString", "internal/abi.NoEscape", "internal/bytealg.MakeNoZero"], unfollowed := true, recurses := true, named := ["unicode/utf8.first", "unicode/utf8.acceptRanges", "internal/bytealg.MaxLen", "internal/strconv.uint64pow10", "math/bits.deBruijn32tab", "math/bits.deBruijn64tab", "postrider/hash.begins", "postrider/hash.turns", "postrider/coding.kinds"], apart := false, laid := [("math/bits.deBruijn32tab", laid_math_bits_deBruijn32tab), ("math/bits.deBruijn64tab", laid_math_bits_deBruijn64tab), ("internal/strconv.uint64pow10", laid_internal_strconv_uint64pow10), ("unicode/utf8.acceptRanges", laid_unicode_utf8_acceptRanges), ("postrider/hash.begins", laid_postrider_hash_begins), ("postrider/hash.turns", laid_postrider_hash_turns), ("postrider/coding.kinds", laid_postrider_coding_kinds), ("unicode/utf8.first", laid_unicode_utf8_first)] }
def SrsStaysSaid : Prop := srsStaysRow.holds Tryz.pinned (OpenSpec.ofChange srsStaysSpec)

/-- ITS FALSE NEIGHBOUR: 'it returns false'. Refute it at one input. -/
def srsStaysWrong : ChangeSpec := { name := "srsStays", fn := fun _ => fun
  | [d1, d2, d3] => { results := [.lit (.bool false)], args := [d1, d2, d3] }
  | _ => none }
def SrsStaysWrongFalsely : Prop := srsStaysRow.holds Tryz.pinned (OpenSpec.ofChange srsStaysWrong)

/-- 'postriderlaw12.SrsKnown': WHATEVER THE INPUT: true; the input reads as it did. -/
def srsKnownSpec : ChangeSpec := { name := "srsKnown", fn := fun _ => fun
  | [] => { results := [.lit (.bool true)], args := [] }
  | _ => none }
def srsKnownRow : OpenClaim := { program := "ytgjlncfhghhaeaagreatdoor", sum := "5794d58465e29ed3861777579d2f5e091e21d7c7babf0f332882e8908624e30b", func := "postrider/postriderlaw12.SrsKnown", spec := "srsKnown", inPlace := ["internal/abi.NoEscape", "internal/bytealg.CountString", "internal/bytealg.IndexByteString", "internal/bytealg.IndexString", "internal/bytealg.MakeNoZero"], unfollowed := true, recurses := true, named := ["postrider/hash.begins", "postrider/hash.turns", "postrider/coding.kinds", "unicode/utf8.first", "unicode/utf8.acceptRanges", "internal/bytealg.MaxLen", "internal/strconv.uint64pow10", "math/bits.deBruijn32tab", "math/bits.deBruijn64tab"], apart := false, laid := [("math/bits.deBruijn32tab", laid_math_bits_deBruijn32tab), ("math/bits.deBruijn64tab", laid_math_bits_deBruijn64tab), ("internal/strconv.uint64pow10", laid_internal_strconv_uint64pow10), ("unicode/utf8.acceptRanges", laid_unicode_utf8_acceptRanges), ("postrider/hash.begins", laid_postrider_hash_begins), ("postrider/hash.turns", laid_postrider_hash_turns), ("postrider/coding.kinds", laid_postrider_coding_kinds), ("unicode/utf8.first", laid_unicode_utf8_first)] }
def SrsKnownSaid : Prop := srsKnownRow.holds Tryz.pinned (OpenSpec.ofChange srsKnownSpec)

/-- ITS FALSE NEIGHBOUR: 'it returns false'. Refute it at one input. -/
def srsKnownWrong : ChangeSpec := { name := "srsKnown", fn := fun _ => fun
  | [] => { results := [.lit (.bool false)], args := [] }
  | _ => none }
def SrsKnownWrongFalsely : Prop := srsKnownRow.holds Tryz.pinned (OpenSpec.ofChange srsKnownWrong)

/-- 'postriderlaw12.SrsTwo': WHATEVER THE INPUT: true; the input reads as it did. -/
def srsTwoSpec : ChangeSpec := { name := "srsTwo", fn := fun _ => fun
  | [d1, d2, d3, d4] => { results := [.lit (.bool true)], args := [d1, d2, d3, d4] }
  | _ => none }
def srsTwoRow : OpenClaim := { program := "ytgjlncfhghhaeaagreatdoor", sum := "5794d58465e29ed3861777579d2f5e091e21d7c7babf0f332882e8908624e30b", func := "postrider/postriderlaw12.SrsTwo", spec := "srsTwo", inPlace := ["internal/abi.NoEscape", "internal/bytealg.MakeNoZero", "internal/bytealg.CountString", "internal/bytealg.IndexByteString", "internal/bytealg.IndexString"], unfollowed := true, recurses := true, named := ["unicode/utf8.first", "unicode/utf8.acceptRanges", "internal/bytealg.MaxLen", "internal/strconv.uint64pow10", "math/bits.deBruijn32tab", "math/bits.deBruijn64tab", "postrider/hash.begins", "postrider/hash.turns", "postrider/coding.kinds"], apart := false, laid := [("math/bits.deBruijn32tab", laid_math_bits_deBruijn32tab), ("math/bits.deBruijn64tab", laid_math_bits_deBruijn64tab), ("internal/strconv.uint64pow10", laid_internal_strconv_uint64pow10), ("unicode/utf8.acceptRanges", laid_unicode_utf8_acceptRanges), ("postrider/hash.begins", laid_postrider_hash_begins), ("postrider/hash.turns", laid_postrider_hash_turns), ("postrider/coding.kinds", laid_postrider_coding_kinds), ("unicode/utf8.first", laid_unicode_utf8_first)] }
def SrsTwoSaid : Prop := srsTwoRow.holds Tryz.pinned (OpenSpec.ofChange srsTwoSpec)

/-- ITS FALSE NEIGHBOUR: 'it returns false'. Refute it at one input. -/
def srsTwoWrong : ChangeSpec := { name := "srsTwo", fn := fun _ => fun
  | [d1, d2, d3, d4] => { results := [.lit (.bool false)], args := [d1, d2, d3, d4] }
  | _ => none }
def SrsTwoWrongFalsely : Prop := srsTwoRow.holds Tryz.pinned (OpenSpec.ofChange srsTwoWrong)

/-- 'postriderlaw12.SrsBack': WHATEVER THE INPUT: true; the input reads as it did. -/
def srsBackSpec : ChangeSpec := { name := "srsBack", fn := fun _ => fun
  | [d1, d2, d3, d4] => { results := [.lit (.bool true)], args := [d1, d2, d3, d4] }
  | _ => none }
def srsBackRow : OpenClaim := { program := "ytgjlncfhghhaeaagreatdoor", sum := "5794d58465e29ed3861777579d2f5e091e21d7c7babf0f332882e8908624e30b", func := "postrider/postriderlaw12.SrsBack", spec := "srsBack", inPlace := ["internal/abi.NoEscape", "internal/bytealg.MakeNoZero", "internal/bytealg.CountString", "internal/bytealg.IndexByteString", "internal/bytealg.IndexString"], unfollowed := true, recurses := true, named := ["unicode/utf8.first", "unicode/utf8.acceptRanges", "internal/bytealg.MaxLen", "internal/strconv.uint64pow10", "math/bits.deBruijn32tab", "math/bits.deBruijn64tab", "postrider/hash.begins", "postrider/hash.turns", "postrider/coding.kinds", "unicode.CaseRanges"], apart := false, laid := [("math/bits.deBruijn32tab", laid_math_bits_deBruijn32tab), ("math/bits.deBruijn64tab", laid_math_bits_deBruijn64tab), ("internal/strconv.uint64pow10", laid_internal_strconv_uint64pow10), ("unicode/utf8.acceptRanges", laid_unicode_utf8_acceptRanges), ("postrider/hash.begins", laid_postrider_hash_begins), ("postrider/hash.turns", laid_postrider_hash_turns), ("postrider/coding.kinds", laid_postrider_coding_kinds), ("unicode.CaseRanges", laid_unicode_CaseRanges), ("unicode/utf8.first", laid_unicode_utf8_first)] }
def SrsBackSaid : Prop := srsBackRow.holds Tryz.pinned (OpenSpec.ofChange srsBackSpec)

/-- ITS FALSE NEIGHBOUR: 'it returns false'. Refute it at one input. -/
def srsBackWrong : ChangeSpec := { name := "srsBack", fn := fun _ => fun
  | [d1, d2, d3, d4] => { results := [.lit (.bool false)], args := [d1, d2, d3, d4] }
  | _ => none }
def SrsBackWrongFalsely : Prop := srsBackRow.holds Tryz.pinned (OpenSpec.ofChange srsBackWrong)

/- THE SECOND FORM. 'bulk': how many values and letters a reading holds, each counted each time it is reached (what is shared counts as often as it is met; a slice's spare places count too). A statement '..UptoSaid' is the law's where the arguments, and the package variables that the reading takes, are together of bulk at most 1048576: NARROWER than '..Said'. Prove '..Said' where nothing that the law and all that it calls make is longer than what came in: it says more and counts as full. Else prove '..UptoSaid'. A law counts once. -/
mutual
def uptoBulk {H : Type} : DataW H → Nat
  | .lit (.string bytes) => bytes.length + 1
  | .lit _ => 1
  | .nil => 1
  | .ptr d => uptoBulk d + 1
  | .slice elems spare => uptoBulkAll elems + uptoBulkAll spare + 1
  | .agg parts => uptoBulkAll parts + 1
  | .iface _ d => uptoBulk d + 1
  | .map entries => uptoBulkEntries entries + 1
  | .held _ => 1
def uptoBulkAll {H : Type} : List (DataW H) → Nat
  | [] => 0
  | d :: r => uptoBulk d + uptoBulkAll r
def uptoBulkEntries {H : Type} : List (Lit × DataW H) → Nat
  | [] => 0
  | x :: r => uptoBulkEntry x + uptoBulkEntries r
def uptoBulkEntry {H : Type} : Lit × DataW H → Nat
  | (.string bytes, d) => bytes.length + uptoBulk d + 1
  | (_, d) => uptoBulk d + 1
 end
def uptoSmall : (H : Type) → List (DataW H) → Bool := fun _ ds => decide (uptoBulkAll ds ≤ 1048576)
def OpenSpec.upto (s : _root_.Go.ChangeSpec) : _root_.Go.OpenSpec := { _root_.Go.OpenSpec.ofChange s with cond := some uptoSmall }

/-- 'postriderlaw06.PathParams', WHERE WHAT IT READS IS OF BULK AT MOST 1048576: true; the input reads as it did. -/
def pathParamsUptoRow : OpenClaim := { program := "ytgjlncfhghhaeaagreatdoor", sum := "5794d58465e29ed3861777579d2f5e091e21d7c7babf0f332882e8908624e30b", func := "postrider/postriderlaw06.PathParams", spec := "pathParams", inPlace := ["internal/abi.NoEscape", "internal/bytealg.MakeNoZero", "internal/bytealg.IndexByteString", "internal/bytealg.IndexString", "internal/bytealg.CountString"], unfollowed := true, recurses := true, named := ["unicode/utf8.first", "unicode/utf8.acceptRanges", "unicode.CaseRanges", "postrider/path.says", "internal/bytealg.MaxLen", "postrider/text.atext", "internal/strconv.uint64pow10", "math/bits.deBruijn32tab", "math/bits.deBruijn64tab"], apart := false, laid := [("math/bits.deBruijn32tab", laid_math_bits_deBruijn32tab), ("math/bits.deBruijn64tab", laid_math_bits_deBruijn64tab), ("internal/strconv.uint64pow10", laid_internal_strconv_uint64pow10), ("unicode/utf8.acceptRanges", laid_unicode_utf8_acceptRanges), ("postrider/text.atext", laid_postrider_text_atext), ("postrider/path.says", laid_postrider_path_says), ("unicode.CaseRanges", laid_unicode_CaseRanges), ("unicode/utf8.first", laid_unicode_utf8_first)], narrowed := true }
def PathParamsUptoSaid : Prop := pathParamsUptoRow.holds Tryz.pinned (OpenSpec.upto pathParamsSpec)

/-- 'postriderlaw12.SrsStays', WHERE WHAT IT READS IS OF BULK AT MOST 1048576: true; the input reads as it did. -/
def srsStaysUptoRow : OpenClaim := { program := "ytgjlncfhghhaeaagreatdoor", sum := "5794d58465e29ed3861777579d2f5e091e21d7c7babf0f332882e8908624e30b", func := "postrider/postriderlaw12.SrsStays", spec := "srsStays", inPlace := ["internal/bytealg.CountString", "internal/bytealg.IndexByteString", "internal/bytealg.IndexString", "internal/abi.NoEscape", "internal/bytealg.MakeNoZero"], unfollowed := true, recurses := true, named := ["unicode/utf8.first", "unicode/utf8.acceptRanges", "internal/bytealg.MaxLen", "internal/strconv.uint64pow10", "math/bits.deBruijn32tab", "math/bits.deBruijn64tab", "postrider/hash.begins", "postrider/hash.turns", "postrider/coding.kinds"], apart := false, laid := [("math/bits.deBruijn32tab", laid_math_bits_deBruijn32tab), ("math/bits.deBruijn64tab", laid_math_bits_deBruijn64tab), ("internal/strconv.uint64pow10", laid_internal_strconv_uint64pow10), ("unicode/utf8.acceptRanges", laid_unicode_utf8_acceptRanges), ("postrider/hash.begins", laid_postrider_hash_begins), ("postrider/hash.turns", laid_postrider_hash_turns), ("postrider/coding.kinds", laid_postrider_coding_kinds), ("unicode/utf8.first", laid_unicode_utf8_first)], narrowed := true }
def SrsStaysUptoSaid : Prop := srsStaysUptoRow.holds Tryz.pinned (OpenSpec.upto srsStaysSpec)

/-- 'postriderlaw12.SrsKnown', WHERE WHAT IT READS IS OF BULK AT MOST 1048576: true; the input reads as it did. -/
def srsKnownUptoRow : OpenClaim := { program := "ytgjlncfhghhaeaagreatdoor", sum := "5794d58465e29ed3861777579d2f5e091e21d7c7babf0f332882e8908624e30b", func := "postrider/postriderlaw12.SrsKnown", spec := "srsKnown", inPlace := ["internal/abi.NoEscape", "internal/bytealg.CountString", "internal/bytealg.IndexByteString", "internal/bytealg.IndexString", "internal/bytealg.MakeNoZero"], unfollowed := true, recurses := true, named := ["postrider/hash.begins", "postrider/hash.turns", "postrider/coding.kinds", "unicode/utf8.first", "unicode/utf8.acceptRanges", "internal/bytealg.MaxLen", "internal/strconv.uint64pow10", "math/bits.deBruijn32tab", "math/bits.deBruijn64tab"], apart := false, laid := [("math/bits.deBruijn32tab", laid_math_bits_deBruijn32tab), ("math/bits.deBruijn64tab", laid_math_bits_deBruijn64tab), ("internal/strconv.uint64pow10", laid_internal_strconv_uint64pow10), ("unicode/utf8.acceptRanges", laid_unicode_utf8_acceptRanges), ("postrider/hash.begins", laid_postrider_hash_begins), ("postrider/hash.turns", laid_postrider_hash_turns), ("postrider/coding.kinds", laid_postrider_coding_kinds), ("unicode/utf8.first", laid_unicode_utf8_first)], narrowed := true }
def SrsKnownUptoSaid : Prop := srsKnownUptoRow.holds Tryz.pinned (OpenSpec.upto srsKnownSpec)

/-- 'postriderlaw12.SrsTwo', WHERE WHAT IT READS IS OF BULK AT MOST 1048576: true; the input reads as it did. -/
def srsTwoUptoRow : OpenClaim := { program := "ytgjlncfhghhaeaagreatdoor", sum := "5794d58465e29ed3861777579d2f5e091e21d7c7babf0f332882e8908624e30b", func := "postrider/postriderlaw12.SrsTwo", spec := "srsTwo", inPlace := ["internal/abi.NoEscape", "internal/bytealg.MakeNoZero", "internal/bytealg.CountString", "internal/bytealg.IndexByteString", "internal/bytealg.IndexString"], unfollowed := true, recurses := true, named := ["unicode/utf8.first", "unicode/utf8.acceptRanges", "internal/bytealg.MaxLen", "internal/strconv.uint64pow10", "math/bits.deBruijn32tab", "math/bits.deBruijn64tab", "postrider/hash.begins", "postrider/hash.turns", "postrider/coding.kinds"], apart := false, laid := [("math/bits.deBruijn32tab", laid_math_bits_deBruijn32tab), ("math/bits.deBruijn64tab", laid_math_bits_deBruijn64tab), ("internal/strconv.uint64pow10", laid_internal_strconv_uint64pow10), ("unicode/utf8.acceptRanges", laid_unicode_utf8_acceptRanges), ("postrider/hash.begins", laid_postrider_hash_begins), ("postrider/hash.turns", laid_postrider_hash_turns), ("postrider/coding.kinds", laid_postrider_coding_kinds), ("unicode/utf8.first", laid_unicode_utf8_first)], narrowed := true }
def SrsTwoUptoSaid : Prop := srsTwoUptoRow.holds Tryz.pinned (OpenSpec.upto srsTwoSpec)

/-- 'postriderlaw12.SrsBack', WHERE WHAT IT READS IS OF BULK AT MOST 1048576: true; the input reads as it did. -/
def srsBackUptoRow : OpenClaim := { program := "ytgjlncfhghhaeaagreatdoor", sum := "5794d58465e29ed3861777579d2f5e091e21d7c7babf0f332882e8908624e30b", func := "postrider/postriderlaw12.SrsBack", spec := "srsBack", inPlace := ["internal/abi.NoEscape", "internal/bytealg.MakeNoZero", "internal/bytealg.CountString", "internal/bytealg.IndexByteString", "internal/bytealg.IndexString"], unfollowed := true, recurses := true, named := ["unicode/utf8.first", "unicode/utf8.acceptRanges", "internal/bytealg.MaxLen", "internal/strconv.uint64pow10", "math/bits.deBruijn32tab", "math/bits.deBruijn64tab", "postrider/hash.begins", "postrider/hash.turns", "postrider/coding.kinds", "unicode.CaseRanges"], apart := false, laid := [("math/bits.deBruijn32tab", laid_math_bits_deBruijn32tab), ("math/bits.deBruijn64tab", laid_math_bits_deBruijn64tab), ("internal/strconv.uint64pow10", laid_internal_strconv_uint64pow10), ("unicode/utf8.acceptRanges", laid_unicode_utf8_acceptRanges), ("postrider/hash.begins", laid_postrider_hash_begins), ("postrider/hash.turns", laid_postrider_hash_turns), ("postrider/coding.kinds", laid_postrider_coding_kinds), ("unicode.CaseRanges", laid_unicode_CaseRanges), ("unicode/utf8.first", laid_unicode_utf8_first)], narrowed := true }
def SrsBackUptoSaid : Prop := srsBackUptoRow.holds Tryz.pinned (OpenSpec.upto srsBackSpec)

end Rows
end Go.Proofs.YtgjlncfhghhaeaaGreatDoor
