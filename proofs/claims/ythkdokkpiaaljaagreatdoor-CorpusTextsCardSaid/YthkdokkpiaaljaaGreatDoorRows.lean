/-
  NARROWER THAN 'FOR EVERY INPUT', by the rows' own cells (each row's printed sentence says how): LinesShow: laid · LinesRead: laid · LinesBack: laid · LinesAgain: laid · LinesBlank: laid · LinesBroken: laid · CorpusTexts: laid.
  DERIVED. THE GIVEN ROWS OF THIS SEAT. 7 by the template 'for every input the law returns true; each argument reads behind the call as it read before'; 0 by the template 'total and deterministic' (their statements: YthkdokkpiaaljaaGreatDoorTotals.lean).
  GIVEN WITH THE SEED: the statements are not yours to turn. If you find one false, say at which input.
  Laid BY PROGRAM, IN A SANDBOX (cutbox-rows.mjs): the forced cells as the released guide's own fill.sh prints them over the translation e5a02bb18b5d2d9f… (all of the seat's roots in one cut). By AI agents, Wed Nov 11 2026. No macro, syntax, notation, axiom, sorry.
-/
import Derived.Test.YthkdokkpiaaljaaGreatDoorChecked
import GoSem.PinnedTables
import GoSem.Claim
import GoSem.ClaimJoined
import GoSem.ClaimMapViews
import Derived.JoinedTies
import Derived.KernelRfl
namespace Go.Proofs.YthkdokkpiaaljaaGreatDoor
/- THE CELL 'sum', in the pinned program and in every row, IS THE sha256 OF THE DUMP (.gsa) THAT YthkdokkpiaaljaaGreatDoorProg.lean LOADS. Nothing in Lean hashes anything: it is a label: what it is worth is what the hold of that sum in a sandbox is worth. -/
noncomputable def Tryz.pinned : Pinned := { name := "ythkdokkpiaaljaagreatdoor", sum := "e5a02bb18b5d2d9fb5a056d43f89481cd4fedfd54e3544d23027ee1011094c9a", checked := Tryz.checked }
namespace Rows
def none {H : Type} : Left H := { results := [], args := [] }

/- WHAT THE LISTED PACKAGE-LEVEL VARIABLES READ AS WHEN THE CALL BEGINS. Each datum BY PROGRAM (the guide's laid-datum.mjs) off the statement by which the dump's own 'gosem.cut.vars' lays the variable. In a bare row this is a premise. The card (YthkdokkpiaaljaaGreatDoorCards.lean) ties it to the program's text. -/
def laid_math_bits_deBruijn32tab {H : Type} : DataW H := .agg [.lit (.int .u8 0), .lit (.int .u8 1), .lit (.int .u8 28), .lit (.int .u8 2), .lit (.int .u8 29), .lit (.int .u8 14), .lit (.int .u8 24), .lit (.int .u8 3), .lit (.int .u8 30), .lit (.int .u8 22), .lit (.int .u8 20), .lit (.int .u8 15), .lit (.int .u8 25), .lit (.int .u8 17), .lit (.int .u8 4), .lit (.int .u8 8), .lit (.int .u8 31), .lit (.int .u8 27), .lit (.int .u8 13), .lit (.int .u8 23), .lit (.int .u8 21), .lit (.int .u8 19), .lit (.int .u8 16), .lit (.int .u8 7), .lit (.int .u8 26), .lit (.int .u8 12), .lit (.int .u8 18), .lit (.int .u8 6), .lit (.int .u8 11), .lit (.int .u8 5), .lit (.int .u8 10), .lit (.int .u8 9)]
def laid_math_bits_deBruijn64tab {H : Type} : DataW H := .agg [.lit (.int .u8 0), .lit (.int .u8 1), .lit (.int .u8 56), .lit (.int .u8 2), .lit (.int .u8 57), .lit (.int .u8 49), .lit (.int .u8 28), .lit (.int .u8 3), .lit (.int .u8 61), .lit (.int .u8 58), .lit (.int .u8 42), .lit (.int .u8 50), .lit (.int .u8 38), .lit (.int .u8 29), .lit (.int .u8 17), .lit (.int .u8 4), .lit (.int .u8 62), .lit (.int .u8 47), .lit (.int .u8 59), .lit (.int .u8 36), .lit (.int .u8 45), .lit (.int .u8 43), .lit (.int .u8 51), .lit (.int .u8 22), .lit (.int .u8 53), .lit (.int .u8 39), .lit (.int .u8 33), .lit (.int .u8 30), .lit (.int .u8 24), .lit (.int .u8 18), .lit (.int .u8 12), .lit (.int .u8 5), .lit (.int .u8 63), .lit (.int .u8 55), .lit (.int .u8 48), .lit (.int .u8 27), .lit (.int .u8 60), .lit (.int .u8 41), .lit (.int .u8 37), .lit (.int .u8 16), .lit (.int .u8 46), .lit (.int .u8 35), .lit (.int .u8 44), .lit (.int .u8 21), .lit (.int .u8 52), .lit (.int .u8 32), .lit (.int .u8 23), .lit (.int .u8 11), .lit (.int .u8 54), .lit (.int .u8 26), .lit (.int .u8 40), .lit (.int .u8 15), .lit (.int .u8 34), .lit (.int .u8 20), .lit (.int .u8 31), .lit (.int .u8 10), .lit (.int .u8 25), .lit (.int .u8 14), .lit (.int .u8 19), .lit (.int .u8 9), .lit (.int .u8 13), .lit (.int .u8 8), .lit (.int .u8 7), .lit (.int .u8 6)]
def laid_internal_strconv_uint64pow10 {H : Type} : DataW H := .agg [.lit (.int .u64 1), .lit (.int .u64 10), .lit (.int .u64 100), .lit (.int .u64 1000), .lit (.int .u64 10000), .lit (.int .u64 100000), .lit (.int .u64 1000000), .lit (.int .u64 10000000), .lit (.int .u64 100000000), .lit (.int .u64 1000000000), .lit (.int .u64 10000000000), .lit (.int .u64 100000000000), .lit (.int .u64 1000000000000), .lit (.int .u64 10000000000000), .lit (.int .u64 100000000000000), .lit (.int .u64 1000000000000000), .lit (.int .u64 10000000000000000), .lit (.int .u64 100000000000000000), .lit (.int .u64 1000000000000000000), .lit (.int .u64 10000000000000000000)]
def laid_unicode_utf8_acceptRanges {H : Type} : DataW H := .agg [.agg [.lit (.int .u8 128), .lit (.int .u8 191)], .agg [.lit (.int .u8 160), .lit (.int .u8 191)], .agg [.lit (.int .u8 128), .lit (.int .u8 159)], .agg [.lit (.int .u8 144), .lit (.int .u8 191)], .agg [.lit (.int .u8 128), .lit (.int .u8 143)], .agg [.lit (.int .u8 0), .lit (.int .u8 0)], .agg [.lit (.int .u8 0), .lit (.int .u8 0)], .agg [.lit (.int .u8 0), .lit (.int .u8 0)], .agg [.lit (.int .u8 0), .lit (.int .u8 0)], .agg [.lit (.int .u8 0), .lit (.int .u8 0)], .agg [.lit (.int .u8 0), .lit (.int .u8 0)], .agg [.lit (.int .u8 0), .lit (.int .u8 0)], .agg [.lit (.int .u8 0), .lit (.int .u8 0)], .agg [.lit (.int .u8 0), .lit (.int .u8 0)], .agg [.lit (.int .u8 0), .lit (.int .u8 0)], .agg [.lit (.int .u8 0), .lit (.int .u8 0)]]
def laid_strconv_ErrRange {H : Type} : DataW H := .iface "*errors.errorString" (.ptr (.agg [.lit (.string [118, 97, 108, 117, 101, 32, 111, 117, 116, 32, 111, 102, 32, 114, 97, 110, 103, 101])]))
def laid_strconv_ErrSyntax {H : Type} : DataW H := .iface "*errors.errorString" (.ptr (.agg [.lit (.string [105, 110, 118, 97, 108, 105, 100, 32, 115, 121, 110, 116, 97, 120])]))
def laid_firewall_insns_sizes {H : Type} : DataW H := .map [(.int .u8 97, .lit (.int .i64 4)), (.int .u8 98, .lit (.int .i64 4)), (.int .u8 99, .lit (.int .i64 4)), (.int .u8 105, .lit (.int .i64 2)), (.int .u8 106, .lit (.int .i64 2)), (.int .u8 107, .lit (.int .i64 2)), (.int .u8 113, .lit (.int .i64 1)), (.int .u8 114, .lit (.int .i64 1)), (.int .u8 115, .lit (.int .i64 1)), (.int .u8 121, .lit (.int .i64 8)), (.int .u8 122, .lit (.int .i64 8)), (.int .u8 123, .lit (.int .i64 8))]
def laid_firewall_lines_ariths {H : Type} : DataW H := .agg [.lit (.string [97, 100, 100]), .lit (.string [115, 117, 98]), .lit (.string [109, 117, 108]), .lit (.string [100, 105, 118]), .lit (.string [111, 114]), .lit (.string [97, 110, 100]), .lit (.string [108, 115, 104]), .lit (.string [114, 115, 104]), .lit (.string [110, 101, 103]), .lit (.string [109, 111, 100]), .lit (.string [120, 111, 114]), .lit (.string [109, 111, 118]), .lit (.string [97, 114, 115, 104])]
def laid_firewall_lines_jumps {H : Type} : DataW H := .agg [.lit (.string []), .lit (.string [106, 101, 113]), .lit (.string [106, 103, 116]), .lit (.string [106, 103, 101]), .lit (.string [106, 115, 101, 116]), .lit (.string [106, 110, 101]), .lit (.string [106, 115, 103, 116]), .lit (.string [106, 115, 103, 101]), .lit (.string []), .lit (.string []), .lit (.string [106, 108, 116]), .lit (.string [106, 108, 101]), .lit (.string [106, 115, 108, 116]), .lit (.string [106, 115, 108, 101])]
def laid_firewall_lines_sizes {H : Type} : DataW H := .map [(.int .i64 1, .agg [.lit (.int .u8 113), .lit (.int .u8 114), .lit (.int .u8 115)]), (.int .i64 2, .agg [.lit (.int .u8 105), .lit (.int .u8 106), .lit (.int .u8 107)]), (.int .i64 4, .agg [.lit (.int .u8 97), .lit (.int .u8 98), .lit (.int .u8 99)]), (.int .i64 8, .agg [.lit (.int .u8 121), .lit (.int .u8 122), .lit (.int .u8 123)])]
/-- One of Go's own tables, pinned by name: the form's constant. -/
def laid_unicode_utf8_first : DataW Unit := Go.Pinned.utf8First

/-- 'firewalllaw03.LinesShow': WHATEVER THE INPUT: true; the input reads as it did. -/
def linesShowSpec : ChangeSpec := { name := "linesShow", fn := fun _ => fun
  | [d] => { results := [.lit (.bool true)], args := [d] }
  | _ => none }
def linesShowRow : OpenClaim := { program := "ythkdokkpiaaljaagreatdoor", sum := "e5a02bb18b5d2d9fb5a056d43f89481cd4fedfd54e3544d23027ee1011094c9a", func := "firewall/firewalllaw03.LinesShow", spec := "linesShow", inPlace := ["internal/bytealg.CountString", "internal/bytealg.IndexByteString", "internal/bytealg.IndexString", "internal/abi.NoEscape", "internal/bytealg.MakeNoZero"], unfollowed := true, recurses := true, named := ["unicode/utf8.first", "unicode/utf8.acceptRanges", "internal/bytealg.MaxLen", "strconv.ErrSyntax", "strconv.ErrRange", "internal/strconv.uint64pow10", "math/bits.deBruijn32tab", "math/bits.deBruijn64tab", "firewall/lines.sizes", "firewall/lines.ariths", "firewall/lines.jumps", "firewall/insns.sizes"], apart := false, laid := [("math/bits.deBruijn32tab", laid_math_bits_deBruijn32tab), ("math/bits.deBruijn64tab", laid_math_bits_deBruijn64tab), ("internal/strconv.uint64pow10", laid_internal_strconv_uint64pow10), ("unicode/utf8.acceptRanges", laid_unicode_utf8_acceptRanges), ("strconv.ErrRange", laid_strconv_ErrRange), ("strconv.ErrSyntax", laid_strconv_ErrSyntax), ("firewall/insns.sizes", laid_firewall_insns_sizes), ("firewall/lines.ariths", laid_firewall_lines_ariths), ("firewall/lines.jumps", laid_firewall_lines_jumps), ("firewall/lines.sizes", laid_firewall_lines_sizes), ("unicode/utf8.first", laid_unicode_utf8_first)] }
def LinesShowSaid : Prop := linesShowRow.holds Tryz.pinned (OpenSpec.ofChange linesShowSpec)

/-- ITS FALSE NEIGHBOUR: 'it returns false'. Refute it at one input. -/
def linesShowWrong : ChangeSpec := { name := "linesShow", fn := fun _ => fun
  | [d] => { results := [.lit (.bool false)], args := [d] }
  | _ => none }
def LinesShowWrongFalsely : Prop := linesShowRow.holds Tryz.pinned (OpenSpec.ofChange linesShowWrong)

/-- 'firewalllaw03.LinesRead': WHATEVER THE INPUT: true; the input reads as it did. -/
def linesReadSpec : ChangeSpec := { name := "linesRead", fn := fun _ => fun
  | [d] => { results := [.lit (.bool true)], args := [d] }
  | _ => none }
def linesReadRow : OpenClaim := { program := "ythkdokkpiaaljaagreatdoor", sum := "e5a02bb18b5d2d9fb5a056d43f89481cd4fedfd54e3544d23027ee1011094c9a", func := "firewall/firewalllaw03.LinesRead", spec := "linesRead", inPlace := ["internal/bytealg.CountString", "internal/bytealg.IndexByteString", "internal/bytealg.IndexString", "internal/abi.NoEscape", "internal/bytealg.MakeNoZero"], unfollowed := true, recurses := true, named := ["unicode/utf8.first", "unicode/utf8.acceptRanges", "internal/bytealg.MaxLen", "strconv.ErrSyntax", "strconv.ErrRange", "internal/strconv.uint64pow10", "math/bits.deBruijn32tab", "math/bits.deBruijn64tab", "firewall/lines.sizes", "firewall/lines.ariths", "firewall/lines.jumps", "firewall/insns.sizes"], apart := false, laid := [("math/bits.deBruijn32tab", laid_math_bits_deBruijn32tab), ("math/bits.deBruijn64tab", laid_math_bits_deBruijn64tab), ("internal/strconv.uint64pow10", laid_internal_strconv_uint64pow10), ("unicode/utf8.acceptRanges", laid_unicode_utf8_acceptRanges), ("strconv.ErrRange", laid_strconv_ErrRange), ("strconv.ErrSyntax", laid_strconv_ErrSyntax), ("firewall/insns.sizes", laid_firewall_insns_sizes), ("firewall/lines.ariths", laid_firewall_lines_ariths), ("firewall/lines.jumps", laid_firewall_lines_jumps), ("firewall/lines.sizes", laid_firewall_lines_sizes), ("unicode/utf8.first", laid_unicode_utf8_first)] }
def LinesReadSaid : Prop := linesReadRow.holds Tryz.pinned (OpenSpec.ofChange linesReadSpec)

/-- ITS FALSE NEIGHBOUR: 'it returns false'. Refute it at one input. -/
def linesReadWrong : ChangeSpec := { name := "linesRead", fn := fun _ => fun
  | [d] => { results := [.lit (.bool false)], args := [d] }
  | _ => none }
def LinesReadWrongFalsely : Prop := linesReadRow.holds Tryz.pinned (OpenSpec.ofChange linesReadWrong)

/-- 'firewalllaw03.LinesBack': WHATEVER THE INPUT: true; the input reads as it did. -/
def linesBackSpec : ChangeSpec := { name := "linesBack", fn := fun _ => fun
  | [d] => { results := [.lit (.bool true)], args := [d] }
  | _ => none }
def linesBackRow : OpenClaim := { program := "ythkdokkpiaaljaagreatdoor", sum := "e5a02bb18b5d2d9fb5a056d43f89481cd4fedfd54e3544d23027ee1011094c9a", func := "firewall/firewalllaw03.LinesBack", spec := "linesBack", inPlace := ["internal/bytealg.CountString", "internal/bytealg.IndexByteString", "internal/bytealg.IndexString", "internal/abi.NoEscape", "internal/bytealg.MakeNoZero"], unfollowed := true, recurses := true, named := ["unicode/utf8.first", "unicode/utf8.acceptRanges", "internal/bytealg.MaxLen", "strconv.ErrSyntax", "strconv.ErrRange", "internal/strconv.uint64pow10", "math/bits.deBruijn32tab", "math/bits.deBruijn64tab", "firewall/lines.sizes", "firewall/lines.ariths", "firewall/lines.jumps", "firewall/insns.sizes"], apart := false, laid := [("math/bits.deBruijn32tab", laid_math_bits_deBruijn32tab), ("math/bits.deBruijn64tab", laid_math_bits_deBruijn64tab), ("internal/strconv.uint64pow10", laid_internal_strconv_uint64pow10), ("unicode/utf8.acceptRanges", laid_unicode_utf8_acceptRanges), ("strconv.ErrRange", laid_strconv_ErrRange), ("strconv.ErrSyntax", laid_strconv_ErrSyntax), ("firewall/insns.sizes", laid_firewall_insns_sizes), ("firewall/lines.ariths", laid_firewall_lines_ariths), ("firewall/lines.jumps", laid_firewall_lines_jumps), ("firewall/lines.sizes", laid_firewall_lines_sizes), ("unicode/utf8.first", laid_unicode_utf8_first)] }
def LinesBackSaid : Prop := linesBackRow.holds Tryz.pinned (OpenSpec.ofChange linesBackSpec)

/-- ITS FALSE NEIGHBOUR: 'it returns false'. Refute it at one input. -/
def linesBackWrong : ChangeSpec := { name := "linesBack", fn := fun _ => fun
  | [d] => { results := [.lit (.bool false)], args := [d] }
  | _ => none }
def LinesBackWrongFalsely : Prop := linesBackRow.holds Tryz.pinned (OpenSpec.ofChange linesBackWrong)

/-- 'firewalllaw03.LinesAgain': WHATEVER THE INPUT: true; the input reads as it did. -/
def linesAgainSpec : ChangeSpec := { name := "linesAgain", fn := fun _ => fun
  | [d] => { results := [.lit (.bool true)], args := [d] }
  | _ => none }
def linesAgainRow : OpenClaim := { program := "ythkdokkpiaaljaagreatdoor", sum := "e5a02bb18b5d2d9fb5a056d43f89481cd4fedfd54e3544d23027ee1011094c9a", func := "firewall/firewalllaw03.LinesAgain", spec := "linesAgain", inPlace := ["internal/bytealg.CountString", "internal/bytealg.IndexByteString", "internal/bytealg.IndexString", "internal/abi.NoEscape", "internal/bytealg.MakeNoZero"], unfollowed := true, recurses := true, named := ["unicode/utf8.first", "unicode/utf8.acceptRanges", "internal/bytealg.MaxLen", "strconv.ErrSyntax", "strconv.ErrRange", "internal/strconv.uint64pow10", "math/bits.deBruijn32tab", "math/bits.deBruijn64tab", "firewall/lines.sizes", "firewall/lines.ariths", "firewall/lines.jumps", "firewall/insns.sizes"], apart := false, laid := [("math/bits.deBruijn32tab", laid_math_bits_deBruijn32tab), ("math/bits.deBruijn64tab", laid_math_bits_deBruijn64tab), ("internal/strconv.uint64pow10", laid_internal_strconv_uint64pow10), ("unicode/utf8.acceptRanges", laid_unicode_utf8_acceptRanges), ("strconv.ErrRange", laid_strconv_ErrRange), ("strconv.ErrSyntax", laid_strconv_ErrSyntax), ("firewall/insns.sizes", laid_firewall_insns_sizes), ("firewall/lines.ariths", laid_firewall_lines_ariths), ("firewall/lines.jumps", laid_firewall_lines_jumps), ("firewall/lines.sizes", laid_firewall_lines_sizes), ("unicode/utf8.first", laid_unicode_utf8_first)] }
def LinesAgainSaid : Prop := linesAgainRow.holds Tryz.pinned (OpenSpec.ofChange linesAgainSpec)

/-- ITS FALSE NEIGHBOUR: 'it returns false'. Refute it at one input. -/
def linesAgainWrong : ChangeSpec := { name := "linesAgain", fn := fun _ => fun
  | [d] => { results := [.lit (.bool false)], args := [d] }
  | _ => none }
def LinesAgainWrongFalsely : Prop := linesAgainRow.holds Tryz.pinned (OpenSpec.ofChange linesAgainWrong)

/-- 'firewalllaw03.LinesBlank': WHATEVER THE INPUT: true; the input reads as it did. -/
def linesBlankSpec : ChangeSpec := { name := "linesBlank", fn := fun _ => fun
  | [d1, d2, d3] => { results := [.lit (.bool true)], args := [d1, d2, d3] }
  | _ => none }
def linesBlankRow : OpenClaim := { program := "ythkdokkpiaaljaagreatdoor", sum := "e5a02bb18b5d2d9fb5a056d43f89481cd4fedfd54e3544d23027ee1011094c9a", func := "firewall/firewalllaw03.LinesBlank", spec := "linesBlank", inPlace := ["internal/bytealg.CountString", "internal/bytealg.IndexByteString", "internal/bytealg.IndexString", "internal/abi.NoEscape", "internal/bytealg.MakeNoZero"], unfollowed := true, recurses := true, named := ["unicode/utf8.first", "unicode/utf8.acceptRanges", "internal/bytealg.MaxLen", "strconv.ErrSyntax", "strconv.ErrRange", "internal/strconv.uint64pow10", "math/bits.deBruijn32tab", "math/bits.deBruijn64tab", "firewall/lines.sizes", "firewall/lines.ariths", "firewall/lines.jumps", "firewall/insns.sizes"], apart := false, laid := [("math/bits.deBruijn32tab", laid_math_bits_deBruijn32tab), ("math/bits.deBruijn64tab", laid_math_bits_deBruijn64tab), ("internal/strconv.uint64pow10", laid_internal_strconv_uint64pow10), ("unicode/utf8.acceptRanges", laid_unicode_utf8_acceptRanges), ("strconv.ErrRange", laid_strconv_ErrRange), ("strconv.ErrSyntax", laid_strconv_ErrSyntax), ("firewall/insns.sizes", laid_firewall_insns_sizes), ("firewall/lines.ariths", laid_firewall_lines_ariths), ("firewall/lines.jumps", laid_firewall_lines_jumps), ("firewall/lines.sizes", laid_firewall_lines_sizes), ("unicode/utf8.first", laid_unicode_utf8_first)] }
def LinesBlankSaid : Prop := linesBlankRow.holds Tryz.pinned (OpenSpec.ofChange linesBlankSpec)

/-- ITS FALSE NEIGHBOUR: 'it returns false'. Refute it at one input. -/
def linesBlankWrong : ChangeSpec := { name := "linesBlank", fn := fun _ => fun
  | [d1, d2, d3] => { results := [.lit (.bool false)], args := [d1, d2, d3] }
  | _ => none }
def LinesBlankWrongFalsely : Prop := linesBlankRow.holds Tryz.pinned (OpenSpec.ofChange linesBlankWrong)

/-- 'firewalllaw03.LinesBroken': WHATEVER THE INPUT: true; the input reads as it did. -/
def linesBrokenSpec : ChangeSpec := { name := "linesBroken", fn := fun _ => fun
  | [d1, d2, d3] => { results := [.lit (.bool true)], args := [d1, d2, d3] }
  | _ => none }
def linesBrokenRow : OpenClaim := { program := "ythkdokkpiaaljaagreatdoor", sum := "e5a02bb18b5d2d9fb5a056d43f89481cd4fedfd54e3544d23027ee1011094c9a", func := "firewall/firewalllaw03.LinesBroken", spec := "linesBroken", inPlace := ["internal/bytealg.CountString", "internal/bytealg.IndexByteString", "internal/bytealg.IndexString", "internal/abi.NoEscape", "internal/bytealg.MakeNoZero"], unfollowed := true, recurses := true, named := ["unicode/utf8.first", "unicode/utf8.acceptRanges", "internal/bytealg.MaxLen", "strconv.ErrSyntax", "strconv.ErrRange", "internal/strconv.uint64pow10", "math/bits.deBruijn32tab", "math/bits.deBruijn64tab", "firewall/lines.sizes", "firewall/lines.ariths", "firewall/lines.jumps", "firewall/insns.sizes"], apart := false, laid := [("math/bits.deBruijn32tab", laid_math_bits_deBruijn32tab), ("math/bits.deBruijn64tab", laid_math_bits_deBruijn64tab), ("internal/strconv.uint64pow10", laid_internal_strconv_uint64pow10), ("unicode/utf8.acceptRanges", laid_unicode_utf8_acceptRanges), ("strconv.ErrRange", laid_strconv_ErrRange), ("strconv.ErrSyntax", laid_strconv_ErrSyntax), ("firewall/insns.sizes", laid_firewall_insns_sizes), ("firewall/lines.ariths", laid_firewall_lines_ariths), ("firewall/lines.jumps", laid_firewall_lines_jumps), ("firewall/lines.sizes", laid_firewall_lines_sizes), ("unicode/utf8.first", laid_unicode_utf8_first)] }
def LinesBrokenSaid : Prop := linesBrokenRow.holds Tryz.pinned (OpenSpec.ofChange linesBrokenSpec)

/-- ITS FALSE NEIGHBOUR: 'it returns false'. Refute it at one input. -/
def linesBrokenWrong : ChangeSpec := { name := "linesBroken", fn := fun _ => fun
  | [d1, d2, d3] => { results := [.lit (.bool false)], args := [d1, d2, d3] }
  | _ => none }
def LinesBrokenWrongFalsely : Prop := linesBrokenRow.holds Tryz.pinned (OpenSpec.ofChange linesBrokenWrong)

/-- 'firewalllaw28.CorpusTexts': WHATEVER THE INPUT: true; the input reads as it did. -/
def corpusTextsSpec : ChangeSpec := { name := "corpusTexts", fn := fun _ => fun
  | [d1, d2] => { results := [.lit (.bool true)], args := [d1, d2] }
  | _ => none }
def corpusTextsRow : OpenClaim := { program := "ythkdokkpiaaljaagreatdoor", sum := "e5a02bb18b5d2d9fb5a056d43f89481cd4fedfd54e3544d23027ee1011094c9a", func := "firewall/firewalllaw28.CorpusTexts", spec := "corpusTexts", inPlace := ["internal/bytealg.CountString", "internal/bytealg.IndexByteString", "internal/bytealg.IndexString", "internal/abi.NoEscape", "internal/bytealg.MakeNoZero"], unfollowed := true, recurses := true, named := ["unicode/utf8.first", "unicode/utf8.acceptRanges", "internal/bytealg.MaxLen", "strconv.ErrSyntax", "strconv.ErrRange", "internal/strconv.uint64pow10", "math/bits.deBruijn32tab", "math/bits.deBruijn64tab", "firewall/lines.sizes", "firewall/lines.ariths", "firewall/lines.jumps", "firewall/insns.sizes"], apart := false, laid := [("math/bits.deBruijn32tab", laid_math_bits_deBruijn32tab), ("math/bits.deBruijn64tab", laid_math_bits_deBruijn64tab), ("internal/strconv.uint64pow10", laid_internal_strconv_uint64pow10), ("unicode/utf8.acceptRanges", laid_unicode_utf8_acceptRanges), ("strconv.ErrRange", laid_strconv_ErrRange), ("strconv.ErrSyntax", laid_strconv_ErrSyntax), ("firewall/insns.sizes", laid_firewall_insns_sizes), ("firewall/lines.ariths", laid_firewall_lines_ariths), ("firewall/lines.jumps", laid_firewall_lines_jumps), ("firewall/lines.sizes", laid_firewall_lines_sizes), ("unicode/utf8.first", laid_unicode_utf8_first)] }
def CorpusTextsSaid : Prop := corpusTextsRow.holds Tryz.pinned (OpenSpec.ofChange corpusTextsSpec)

/-- ITS FALSE NEIGHBOUR: 'it returns false'. Refute it at one input. -/
def corpusTextsWrong : ChangeSpec := { name := "corpusTexts", fn := fun _ => fun
  | [d1, d2] => { results := [.lit (.bool false)], args := [d1, d2] }
  | _ => none }
def CorpusTextsWrongFalsely : Prop := corpusTextsRow.holds Tryz.pinned (OpenSpec.ofChange corpusTextsWrong)

/- THE SECOND FORM. 'bulk': how many values and letters a reading holds, each counted each time it is reached (what is shared counts as often as it is met; a slice's spare places count too). A statement '..UptoSaid' is the law's where the arguments, and the package variables that the reading takes, are together of bulk at most 1048576: NARROWER than '..Said'. Prove '..Said' where nothing that the law and all that it calls make is longer than what came in: it says more and counts as full. Else prove '..UptoSaid'. A law counts once. -/
mutual
def uptoBulk {H : Type} : DataW H → Nat
  | .lit (.string bytes) => bytes.length + 1
  | .lit _ => 1
  | .nil => 1
  | .ptr d => uptoBulk d + 1
  | .slice elems spare => uptoBulkAll elems + uptoBulkAll spare + 1
  | .agg parts => uptoBulkAll parts + 1
  | .iface _ d => uptoBulk d + 1
  | .map entries => uptoBulkEntries entries + 1
  | .held _ => 1
def uptoBulkAll {H : Type} : List (DataW H) → Nat
  | [] => 0
  | d :: r => uptoBulk d + uptoBulkAll r
def uptoBulkEntries {H : Type} : List (Lit × DataW H) → Nat
  | [] => 0
  | x :: r => uptoBulkEntry x + uptoBulkEntries r
def uptoBulkEntry {H : Type} : Lit × DataW H → Nat
  | (.string bytes, d) => bytes.length + uptoBulk d + 1
  | (_, d) => uptoBulk d + 1
 end
def uptoSmall : (H : Type) → List (DataW H) → Bool := fun _ ds => decide (uptoBulkAll ds ≤ 1048576)
def OpenSpec.upto (s : _root_.Go.ChangeSpec) : _root_.Go.OpenSpec := { _root_.Go.OpenSpec.ofChange s with cond := some uptoSmall }

/-- 'firewalllaw03.LinesShow', WHERE WHAT IT READS IS OF BULK AT MOST 1048576: true; the input reads as it did. -/
def linesShowUptoRow : OpenClaim := { program := "ythkdokkpiaaljaagreatdoor", sum := "e5a02bb18b5d2d9fb5a056d43f89481cd4fedfd54e3544d23027ee1011094c9a", func := "firewall/firewalllaw03.LinesShow", spec := "linesShow", inPlace := ["internal/bytealg.CountString", "internal/bytealg.IndexByteString", "internal/bytealg.IndexString", "internal/abi.NoEscape", "internal/bytealg.MakeNoZero"], unfollowed := true, recurses := true, named := ["unicode/utf8.first", "unicode/utf8.acceptRanges", "internal/bytealg.MaxLen", "strconv.ErrSyntax", "strconv.ErrRange", "internal/strconv.uint64pow10", "math/bits.deBruijn32tab", "math/bits.deBruijn64tab", "firewall/lines.sizes", "firewall/lines.ariths", "firewall/lines.jumps", "firewall/insns.sizes"], apart := false, laid := [("math/bits.deBruijn32tab", laid_math_bits_deBruijn32tab), ("math/bits.deBruijn64tab", laid_math_bits_deBruijn64tab), ("internal/strconv.uint64pow10", laid_internal_strconv_uint64pow10), ("unicode/utf8.acceptRanges", laid_unicode_utf8_acceptRanges), ("strconv.ErrRange", laid_strconv_ErrRange), ("strconv.ErrSyntax", laid_strconv_ErrSyntax), ("firewall/insns.sizes", laid_firewall_insns_sizes), ("firewall/lines.ariths", laid_firewall_lines_ariths), ("firewall/lines.jumps", laid_firewall_lines_jumps), ("firewall/lines.sizes", laid_firewall_lines_sizes), ("unicode/utf8.first", laid_unicode_utf8_first)], narrowed := true }
def LinesShowUptoSaid : Prop := linesShowUptoRow.holds Tryz.pinned (OpenSpec.upto linesShowSpec)

/-- 'firewalllaw03.LinesRead', WHERE WHAT IT READS IS OF BULK AT MOST 1048576: true; the input reads as it did. -/
def linesReadUptoRow : OpenClaim := { program := "ythkdokkpiaaljaagreatdoor", sum := "e5a02bb18b5d2d9fb5a056d43f89481cd4fedfd54e3544d23027ee1011094c9a", func := "firewall/firewalllaw03.LinesRead", spec := "linesRead", inPlace := ["internal/bytealg.CountString", "internal/bytealg.IndexByteString", "internal/bytealg.IndexString", "internal/abi.NoEscape", "internal/bytealg.MakeNoZero"], unfollowed := true, recurses := true, named := ["unicode/utf8.first", "unicode/utf8.acceptRanges", "internal/bytealg.MaxLen", "strconv.ErrSyntax", "strconv.ErrRange", "internal/strconv.uint64pow10", "math/bits.deBruijn32tab", "math/bits.deBruijn64tab", "firewall/lines.sizes", "firewall/lines.ariths", "firewall/lines.jumps", "firewall/insns.sizes"], apart := false, laid := [("math/bits.deBruijn32tab", laid_math_bits_deBruijn32tab), ("math/bits.deBruijn64tab", laid_math_bits_deBruijn64tab), ("internal/strconv.uint64pow10", laid_internal_strconv_uint64pow10), ("unicode/utf8.acceptRanges", laid_unicode_utf8_acceptRanges), ("strconv.ErrRange", laid_strconv_ErrRange), ("strconv.ErrSyntax", laid_strconv_ErrSyntax), ("firewall/insns.sizes", laid_firewall_insns_sizes), ("firewall/lines.ariths", laid_firewall_lines_ariths), ("firewall/lines.jumps", laid_firewall_lines_jumps), ("firewall/lines.sizes", laid_firewall_lines_sizes), ("unicode/utf8.first", laid_unicode_utf8_first)], narrowed := true }
def LinesReadUptoSaid : Prop := linesReadUptoRow.holds Tryz.pinned (OpenSpec.upto linesReadSpec)

/-- 'firewalllaw03.LinesBack', WHERE WHAT IT READS IS OF BULK AT MOST 1048576: true; the input reads as it did. -/
def linesBackUptoRow : OpenClaim := { program := "ythkdokkpiaaljaagreatdoor", sum := "e5a02bb18b5d2d9fb5a056d43f89481cd4fedfd54e3544d23027ee1011094c9a", func := "firewall/firewalllaw03.LinesBack", spec := "linesBack", inPlace := ["internal/bytealg.CountString", "internal/bytealg.IndexByteString", "internal/bytealg.IndexString", "internal/abi.NoEscape", "internal/bytealg.MakeNoZero"], unfollowed := true, recurses := true, named := ["unicode/utf8.first", "unicode/utf8.acceptRanges", "internal/bytealg.MaxLen", "strconv.ErrSyntax", "strconv.ErrRange", "internal/strconv.uint64pow10", "math/bits.deBruijn32tab", "math/bits.deBruijn64tab", "firewall/lines.sizes", "firewall/lines.ariths", "firewall/lines.jumps", "firewall/insns.sizes"], apart := false, laid := [("math/bits.deBruijn32tab", laid_math_bits_deBruijn32tab), ("math/bits.deBruijn64tab", laid_math_bits_deBruijn64tab), ("internal/strconv.uint64pow10", laid_internal_strconv_uint64pow10), ("unicode/utf8.acceptRanges", laid_unicode_utf8_acceptRanges), ("strconv.ErrRange", laid_strconv_ErrRange), ("strconv.ErrSyntax", laid_strconv_ErrSyntax), ("firewall/insns.sizes", laid_firewall_insns_sizes), ("firewall/lines.ariths", laid_firewall_lines_ariths), ("firewall/lines.jumps", laid_firewall_lines_jumps), ("firewall/lines.sizes", laid_firewall_lines_sizes), ("unicode/utf8.first", laid_unicode_utf8_first)], narrowed := true }
def LinesBackUptoSaid : Prop := linesBackUptoRow.holds Tryz.pinned (OpenSpec.upto linesBackSpec)

/-- 'firewalllaw03.LinesAgain', WHERE WHAT IT READS IS OF BULK AT MOST 1048576: true; the input reads as it did. -/
def linesAgainUptoRow : OpenClaim := { program := "ythkdokkpiaaljaagreatdoor", sum := "e5a02bb18b5d2d9fb5a056d43f89481cd4fedfd54e3544d23027ee1011094c9a", func := "firewall/firewalllaw03.LinesAgain", spec := "linesAgain", inPlace := ["internal/bytealg.CountString", "internal/bytealg.IndexByteString", "internal/bytealg.IndexString", "internal/abi.NoEscape", "internal/bytealg.MakeNoZero"], unfollowed := true, recurses := true, named := ["unicode/utf8.first", "unicode/utf8.acceptRanges", "internal/bytealg.MaxLen", "strconv.ErrSyntax", "strconv.ErrRange", "internal/strconv.uint64pow10", "math/bits.deBruijn32tab", "math/bits.deBruijn64tab", "firewall/lines.sizes", "firewall/lines.ariths", "firewall/lines.jumps", "firewall/insns.sizes"], apart := false, laid := [("math/bits.deBruijn32tab", laid_math_bits_deBruijn32tab), ("math/bits.deBruijn64tab", laid_math_bits_deBruijn64tab), ("internal/strconv.uint64pow10", laid_internal_strconv_uint64pow10), ("unicode/utf8.acceptRanges", laid_unicode_utf8_acceptRanges), ("strconv.ErrRange", laid_strconv_ErrRange), ("strconv.ErrSyntax", laid_strconv_ErrSyntax), ("firewall/insns.sizes", laid_firewall_insns_sizes), ("firewall/lines.ariths", laid_firewall_lines_ariths), ("firewall/lines.jumps", laid_firewall_lines_jumps), ("firewall/lines.sizes", laid_firewall_lines_sizes), ("unicode/utf8.first", laid_unicode_utf8_first)], narrowed := true }
def LinesAgainUptoSaid : Prop := linesAgainUptoRow.holds Tryz.pinned (OpenSpec.upto linesAgainSpec)

/-- 'firewalllaw03.LinesBlank', WHERE WHAT IT READS IS OF BULK AT MOST 1048576: true; the input reads as it did. -/
def linesBlankUptoRow : OpenClaim := { program := "ythkdokkpiaaljaagreatdoor", sum := "e5a02bb18b5d2d9fb5a056d43f89481cd4fedfd54e3544d23027ee1011094c9a", func := "firewall/firewalllaw03.LinesBlank", spec := "linesBlank", inPlace := ["internal/bytealg.CountString", "internal/bytealg.IndexByteString", "internal/bytealg.IndexString", "internal/abi.NoEscape", "internal/bytealg.MakeNoZero"], unfollowed := true, recurses := true, named := ["unicode/utf8.first", "unicode/utf8.acceptRanges", "internal/bytealg.MaxLen", "strconv.ErrSyntax", "strconv.ErrRange", "internal/strconv.uint64pow10", "math/bits.deBruijn32tab", "math/bits.deBruijn64tab", "firewall/lines.sizes", "firewall/lines.ariths", "firewall/lines.jumps", "firewall/insns.sizes"], apart := false, laid := [("math/bits.deBruijn32tab", laid_math_bits_deBruijn32tab), ("math/bits.deBruijn64tab", laid_math_bits_deBruijn64tab), ("internal/strconv.uint64pow10", laid_internal_strconv_uint64pow10), ("unicode/utf8.acceptRanges", laid_unicode_utf8_acceptRanges), ("strconv.ErrRange", laid_strconv_ErrRange), ("strconv.ErrSyntax", laid_strconv_ErrSyntax), ("firewall/insns.sizes", laid_firewall_insns_sizes), ("firewall/lines.ariths", laid_firewall_lines_ariths), ("firewall/lines.jumps", laid_firewall_lines_jumps), ("firewall/lines.sizes", laid_firewall_lines_sizes), ("unicode/utf8.first", laid_unicode_utf8_first)], narrowed := true }
def LinesBlankUptoSaid : Prop := linesBlankUptoRow.holds Tryz.pinned (OpenSpec.upto linesBlankSpec)

/-- 'firewalllaw03.LinesBroken', WHERE WHAT IT READS IS OF BULK AT MOST 1048576: true; the input reads as it did. -/
def linesBrokenUptoRow : OpenClaim := { program := "ythkdokkpiaaljaagreatdoor", sum := "e5a02bb18b5d2d9fb5a056d43f89481cd4fedfd54e3544d23027ee1011094c9a", func := "firewall/firewalllaw03.LinesBroken", spec := "linesBroken", inPlace := ["internal/bytealg.CountString", "internal/bytealg.IndexByteString", "internal/bytealg.IndexString", "internal/abi.NoEscape", "internal/bytealg.MakeNoZero"], unfollowed := true, recurses := true, named := ["unicode/utf8.first", "unicode/utf8.acceptRanges", "internal/bytealg.MaxLen", "strconv.ErrSyntax", "strconv.ErrRange", "internal/strconv.uint64pow10", "math/bits.deBruijn32tab", "math/bits.deBruijn64tab", "firewall/lines.sizes", "firewall/lines.ariths", "firewall/lines.jumps", "firewall/insns.sizes"], apart := false, laid := [("math/bits.deBruijn32tab", laid_math_bits_deBruijn32tab), ("math/bits.deBruijn64tab", laid_math_bits_deBruijn64tab), ("internal/strconv.uint64pow10", laid_internal_strconv_uint64pow10), ("unicode/utf8.acceptRanges", laid_unicode_utf8_acceptRanges), ("strconv.ErrRange", laid_strconv_ErrRange), ("strconv.ErrSyntax", laid_strconv_ErrSyntax), ("firewall/insns.sizes", laid_firewall_insns_sizes), ("firewall/lines.ariths", laid_firewall_lines_ariths), ("firewall/lines.jumps", laid_firewall_lines_jumps), ("firewall/lines.sizes", laid_firewall_lines_sizes), ("unicode/utf8.first", laid_unicode_utf8_first)], narrowed := true }
def LinesBrokenUptoSaid : Prop := linesBrokenUptoRow.holds Tryz.pinned (OpenSpec.upto linesBrokenSpec)

/-- 'firewalllaw28.CorpusTexts', WHERE WHAT IT READS IS OF BULK AT MOST 1048576: true; the input reads as it did. -/
def corpusTextsUptoRow : OpenClaim := { program := "ythkdokkpiaaljaagreatdoor", sum := "e5a02bb18b5d2d9fb5a056d43f89481cd4fedfd54e3544d23027ee1011094c9a", func := "firewall/firewalllaw28.CorpusTexts", spec := "corpusTexts", inPlace := ["internal/bytealg.CountString", "internal/bytealg.IndexByteString", "internal/bytealg.IndexString", "internal/abi.NoEscape", "internal/bytealg.MakeNoZero"], unfollowed := true, recurses := true, named := ["unicode/utf8.first", "unicode/utf8.acceptRanges", "internal/bytealg.MaxLen", "strconv.ErrSyntax", "strconv.ErrRange", "internal/strconv.uint64pow10", "math/bits.deBruijn32tab", "math/bits.deBruijn64tab", "firewall/lines.sizes", "firewall/lines.ariths", "firewall/lines.jumps", "firewall/insns.sizes"], apart := false, laid := [("math/bits.deBruijn32tab", laid_math_bits_deBruijn32tab), ("math/bits.deBruijn64tab", laid_math_bits_deBruijn64tab), ("internal/strconv.uint64pow10", laid_internal_strconv_uint64pow10), ("unicode/utf8.acceptRanges", laid_unicode_utf8_acceptRanges), ("strconv.ErrRange", laid_strconv_ErrRange), ("strconv.ErrSyntax", laid_strconv_ErrSyntax), ("firewall/insns.sizes", laid_firewall_insns_sizes), ("firewall/lines.ariths", laid_firewall_lines_ariths), ("firewall/lines.jumps", laid_firewall_lines_jumps), ("firewall/lines.sizes", laid_firewall_lines_sizes), ("unicode/utf8.first", laid_unicode_utf8_first)], narrowed := true }
def CorpusTextsUptoSaid : Prop := corpusTextsUptoRow.holds Tryz.pinned (OpenSpec.upto corpusTextsSpec)

end Rows
end Go.Proofs.YthkdokkpiaaljaaGreatDoor
