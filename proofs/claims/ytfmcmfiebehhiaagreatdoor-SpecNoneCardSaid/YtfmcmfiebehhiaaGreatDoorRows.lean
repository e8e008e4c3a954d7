/-
  NARROWER THAN 'FOR EVERY INPUT', by the rows' own cells (each row's printed sentence says how): SpecNone: laid · SpecLeak: laid · SpecStale: laid.
  DERIVED. THE GIVEN ROWS OF THIS SEAT. 3 by the template 'for every input the law returns true; each argument reads behind the call as it read before'; 0 by the template 'total and deterministic' (their statements: YtfmcmfiebehhiaaGreatDoorTotals.lean).
  GIVEN WITH THE SEED: the statements are not yours to turn. If you find one false, say at which input.
  Laid BY PROGRAM, IN A SANDBOX (cutbox-rows.mjs): the forced cells as the released guide's own fill.sh prints them over the translation 9a25cfa1114fbbcb… (all of the seat's roots in one cut). By AI agents, Wed Nov 11 2026. No macro, syntax, notation, axiom, sorry.
-/
import Derived.Test.YtfmcmfiebehhiaaGreatDoorChecked
import GoSem.Claim
import GoSem.ClaimJoined
import GoSem.ClaimMapViews
import Derived.JoinedTies
import Derived.KernelRfl
namespace Go.Proofs.YtfmcmfiebehhiaaGreatDoor
/- THE CELL 'sum', in the pinned program and in every row, IS THE sha256 OF THE DUMP (.gsa) THAT YtfmcmfiebehhiaaGreatDoorProg.lean LOADS. Nothing in Lean hashes anything: it is a label: what it is worth is what the hold of that sum in a sandbox is worth. -/
noncomputable def Tryz.pinned : Pinned := { name := "ytfmcmfiebehhiaagreatdoor", sum := "9a25cfa1114fbbcb1dc4f9a687f7799fe649b0a4caf8bd174717afcfa95cd7c8", checked := Tryz.checked }
namespace Rows
def none {H : Type} : Left H := { results := [], args := [] }

/- WHAT THE LISTED PACKAGE-LEVEL VARIABLES READ AS WHEN THE CALL BEGINS. Each datum BY PROGRAM (the guide's laid-datum.mjs) off the statement by which the dump's own 'gosem.cut.vars' lays the variable. In a bare row this is a premise. The card (YtfmcmfiebehhiaaGreatDoorCards.lean) ties it to the program's text. -/
def laid_firewall_codec_forms {H : Type} : DataW H := .agg [.agg [.lit (.string []), .lit (.int .i64 0), .lit (.int .i64 0), .lit (.int .i64 0), .lit (.int .i64 0), .lit (.bool false), .lit (.bool false)], .agg [.lit (.string [137]), .lit (.int .i64 1), .lit (.int .i64 0), .lit (.int .i64 0), .lit (.int .i64 0), .lit (.bool false), .lit (.bool false)], .agg [.lit (.string [199]), .lit (.int .i64 3), .lit (.int .i64 0), .lit (.int .i64 0), .lit (.int .i64 4), .lit (.bool true), .lit (.bool false)], .agg [.lit (.string [184]), .lit (.int .i64 4), .lit (.int .i64 0), .lit (.int .i64 0), .lit (.int .i64 8), .lit (.bool true), .lit (.bool false)], .agg [.lit (.string [1]), .lit (.int .i64 1), .lit (.int .i64 0), .lit (.int .i64 1), .lit (.int .i64 0), .lit (.bool false), .lit (.bool false)], .agg [.lit (.string [129]), .lit (.int .i64 3), .lit (.int .i64 0), .lit (.int .i64 1), .lit (.int .i64 4), .lit (.bool false), .lit (.bool false)], .agg [.lit (.string [133]), .lit (.int .i64 1), .lit (.int .i64 0), .lit (.int .i64 0), .lit (.int .i64 0), .lit (.bool false), .lit (.bool false)], .agg [.lit (.string [247]), .lit (.int .i64 3), .lit (.int .i64 3), .lit (.int .i64 0), .lit (.int .i64 0), .lit (.bool false), .lit (.bool false)], .agg [.lit (.string [247]), .lit (.int .i64 3), .lit (.int .i64 4), .lit (.int .i64 0), .lit (.int .i64 0), .lit (.bool false), .lit (.bool false)], .agg [.lit (.string [247]), .lit (.int .i64 3), .lit (.int .i64 6), .lit (.int .i64 0), .lit (.int .i64 0), .lit (.bool false), .lit (.bool false)], .agg [.lit (.string [15, 175]), .lit (.int .i64 2), .lit (.int .i64 0), .lit (.int .i64 0), .lit (.int .i64 0), .lit (.bool false), .lit (.bool false)], .agg [.lit (.string [193]), .lit (.int .i64 3), .lit (.int .i64 0), .lit (.int .i64 2), .lit (.int .i64 1), .lit (.bool false), .lit (.bool false)], .agg [.lit (.string [211]), .lit (.int .i64 3), .lit (.int .i64 0), .lit (.int .i64 2), .lit (.int .i64 0), .lit (.bool false), .lit (.bool false)], .agg [.lit (.string []), .lit (.int .i64 5), .lit (.int .i64 0), .lit (.int .i64 0), .lit (.int .i64 0), .lit (.bool false), .lit (.bool false)], .agg [.lit (.string []), .lit (.int .i64 6), .lit (.int .i64 0), .lit (.int .i64 0), .lit (.int .i64 0), .lit (.bool false), .lit (.bool false)], .agg [.lit (.string []), .lit (.int .i64 7), .lit (.int .i64 0), .lit (.int .i64 0), .lit (.int .i64 0), .lit (.bool false), .lit (.bool true)], .agg [.lit (.string []), .lit (.int .i64 7), .lit (.int .i64 0), .lit (.int .i64 0), .lit (.int .i64 0), .lit (.bool false), .lit (.bool true)], .agg [.lit (.string [80]), .lit (.int .i64 4), .lit (.int .i64 0), .lit (.int .i64 0), .lit (.int .i64 0), .lit (.bool false), .lit (.bool true)], .agg [.lit (.string [88]), .lit (.int .i64 4), .lit (.int .i64 0), .lit (.int .i64 0), .lit (.int .i64 0), .lit (.bool false), .lit (.bool true)], .agg [.lit (.string [195]), .lit (.int .i64 0), .lit (.int .i64 0), .lit (.int .i64 0), .lit (.int .i64 0), .lit (.bool false), .lit (.bool true)], .agg [.lit (.string [232]), .lit (.int .i64 7), .lit (.int .i64 0), .lit (.int .i64 0), .lit (.int .i64 0), .lit (.bool false), .lit (.bool true)], .agg [.lit (.string [15, 174, 232]), .lit (.int .i64 0), .lit (.int .i64 0), .lit (.int .i64 0), .lit (.int .i64 0), .lit (.bool false), .lit (.bool true)]]
def laid_firewall_codec_loads {H : Type} : DataW H := .map [(.int .i64 1, .lit (.string [15, 182])), (.int .i64 2, .lit (.string [15, 183])), (.int .i64 4, .lit (.string [139])), (.int .i64 8, .lit (.string [139]))]
def laid_firewall_codec_stores {H : Type} : DataW H := .map [(.int .i64 1, .lit (.string [136])), (.int .i64 2, .lit (.string [137])), (.int .i64 4, .lit (.string [137])), (.int .i64 8, .lit (.string [137]))]
def laid_firewall_codec_conds {H : Type} : DataW H := .slice [.lit (.int .i64 2), .lit (.int .i64 3), .lit (.int .i64 4), .lit (.int .i64 5), .lit (.int .i64 6), .lit (.int .i64 7), .lit (.int .i64 12), .lit (.int .i64 13), .lit (.int .i64 14), .lit (.int .i64 15)] []
def laid_firewall_cpu_does {H : Type} : DataW H := .map [(.int .i64 0, .lit (.int .u8 0)), (.int .i64 1, .lit (.int .u8 64)), (.int .i64 4, .lit (.int .u8 80)), (.int .i64 5, .lit (.int .u8 16)), (.int .i64 6, .lit (.int .u8 160)), (.int .i64 7, .lit (.int .u8 16))]
def laid_firewall_cpu_shifts {H : Type} : DataW H := .map [(.int .i64 4, .lit (.int .u8 96)), (.int .i64 5, .lit (.int .u8 112)), (.int .i64 7, .lit (.int .u8 192))]
def laid_firewall_helpers_args {H : Type} : DataW H := .map [(.int .i64 1, .lit (.int .i64 2)), (.int .i64 2, .lit (.int .i64 4)), (.int .i64 3, .lit (.int .i64 2)), (.int .i64 7, .lit (.int .i64 0))]
def laid_firewall_machine_touches {H : Type} : DataW H := .iface "func table" (.map [(.int .i64 13, .iface "func" (.lit (.string [102, 105, 114, 101, 119, 97, 108, 108, 47, 109, 97, 99, 104, 105, 110, 101, 46, 116, 111, 117, 99, 104, 101, 115, 36, 49]))), (.int .i64 14, .iface "func" (.lit (.string [102, 105, 114, 101, 119, 97, 108, 108, 47, 109, 97, 99, 104, 105, 110, 101, 46, 116, 111, 117, 99, 104, 101, 115, 36, 50]))), (.int .i64 17, .iface "func" (.lit (.string [102, 105, 114, 101, 119, 97, 108, 108, 47, 109, 97, 99, 104, 105, 110, 101, 46, 116, 111, 117, 99, 104, 101, 115, 36, 51]))), (.int .i64 18, .iface "func" (.lit (.string [102, 105, 114, 101, 119, 97, 108, 108, 47, 109, 97, 99, 104, 105, 110, 101, 46, 116, 111, 117, 99, 104, 101, 115, 36, 52]))), (.int .i64 19, .iface "func" (.lit (.string [102, 105, 114, 101, 119, 97, 108, 108, 47, 109, 97, 99, 104, 105, 110, 101, 46, 116, 111, 117, 99, 104, 101, 115, 36, 53])))])
def laid_firewall_machine_lost {H : Type} : DataW H := .agg [.lit (.int .i64 1), .lit (.int .i64 2), .lit (.int .i64 6), .lit (.int .i64 7), .lit (.int .i64 8), .lit (.int .i64 9), .lit (.int .i64 10), .lit (.int .i64 11)]

/-- 'firewalllaw14.SpecNone': WHATEVER THE INPUT: true; the input reads as it did. -/
def specNoneSpec : ChangeSpec := { name := "specNone", fn := fun _ => fun
  | [d1, d2] => { results := [.lit (.bool true)], args := [d1, d2] }
  | _ => none }
def specNoneRow : OpenClaim := { program := "ytfmcmfiebehhiaagreatdoor", sum := "9a25cfa1114fbbcb1dc4f9a687f7799fe649b0a4caf8bd174717afcfa95cd7c8", func := "firewall/firewalllaw14.SpecNone", spec := "specNone", inPlace := ["internal/abi.NoEscape", "internal/bytealg.MakeNoZero"], unfollowed := true, recurses := true, named := ["firewall/codec.forms", "firewall/codec.loads", "firewall/codec.conds", "firewall/codec.stores", "firewall/machine.touches", "firewall/machine.lost", "firewall/helpers.args", "firewall/cpu.shifts", "firewall/cpu.does", "math/bits.divideError", "math/bits.overflowError"], apart := false, laid := [("firewall/codec.forms", laid_firewall_codec_forms), ("firewall/codec.loads", laid_firewall_codec_loads), ("firewall/codec.stores", laid_firewall_codec_stores), ("firewall/codec.conds", laid_firewall_codec_conds), ("firewall/cpu.does", laid_firewall_cpu_does), ("firewall/cpu.shifts", laid_firewall_cpu_shifts), ("firewall/helpers.args", laid_firewall_helpers_args), ("firewall/machine.touches", laid_firewall_machine_touches), ("firewall/machine.lost", laid_firewall_machine_lost)] }
def SpecNoneSaid : Prop := specNoneRow.holds Tryz.pinned (OpenSpec.ofChange specNoneSpec)

/-- ITS FALSE NEIGHBOUR: 'it returns false'. Refute it at one input. -/
def specNoneWrong : ChangeSpec := { name := "specNone", fn := fun _ => fun
  | [d1, d2] => { results := [.lit (.bool false)], args := [d1, d2] }
  | _ => none }
def SpecNoneWrongFalsely : Prop := specNoneRow.holds Tryz.pinned (OpenSpec.ofChange specNoneWrong)

/-- 'firewalllaw14.SpecLeak': WHATEVER THE INPUT: true; the input reads as it did. -/
def specLeakSpec : ChangeSpec := { name := "specLeak", fn := fun _ => fun
  | [d1, d2, d3] => { results := [.lit (.bool true)], args := [d1, d2, d3] }
  | _ => none }
def specLeakRow : OpenClaim := { program := "ytfmcmfiebehhiaagreatdoor", sum := "9a25cfa1114fbbcb1dc4f9a687f7799fe649b0a4caf8bd174717afcfa95cd7c8", func := "firewall/firewalllaw14.SpecLeak", spec := "specLeak", inPlace := ["internal/abi.NoEscape", "internal/bytealg.MakeNoZero"], unfollowed := true, recurses := true, named := ["firewall/codec.forms", "firewall/codec.loads", "firewall/codec.conds", "firewall/codec.stores", "firewall/machine.touches", "firewall/machine.lost", "firewall/helpers.args", "firewall/cpu.shifts", "firewall/cpu.does", "math/bits.divideError", "math/bits.overflowError"], apart := false, laid := [("firewall/codec.forms", laid_firewall_codec_forms), ("firewall/codec.loads", laid_firewall_codec_loads), ("firewall/codec.stores", laid_firewall_codec_stores), ("firewall/codec.conds", laid_firewall_codec_conds), ("firewall/cpu.does", laid_firewall_cpu_does), ("firewall/cpu.shifts", laid_firewall_cpu_shifts), ("firewall/helpers.args", laid_firewall_helpers_args), ("firewall/machine.touches", laid_firewall_machine_touches), ("firewall/machine.lost", laid_firewall_machine_lost)] }
def SpecLeakSaid : Prop := specLeakRow.holds Tryz.pinned (OpenSpec.ofChange specLeakSpec)

/-- ITS FALSE NEIGHBOUR: 'it returns false'. Refute it at one input. -/
def specLeakWrong : ChangeSpec := { name := "specLeak", fn := fun _ => fun
  | [d1, d2, d3] => { results := [.lit (.bool false)], args := [d1, d2, d3] }
  | _ => none }
def SpecLeakWrongFalsely : Prop := specLeakRow.holds Tryz.pinned (OpenSpec.ofChange specLeakWrong)

/-- 'firewalllaw14.SpecStale': WHATEVER THE INPUT: true; the input reads as it did. -/
def specStaleSpec : ChangeSpec := { name := "specStale", fn := fun _ => fun
  | [d1, d2, d3] => { results := [.lit (.bool true)], args := [d1, d2, d3] }
  | _ => none }
def specStaleRow : OpenClaim := { program := "ytfmcmfiebehhiaagreatdoor", sum := "9a25cfa1114fbbcb1dc4f9a687f7799fe649b0a4caf8bd174717afcfa95cd7c8", func := "firewall/firewalllaw14.SpecStale", spec := "specStale", inPlace := ["internal/abi.NoEscape", "internal/bytealg.MakeNoZero"], unfollowed := true, recurses := true, named := ["firewall/codec.forms", "firewall/codec.loads", "firewall/codec.conds", "firewall/codec.stores", "firewall/machine.touches", "firewall/machine.lost", "firewall/helpers.args", "firewall/cpu.shifts", "firewall/cpu.does", "math/bits.divideError", "math/bits.overflowError"], apart := false, laid := [("firewall/codec.forms", laid_firewall_codec_forms), ("firewall/codec.loads", laid_firewall_codec_loads), ("firewall/codec.stores", laid_firewall_codec_stores), ("firewall/codec.conds", laid_firewall_codec_conds), ("firewall/cpu.does", laid_firewall_cpu_does), ("firewall/cpu.shifts", laid_firewall_cpu_shifts), ("firewall/helpers.args", laid_firewall_helpers_args), ("firewall/machine.touches", laid_firewall_machine_touches), ("firewall/machine.lost", laid_firewall_machine_lost)] }
def SpecStaleSaid : Prop := specStaleRow.holds Tryz.pinned (OpenSpec.ofChange specStaleSpec)

/-- ITS FALSE NEIGHBOUR: 'it returns false'. Refute it at one input. -/
def specStaleWrong : ChangeSpec := { name := "specStale", fn := fun _ => fun
  | [d1, d2, d3] => { results := [.lit (.bool false)], args := [d1, d2, d3] }
  | _ => none }
def SpecStaleWrongFalsely : Prop := specStaleRow.holds Tryz.pinned (OpenSpec.ofChange specStaleWrong)

/- THE SECOND FORM. 'bulk': how many values and letters a reading holds, each counted each time it is reached (what is shared counts as often as it is met; a slice's spare places count too). A statement '..UptoSaid' is the law's where the arguments, and the package variables that the reading takes, are together of bulk at most 1048576: NARROWER than '..Said'. Prove '..Said' where nothing that the law and all that it calls make is longer than what came in: it says more and counts as full. Else prove '..UptoSaid'. A law counts once. -/
mutual
def uptoBulk {H : Type} : DataW H → Nat
  | .lit (.string bytes) => bytes.length + 1
  | .lit _ => 1
  | .nil => 1
  | .ptr d => uptoBulk d + 1
  | .slice elems spare => uptoBulkAll elems + uptoBulkAll spare + 1
  | .agg parts => uptoBulkAll parts + 1
  | .iface _ d => uptoBulk d + 1
  | .map entries => uptoBulkEntries entries + 1
  | .held _ => 1
def uptoBulkAll {H : Type} : List (DataW H) → Nat
  | [] => 0
  | d :: r => uptoBulk d + uptoBulkAll r
def uptoBulkEntries {H : Type} : List (Lit × DataW H) → Nat
  | [] => 0
  | x :: r => uptoBulkEntry x + uptoBulkEntries r
def uptoBulkEntry {H : Type} : Lit × DataW H → Nat
  | (.string bytes, d) => bytes.length + uptoBulk d + 1
  | (_, d) => uptoBulk d + 1
 end
def uptoSmall : (H : Type) → List (DataW H) → Bool := fun _ ds => decide (uptoBulkAll ds ≤ 1048576)
def OpenSpec.upto (s : _root_.Go.ChangeSpec) : _root_.Go.OpenSpec := { _root_.Go.OpenSpec.ofChange s with cond := some uptoSmall }

/-- 'firewalllaw14.SpecNone', WHERE WHAT IT READS IS OF BULK AT MOST 1048576: true; the input reads as it did. -/
def specNoneUptoRow : OpenClaim := { program := "ytfmcmfiebehhiaagreatdoor", sum := "9a25cfa1114fbbcb1dc4f9a687f7799fe649b0a4caf8bd174717afcfa95cd7c8", func := "firewall/firewalllaw14.SpecNone", spec := "specNone", inPlace := ["internal/abi.NoEscape", "internal/bytealg.MakeNoZero"], unfollowed := true, recurses := true, named := ["firewall/codec.forms", "firewall/codec.loads", "firewall/codec.conds", "firewall/codec.stores", "firewall/machine.touches", "firewall/machine.lost", "firewall/helpers.args", "firewall/cpu.shifts", "firewall/cpu.does", "math/bits.divideError", "math/bits.overflowError"], apart := false, laid := [("firewall/codec.forms", laid_firewall_codec_forms), ("firewall/codec.loads", laid_firewall_codec_loads), ("firewall/codec.stores", laid_firewall_codec_stores), ("firewall/codec.conds", laid_firewall_codec_conds), ("firewall/cpu.does", laid_firewall_cpu_does), ("firewall/cpu.shifts", laid_firewall_cpu_shifts), ("firewall/helpers.args", laid_firewall_helpers_args), ("firewall/machine.touches", laid_firewall_machine_touches), ("firewall/machine.lost", laid_firewall_machine_lost)], narrowed := true }
def SpecNoneUptoSaid : Prop := specNoneUptoRow.holds Tryz.pinned (OpenSpec.upto specNoneSpec)

/-- 'firewalllaw14.SpecLeak', WHERE WHAT IT READS IS OF BULK AT MOST 1048576: true; the input reads as it did. -/
def specLeakUptoRow : OpenClaim := { program := "ytfmcmfiebehhiaagreatdoor", sum := "9a25cfa1114fbbcb1dc4f9a687f7799fe649b0a4caf8bd174717afcfa95cd7c8", func := "firewall/firewalllaw14.SpecLeak", spec := "specLeak", inPlace := ["internal/abi.NoEscape", "internal/bytealg.MakeNoZero"], unfollowed := true, recurses := true, named := ["firewall/codec.forms", "firewall/codec.loads", "firewall/codec.conds", "firewall/codec.stores", "firewall/machine.touches", "firewall/machine.lost", "firewall/helpers.args", "firewall/cpu.shifts", "firewall/cpu.does", "math/bits.divideError", "math/bits.overflowError"], apart := false, laid := [("firewall/codec.forms", laid_firewall_codec_forms), ("firewall/codec.loads", laid_firewall_codec_loads), ("firewall/codec.stores", laid_firewall_codec_stores), ("firewall/codec.conds", laid_firewall_codec_conds), ("firewall/cpu.does", laid_firewall_cpu_does), ("firewall/cpu.shifts", laid_firewall_cpu_shifts), ("firewall/helpers.args", laid_firewall_helpers_args), ("firewall/machine.touches", laid_firewall_machine_touches), ("firewall/machine.lost", laid_firewall_machine_lost)], narrowed := true }
def SpecLeakUptoSaid : Prop := specLeakUptoRow.holds Tryz.pinned (OpenSpec.upto specLeakSpec)

/-- 'firewalllaw14.SpecStale', WHERE WHAT IT READS IS OF BULK AT MOST 1048576: true; the input reads as it did. -/
def specStaleUptoRow : OpenClaim := { program := "ytfmcmfiebehhiaagreatdoor", sum := "9a25cfa1114fbbcb1dc4f9a687f7799fe649b0a4caf8bd174717afcfa95cd7c8", func := "firewall/firewalllaw14.SpecStale", spec := "specStale", inPlace := ["internal/abi.NoEscape", "internal/bytealg.MakeNoZero"], unfollowed := true, recurses := true, named := ["firewall/codec.forms", "firewall/codec.loads", "firewall/codec.conds", "firewall/codec.stores", "firewall/machine.touches", "firewall/machine.lost", "firewall/helpers.args", "firewall/cpu.shifts", "firewall/cpu.does", "math/bits.divideError", "math/bits.overflowError"], apart := false, laid := [("firewall/codec.forms", laid_firewall_codec_forms), ("firewall/codec.loads", laid_firewall_codec_loads), ("firewall/codec.stores", laid_firewall_codec_stores), ("firewall/codec.conds", laid_firewall_codec_conds), ("firewall/cpu.does", laid_firewall_cpu_does), ("firewall/cpu.shifts", laid_firewall_cpu_shifts), ("firewall/helpers.args", laid_firewall_helpers_args), ("firewall/machine.touches", laid_firewall_machine_touches), ("firewall/machine.lost", laid_firewall_machine_lost)], narrowed := true }
def SpecStaleUptoSaid : Prop := specStaleUptoRow.holds Tryz.pinned (OpenSpec.upto specStaleSpec)

end Rows
end Go.Proofs.YtfmcmfiebehhiaaGreatDoor
