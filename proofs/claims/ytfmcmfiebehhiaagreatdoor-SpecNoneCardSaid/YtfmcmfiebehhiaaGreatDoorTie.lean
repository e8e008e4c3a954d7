/-
  DERIVED. GIVEN WITH THE SEED: THE PROGRAM's TIES (one call each: nine closed facts by the kernel) AND EACH ROW's TIE, after the 31st guide's Derived/Test/Toyas{Tie, Card}.lean. No idea stands in it: it is a product of the set-up. Laid BY PROGRAM, IN A SANDBOX (cutbox-door.mjs). By AI agents, Wed Nov 11 2026. No macro, syntax, notation, axiom, sorry.
-/
import Derived.Test.YtfmcmfiebehhiaaGreatDoorRows
import Derived.LaidByTextLater
import Derived.SevenTiedAt
import Derived.LaidSub
import Derived.LaidOnce
namespace Go.Proofs.YtfmcmfiebehhiaaGreatDoor
open Go
set_option maxRecDepth 100000
theorem seatTie1 : Tryz.prog.laidByTextLater [("firewall/codec.forms", Rows.laid_firewall_codec_forms), ("firewall/codec.loads", Rows.laid_firewall_codec_loads), ("firewall/codec.stores", Rows.laid_firewall_codec_stores), ("firewall/codec.conds", Rows.laid_firewall_codec_conds), ("firewall/cpu.does", Rows.laid_firewall_cpu_does), ("firewall/cpu.shifts", Rows.laid_firewall_cpu_shifts), ("firewall/helpers.args", Rows.laid_firewall_helpers_args), ("firewall/machine.touches", Rows.laid_firewall_machine_touches), ("firewall/machine.lost", Rows.laid_firewall_machine_lost)] [.data, .mapped, .mapped, .widerDeep, .mapped, .mapped, .mapped, .funcs, .data] true :=
  Program.laidByTextLater_by_one 205 8 155 (by kernel_rfl) (by kernel_rfl) (by kernel_rfl) (by kernel_rfl) (by kernel_rfl) (by kernel_rfl) (fun _ _ => by kernel_rfl)
theorem noOwnUnsafe : Tryz.pinned.checked.prog.headLifts.contains "ownunsafe" = false := by kernel_rfl
theorem tie : Tryz.prog.laidByTextLater [("firewall/codec.forms", Rows.laid_firewall_codec_forms), ("firewall/codec.loads", Rows.laid_firewall_codec_loads), ("firewall/codec.stores", Rows.laid_firewall_codec_stores), ("firewall/codec.conds", Rows.laid_firewall_codec_conds), ("firewall/cpu.does", Rows.laid_firewall_cpu_does), ("firewall/cpu.shifts", Rows.laid_firewall_cpu_shifts), ("firewall/helpers.args", Rows.laid_firewall_helpers_args), ("firewall/machine.touches", Rows.laid_firewall_machine_touches), ("firewall/machine.lost", Rows.laid_firewall_machine_lost)] [.data, .mapped, .mapped, .widerDeep, .mapped, .mapped, .mapped, .funcs, .data] true :=
  Program.laidByTextLater.sub seatTie1 ["firewall/codec.forms", "firewall/codec.loads", "firewall/codec.stores", "firewall/codec.conds", "firewall/cpu.does", "firewall/cpu.shifts", "firewall/helpers.args", "firewall/machine.touches", "firewall/machine.lost"] (by kernel_rfl) (by kernel_rfl)
theorem specNone_row_tie : Rows.specNoneRow.laidByTextAt .later Tryz.pinned [.data, .mapped, .mapped, .widerDeep, .mapped, .mapped, .mapped, .funcs, .data] true :=
  OpenClaim.laidByTextAt_later rfl rfl tie noOwnUnsafe
theorem specLeak_row_tie : Rows.specLeakRow.laidByTextAt .later Tryz.pinned [.data, .mapped, .mapped, .widerDeep, .mapped, .mapped, .mapped, .funcs, .data] true :=
  OpenClaim.laidByTextAt_later rfl rfl tie noOwnUnsafe
theorem specStale_row_tie : Rows.specStaleRow.laidByTextAt .later Tryz.pinned [.data, .mapped, .mapped, .widerDeep, .mapped, .mapped, .mapped, .funcs, .data] true :=
  OpenClaim.laidByTextAt_later rfl rfl tie noOwnUnsafe
theorem specNoneUpto_row_tie : Rows.specNoneUptoRow.laidByTextAt .later Tryz.pinned [.data, .mapped, .mapped, .widerDeep, .mapped, .mapped, .mapped, .funcs, .data] true :=
  OpenClaim.laidByTextAt_later rfl rfl tie noOwnUnsafe
theorem specLeakUpto_row_tie : Rows.specLeakUptoRow.laidByTextAt .later Tryz.pinned [.data, .mapped, .mapped, .widerDeep, .mapped, .mapped, .mapped, .funcs, .data] true :=
  OpenClaim.laidByTextAt_later rfl rfl tie noOwnUnsafe
theorem specStaleUpto_row_tie : Rows.specStaleUptoRow.laidByTextAt .later Tryz.pinned [.data, .mapped, .mapped, .widerDeep, .mapped, .mapped, .mapped, .funcs, .data] true :=
  OpenClaim.laidByTextAt_later rfl rfl tie noOwnUnsafe
end Go.Proofs.YtfmcmfiebehhiaaGreatDoor
