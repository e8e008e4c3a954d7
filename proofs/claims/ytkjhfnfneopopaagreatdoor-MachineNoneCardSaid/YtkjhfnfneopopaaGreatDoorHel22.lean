/- firewalllaw09.HelpersNone: a world that is none. -/
import Derived.Test.YtkjhfnfneopopaaGreatDoorCore28
import Derived.Handy
set_option linter.all false
set_option linter.unusedVariables false
set_option linter.unusedSimpArgs false
set_option maxHeartbeats 1000000
namespace Go.Proofs.YtkjhfnfneopopaaGreatDoor
open Go.RowKit
def NW(p:Value)(w:World):Prop:=p= .pointer none∨∃b,p= .pointer (some ⟨b,0,none⟩)∧w.cell? ⟨b,0,none⟩=some (.bool false)
theorem NW.fr{p:Value}{w w':World}(h:NW p w)(hf:Fr No w w'):NW p w':=h.imp id fun ⟨b,e,hc⟩=>⟨b,e,hf.cell hc id⟩
theorem nw_none(p:Value)(w:World)(h:NW p w):Calls Tryz.prog 56 #[p] w fun e w'=>e= .returned (.bool true)∧w=w':=by
 rcases h with rfl|⟨b,rfl,hc⟩
 ·go_enter Tryz.func56,Tryz.ntmps56
  go_wp2_with fail
  go_ret
  exact ⟨rfl,rfl⟩
 ·go_enter Tryz.func56,Tryz.ntmps56
  go_wp2_with fail
  go_ret
  exact ⟨rfl,rfl⟩
theorem nw_memory(p:Value)(w:World)(h:NW p w):Calls Tryz.prog 19 #[p] w fun e w'=>e= .returned (.pointer none)∧w=w':=by
 have HN:=Lib.hid (nw_none p w h)
 clear h
 go_enter Tryz.func19,Tryz.ntmps19
 go_wp2_with (go_at_call 56;(with_reducible refine (HN.out).mono ?_);rintro e w1 ⟨rfl,rfl⟩)
 go_ret
 exact ⟨rfl,rfl⟩
theorem nw_maps(p:Value)(w:World)(h:NW p w):Calls Tryz.prog 21 #[p] w fun e w'=>e= .returned (.pointer none)∧w=w':=by
 have HN:=Lib.hid (nw_none p w h)
 clear h
 go_enter Tryz.func21,Tryz.ntmps21
 go_wp2_with (go_at_call 56;(with_reducible refine (HN.out).mono ?_);rintro e w1 ⟨rfl,rfl⟩)
 go_ret
 exact ⟨rfl,rfl⟩
theorem nw_copy(p:Value)(w:World)(h:NW p w):Calls Tryz.prog 25 #[p] w fun e w'=>e= .returned (.pointer none)∧w=w':=by
 have HN:=Lib.hid (nw_none p w h)
 clear h
 go_enter Tryz.func25,Tryz.ntmps25
 go_wp2_with (go_at_call 56;(with_reducible refine (HN.out).mono ?_);rintro e w1 ⟨rfl,rfl⟩)
 go_ret
 exact ⟨rfl,rfl⟩
theorem nw_layout(p:Value)(w:World)(h:NW p w):Calls Tryz.prog 78 #[p] w fun e w'=>e= .returned (.agg #[.slice none 0 0, .int .i64 0])∧Fr No w w':=by
 have HN:Hid (∀W,Fr No w W→Calls Tryz.prog 56 #[p] W fun e w'=>e= .returned (.bool true)∧W=w'):=fun W hW=>nw_none p W (h.fr hW)
 clear h
 go_enter Tryz.func78,Tryz.ntmps78
 go_wp2_with (go_at_call 56;(with_reducible refine (HN.out _ ((Fr.refl _ _).alloc _)).mono ?_);rintro e w1 ⟨rfl,rfl⟩)
 all_goals go_returns
 all_goals refine ⟨rfl,?_⟩
 all_goals (first|exact (Fr.refl _ _).alloc _|exact ((((Fr.refl No w).alloc _).any).setCell (.inl (Nat.le_refl _)) _).ours|exact (((((Fr.refl No w).alloc _).any).setCell (.inl (Nat.le_refl _)) _).setCell (.inl (Nat.le_refl _)) _).ours)
theorem nw_call(p:Value)(id a0 a1 a2 a3 a4:Int)(w:World)(h:NW p w):Calls Tryz.prog 88 #[p, .int .i64 id, .agg #[.int .u64 a0, .int .u64 a1, .int .u64 a2, .int .u64 a3, .int .u64 a4]] w fun e w'=>e= .returned (.tuple #[.int .u64 0, .int .i64 1])∧Fr No w w':=by
 have HN:Hid (∀W,Fr No w W→Calls Tryz.prog 56 #[p] W fun e w'=>e= .returned (.bool true)∧W=w'):=fun W hW=>nw_none p W (h.fr hW)
 clear h
 go_enter Tryz.func88,Tryz.ntmps88
 go_wp2_with (go_at_call 56;(with_reducible refine (HN.out _ ((Fr.refl _ _).alloc _)).mono ?_);rintro e w1 ⟨rfl,rfl⟩)
 go_ret2
 exact ⟨rfl,(Fr.refl _ _).alloc _⟩
theorem lay_f0(w:World):(Instr.field 28 (.agg #[.slice none 0 0, .int .i64 0]) 0).run Tryz.prog w= .ok (.slice none 0 0) w:=by kernel_rfl
theorem lay_f1(w:World):(Instr.field 28 (.agg #[.slice none 0 0, .int .i64 0]) 1).run Tryz.prog w= .ok (.int .i64 0) w:=by kernel_rfl
end Go.Proofs.YtkjhfnfneopopaaGreatDoor
