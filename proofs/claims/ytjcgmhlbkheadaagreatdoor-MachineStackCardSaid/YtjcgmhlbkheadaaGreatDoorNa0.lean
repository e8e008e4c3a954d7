/- Code in a bare world: what MachineStack and MachineJumps share. -/
import Derived.Test.YtjcgmhlbkheadaaGreatDoorCore42
import Derived.Test.YtjcgmhlbkheadaaGreatDoorPlC
set_option linter.all false
set_option linter.unusedVariables false
set_option linter.unusedSimpArgs false
namespace Go.Proofs.YtjcgmhlbkheadaaGreatDoor
open Go.RowKit
theorem bare_new(w:World):Calls Tryz.prog 6 #[.agg #[.slice none 0 0, .int .i64 0], .agg #[.string ⟨#[]⟩, .int .u64 0, .slice none 0 0, .slice none 0 0], .slice none 0 0] w (HNewQ w [] 0 0 [] [] (memL 0 0 [] [] [])):=
 hnew_made [] ⟨#[]⟩ 0 0 (.slice none 0 0) (.slice none 0 0) (.slice none 0 0) [] _ rfl rfl (.inl ⟨rfl,none,0,rfl⟩) rfl [] 0 0 none (.inl ⟨rfl,rfl,rfl⟩) rfl rfl ⟨⟨fun _ h=>absurd h List.not_mem_nil,List.Pairwise.nil,by decide⟩,fun _ h=>absurd h List.not_mem_nil,fun _ h=>absurd h List.not_mem_nil,by decide⟩ [] (.inl ⟨rfl,none,0,rfl⟩) (by decide) (by decide) (by decide)
def absR(d im:Int):XI:=⟨3,0,0,0,false,false,d,0,0,0,im⟩
theorem put_abs(d:Int)(hd:d=1∨d=2∨d=3)(im:Int):putM (absR d im)=absX d im:=by rcases hd with rfl|rfl|rfl<;>rfl
theorem codeM_put{l xs:List XI}(h:l.map putM=xs):codeM l=xs.flatMap encB:=by
 rw [←h,List.flatMap_map]
 rfl
theorem wrap_sg(v:Nat):RowKit.wrap64 (v:Int)=sg v:=by
 unfold sg RowKit.wrap64
 rw [IntKind.wrap_i64]
end Go.Proofs.YtjcgmhlbkheadaaGreatDoor
