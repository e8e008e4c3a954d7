/- What MachineCalls' calls come to, plain. -/
import Derived.Test.YtjcgmhlbkheadaaGreatDoorCore18
set_option linter.all false
set_option linter.unusedVariables false
set_option linter.unusedSimpArgs false
namespace Go.Proofs.YtjcgmhlbkheadaaGreatDoor
open Go.RowKit
def mcD:List MapD:= [⟨2,2,4,2⟩]
def mcS:List Tab:=mcD.map Tab.new
def mcP(k0 k1 v0 v1 v2 v3:UInt8):List UInt8:= [k0,k1,v0,v1,v2,v3]
def natH:Reg:=⟨262144,List.replicate 120 0++leBytes 8 10485760,true⟩
def mcM(k0 k1 v0 v1 v2 v3:UInt8):List Reg:=memL 6 0 (mcP k0 k1 v0 v1 v2 v3) mcD []
def mcM1(k0 k1 v0 v1 v2 v3:UInt8):List Reg:= [ownR0 6,ownR1 0,ownR2,ownR3 (mcP k0 k1 v0 v1 v2 v3),natH,⟨1048576,List.replicate 8 0,true⟩]
def mcM2(k0 k1 v0 v1 v2 v3:UInt8):List Reg:= [ownR0 6,ownR1 0,ownR2,ownR3 (mcP k0 k1 v0 v1 v2 v3),natH,⟨1048576, [v0,v1,v2,v3,0,0,0,0],true⟩]
def mcS1(k0 k1:UInt8):List Tab:= [⟨⟨2,2,4,2⟩, [[k0,k1], []]⟩]
def mcX(x:Nat):ST:=⟨[1,0,196610,x,262264,x,196608,9437184,x,x,x,x,x,x,x,x],false,false,true,true,4194304⟩
def mcT(x:Nat):ST:=⟨[0,0,0,x,262264,x,0,0,0,0,0,0,x,x,x,x],false,false,true,true,4194403⟩
def callX(rl:Int):XI:=⟨20,0,0,0,false,false,0,0,0,rl,0⟩
theorem mc_may:mayL mcD=true:=by decide+kernel
section
variable (k0 k1 v0 v1 v2 v3:UInt8) (x:Nat)
theorem c_begin:beginM ⟨[],mcS,mcM k0 k1 v0 v1 v2 v3⟩=(.ok {ST.zero with r:=ST.zero.r.set 4 262264,pc:=4194304},⟨[],mcS,mcM1 k0 k1 v0 v1 v2 v3⟩):=by kernel_rfl
theorem c_step:stepM mcD ⟨[],mcS,mcM1 k0 k1 v0 v1 v2 v3⟩ (callX 4194207) 4194403 (mcX x)=(.ok (mcT x),⟨[],mcS1 k0 k1,mcM2 k0 k1 v0 v1 v2 v3⟩):=by kernel_rfl
theorem c_bad:stepM mcD ⟨[],mcS1 k0 k1,mcM2 k0 k1 v0 v1 v2 v3⟩ (callX 4194209) 4194403 (mcX x)=(.error 110,⟨[],mcS1 k0 k1,mcM2 k0 k1 v0 v1 v2 v3⟩):=by kernel_rfl
theorem c_was:mtext (mcM1 k0 k1 v0 v1 v2 v3) 262144 128=(natH.data,0):=by kernel_rfl
theorem c_now:mtext (mcM2 k0 k1 v0 v1 v2 v3) 262144 128=(natH.data,0):=by kernel_rfl
theorem c_laid:mtext (mcM2 k0 k1 v0 v1 v2 v3) 1048576 4=([v0,v1,v2,v3],0):=by kernel_rfl
theorem mc_find:(⟨⟨2,2,4,2⟩, [[k0,k1], []]⟩:Tab).find [k0,k1]=some 0:=by simp [Tab.find,List.findIdx?_cons]
theorem mc_look:mlookup (mcS1 k0 k1) 0 [k0,k1]=1048576:=by
 have hh:mhas (mcS1 k0 k1) 0 [k0,k1]=some ⟨⟨2,2,4,2⟩, [[k0,k1], []]⟩:=by kernel_rfl
 unfold mlookup
 rw [hh]
 simp only [mc_find]
 rfl
end
end Go.Proofs.YtjcgmhlbkheadaaGreatDoor
