/- memory.New: the walk. slices.Clone of bytes, and of a memory's regions. memory.New: of no regions; and of any. -/
import Derived.Test.YtfmcmfiebehhiaaGreatDoorCore6
set_option linter.all false
set_option linter.unusedVariables false
set_option linter.unusedSimpArgs false
set_option maxRecDepth 100000
set_option maxHeartbeats 2000000
namespace Go.Proofs.YtfmcmfiebehhiaaGreatDoor
open Go.Proofs.Tryz
open Go.RowKit Go.Shelf Go.Lib Go.Sort
theorem Tryz.info_reg:(prog.info? 138).map (fun i=>(i.zero,i.size,i.bytes))=some (some (.agg #[.int .u64 0, .slice none 0 0, .bool false]),3,40):=by kernel_rfl
theorem new_walk(g off n cap)(rs:List Reg)(w:World)(hn:rs.length=n)(h1n:1≤n)(h12:n≤12)(hc:CellsAt w g off (aflat rs))(hty:∀r∈rs,r.typed):
  Calls prog 26 #[.slice (some ⟨g,off,none⟩) n cap] w (NewPost rs w):=by
 have HC:=Lib.hid hc
 have HN:=Lib.hid hn
 have HT:=Lib.hid hty
 clear hc hn hty
 go_enter func26,ntmps26
 go_wp2_with fail
 go_loopw [13] (fun i wr=>∃(k:Nat) (vk:Value) (l:List HReg),k≤n∧i= .int .i64 k∧Hid (NewInv w rs k vk l wr)) (fun i _=>n-(intOf i).toNat)
 case atStart=>exact ⟨0,_, [],Nat.zero_le _,rfl,NewInv.start w rs⟩
 case round=>
  obtain ⟨k,vk,l,hk,rfl,HI⟩:=hrel
  by_cases hlt:k<n
  ·obtain ⟨r,hr⟩:∃r,rs[k]? =some r:=⟨rs[k]'(by rw [HN.out];exact hlt),List.getElem?_eq_getElem _⟩
   have HR:=Lib.hid hr
   have kc:wr.cell? ⟨g,off+k*3,none⟩=some (.int .u64 r.base)∧wr.cell? ⟨g,off+k*3+1,none⟩=some (.string ⟨r.data.toArray⟩)∧wr.cell? ⟨g,off+k*3+2,none⟩=some (.bool r.free):=by
    have hkl:k<rs.length:=by rw [HN.out];exact hlt
    have hrk:rs[k]=r:=by rw [List.getElem?_eq_getElem hkl] at hr;exact Option.some.inj hr
    have hcw:=HI.out.fr.cells HC.out id
    have c0:=hcw (k*3+0) _ (aflat_get rs k 0 hkl (by omega))
    have c1:=hcw (k*3+1) _ (aflat_get rs k 1 hkl (by omega))
    have c2:=hcw (k*3+2) _ (aflat_get rs k 2 hkl (by omega))
    rw [hrk] at c0 c1 c2
    exact ⟨c0,c1,c2⟩
   obtain ⟨k0,k1,k2⟩:=kc
   have hrt:r.typed:=HT.out r (List.mem_of_getElem? hr)
   have hsize:(⟨r.data.toArray⟩:ByteArray).size=r.data.length:=by simp [ByteArray.size]
   have hnil:((⟨r.data.toArray⟩:ByteArray).toList==([]:List UInt8))=decide (r.data= []):=str_empty r.data
   have e1:IntKind.u64.wrap ((⟨r.data.toArray⟩:ByteArray).size:Int)=(⟨r.data.toArray⟩:ByteArray).size:=by rw [hsize];exact IntWalk.u64_in _ (by have:=hrt.small;omega)
   have hgood:r.good=true→(r.data≠ []∧r.base+(r.data.length:Int)≤18446744073709551615):=(Reg.good_iff r).1
   by_cases hg:r.good=true
   ·have e0:((⟨r.data.toArray⟩:ByteArray).toList==([]:List UInt8))=false:=by rw [hnil];simpa using (hgood hg).1
    have e2:IntKind.u64.wrap (r.base+((⟨r.data.toArray⟩:ByteArray).size:Int))=r.base+(⟨r.data.toArray⟩:ByteArray).size:=by
     rw [hsize];exact IntWalk.u64_in _ (by have:=hrt.low;have:=(hgood hg).2;omega)
    have hstep:=fun (W1 w1:World) (gg cap2 dcap:Nat) (o2:Obj)=>HI.out.step (W1:=W1) (w1:=w1) (gg:=gg) (cap2:=cap2) (dcap:=dcap) (o2:=o2) r hr hg
    have hB:w.heap.size<wr.heap.size:=World.block_lt_of_cell? wr _ HI.out.made
    have hne:vk.ownBlock≠some w.heap.size:=fun e=>by have:=(HI.out.own.lt _ e).1;omega
    have hvr:vk.ownBlock≠some wr.heap.size:=fun e=>by have:=(HI.out.own.lt _ e).2;omega
    have h1:=HI.out.cell
    have hfz:=HI.out.free
    have hown:=HI.out.own
    have hcapge:∀W:World,r.data.length≤grownCap W r.data.length 0 5:=fun W=>grownCap_ge W r.data.length 0 5
    rw [←hsize] at hstep hcapge
    generalize r.base=base at*
    generalize (⟨r.data.toArray⟩:ByteArray)=data at*
    generalize r.free=free at*
    have HS:=Lib.hid hstep
    have HG:Hid _:=hcapge
    clear hstep hcapge hgood hg hnil hsize hrt hr
    go_wp2_with fail
    have hown1:=hown.alloc (.cells #[Value.int IntKind.u64 base,Value.string data,Value.bool free] 58)
    have n0:(wr.alloc (.cells #[Value.int IntKind.u64 base,Value.string data,Value.bool free] 58)).cell? ⟨wr.heap.size,0,none⟩=some (.int .u64 base):=by rw [World.cell?_alloc_new];rfl
    have n1:(wr.alloc (.cells #[Value.int IntKind.u64 base,Value.string data,Value.bool free] 58)).cell? ⟨wr.heap.size,1,none⟩=some (.string data):=by rw [World.cell?_alloc_new];rfl
    have n2:(wr.alloc (.cells #[Value.int IntKind.u64 base,Value.string data,Value.bool free] 58)).cell? ⟨wr.heap.size,2,none⟩=some (.bool free):=by rw [World.cell?_alloc_new];rfl
    have n3:(wr.alloc (.cells #[Value.int IntKind.u64 base,Value.string data,Value.bool free] 58)).cell? ⟨w.heap.size,1,none⟩=some vk:=by rw [World.cell?_alloc_lt _ _ _ hB];exact h1
    have n4:(wr.alloc (.cells #[Value.int IntKind.u64 base,Value.string data,Value.bool free] 58)).frozen? ⟨w.heap.size,1,none⟩=false:=by rw [World.frozen?_alloc_past _ _ _ hB];exact hfz
    have n5:(wr.alloc (.cells #[Value.int IntKind.u64 base,Value.string data,Value.bool free] 58)).heap.size=wr.heap.size+1:=by simp
    have hWr:Fr No wr (wr.alloc (.cells #[Value.int IntKind.u64 base,Value.string data,Value.bool free] 58)):=(Fr.refl _ _).alloc _
    generalize wr.alloc (.cells #[Value.int IntKind.u64 base,Value.string data,Value.bool free] 58)=W1 at*
    have HWr:=Lib.hid hWr
    have hcv:=fun W:World=>run_bytes_of_string (P:=prog) W 9 22 5 data underlying9 underlying22 underlying5
    have hbase:w.heap.size+1≤W1.heap.size:=by omega
    obtain ⟨i0,hi,hz0,hz1,hz2⟩:=info_parts Tryz.info_reg
    have hN1:W1.heap.size≠w.heap.size:=by omega
    have hN2:W1.heap.size≠wr.heap.size:=by omega
    have H1:∀o1:Obj,((W1.alloc o1).alloc (.cells #[.int .u64 base, .slice (some ⟨wr.heap.size+1,0,none⟩) data.size (grownCap W1.drew data.size 0 5), .bool free] 138)).drew.drew.heap[wr.heap.size+2]? =some (.cells #[.int .u64 base, .slice (some ⟨wr.heap.size+1,0,none⟩) data.size (grownCap W1.drew data.size 0 5), .bool free] 138 (0,0)):=fun o1=>by
     have:=heap_alloc_new (W1.alloc o1) (.cells #[.int .u64 base, .slice (some ⟨wr.heap.size+1,0,none⟩) data.size (grownCap W1.drew data.size 0 5), .bool free] 138)
     rw [show (W1.alloc o1).heap.size=wr.heap.size+2 by simp [n5]] at this
     exact this
    have H2:Hid (∀(o1 o2:Obj) (w1:World),(((W1.alloc o1).alloc o2).drew.drew).grownBy w1 vk.ownBlock→w1.cell? ⟨w.heap.size,1,none⟩=some vk∧w1.frozen? ⟨w.heap.size,1,none⟩=false∧(w1.cell? ⟨wr.heap.size,0,none⟩=some (.int .u64 base)∧w1.cell? ⟨wr.heap.size,1,none⟩=some (.string data)∧w1.cell? ⟨wr.heap.size,2,none⟩=some (.bool free))):=fun o1 o2 w1 hg=>by
     have hh:∀b,b<W1.heap.size→vk.ownBlock≠some b→w1.heap[b]? =W1.heap[b]? :=fun b hb hn=>by
      rw [hg.block b (by simp;omega) (fun e=>hn e.symm)]
      show (((W1.alloc o1).alloc o2)).heap[b]? =_
      rw [Below.heap_alloc _ _ _ (by simp;omega),Below.heap_alloc _ _ _ hb]
     have hb:=hh w.heap.size (by omega) hne
     have hb2:=hh wr.heap.size (by omega) hvr
     exact ⟨(World.cell?_of_block (w:=W1) (a:=⟨w.heap.size,1,none⟩) hb).trans n3,(World.frozen?_of_block (w:=W1) (a:=⟨w.heap.size,1,none⟩) hb).trans n4,
      (World.cell?_of_block (w:=W1) (a:=⟨wr.heap.size,0,none⟩) hb2).trans n0,(World.cell?_of_block (w:=W1) (a:=⟨wr.heap.size,1,none⟩) hb2).trans n1,(World.cell?_of_block (w:=W1) (a:=⟨wr.heap.size,2,none⟩) hb2).trans n2⟩
    clear hWr h1 hfz k0 k1 k2 e0 e1 e2 hown hne hvr
    have H3:Hid (∀(w1:World) (u:Value),(w1.cell? ⟨wr.heap.size,0,none⟩=some (.int .u64 base)∧w1.cell? ⟨wr.heap.size,1,none⟩=some (.string data)∧w1.cell? ⟨wr.heap.size,2,none⟩=some (.bool free))→((w1.setCell ⟨w.heap.size,1,none⟩ u).cell? ⟨wr.heap.size,0,none⟩=some (.int .u64 base)∧(w1.setCell ⟨w.heap.size,1,none⟩ u).cell? ⟨wr.heap.size,1,none⟩=some (.string data)∧(w1.setCell ⟨w.heap.size,1,none⟩ u).cell? ⟨wr.heap.size,2,none⟩=some (.bool free))):=fun w1 u hh=>by
     obtain ⟨a0,a1,a2⟩:=hh
     refine ⟨?_,?_,?_⟩
     ·rw [World.cell?_setCell_other _ _ _ _ (by simp<;>omega)];exact a0
     ·rw [World.cell?_setCell_other _ _ _ _ (by simp<;>omega)];exact a1
     ·rw [World.cell?_setCell_other _ _ _ _ (by simp<;>omega)];exact a2
    have hB1:w.heap.size<wr.heap.size+1:=by omega
    have hB2:w.heap.size<wr.heap.size+1+1:=by omega
    refine wp_region_noPanic ?_
    refine wp_region_held_drew (S:=fun w'=>w'.cell? ⟨wr.heap.size,0,none⟩=some (.int .u64 base)∧w'.cell? ⟨wr.heap.size,1,none⟩=some (.string data)∧w'.cell? ⟨wr.heap.size,2,none⟩=some (.bool free)) (by kernel_rfl) ?_ (fun hHeld=> ?_)
    ·go_keep
    refine wpAnyH_take (i:=0) (v:= ?_) rfl (by kernel_rfl) (by kernel_rfl) (by kernel_rfl) (fun _ _ _ h=>h) (Or.inl ⟨by rfl,?_⟩) (by assumption) ?_
    rotate_left
    focus (intro w hSw;(try dsimp only at hSw);go_simp;try with_reducible rfl)
    ((try simp only [Act.put]);(try simp only [List.setIfInBounds_toArray]);(try simp only [List.set_cons_succ]);(try simp only [List.set_cons_zero]))
    refine wpAnyH_take (i:=1) (v:= ?_) rfl (by kernel_rfl) (by kernel_rfl) (by kernel_rfl) (fun _ _ _ h=>h) (Or.inl ⟨by rfl,?_⟩) (by assumption) ?_
    rotate_left
    focus (intro w hSw;(try dsimp only at hSw);go_simp;try with_reducible rfl)
    ((try simp only [Act.put]);(try simp only [List.setIfInBounds_toArray]);(try simp only [List.set_cons_succ]);(try simp only [List.set_cons_zero]))
    refine wpAnyH_take (i:=2) (v:= ?_) rfl (by kernel_rfl) (by kernel_rfl) (by kernel_rfl) (fun _ _ _ h=>h) (Or.inl ⟨by rfl,?_⟩) (by assumption) ?_
    rotate_left
    focus (intro w hSw;(try dsimp only at hSw);go_simp;try with_reducible rfl)
    ((try simp only [Act.put]);(try simp only [List.setIfInBounds_toArray]);(try simp only [List.set_cons_succ]);(try simp only [List.set_cons_zero]))
    refine wpAnyH_take (i:=3) (v:= ?_) rfl (by kernel_rfl) (by kernel_rfl) (by kernel_rfl) (fun _ _ _ h=>h) (Or.inl ⟨by rfl,?_⟩) (by assumption) ?_
    rotate_left
    focus (intro w hSw;(try dsimp only at hSw);go_simp;try with_reducible rfl)
    ((try simp only [Act.put]);(try simp only [List.setIfInBounds_toArray]);(try simp only [List.set_cons_succ]);(try simp only [List.set_cons_zero]))
    refine wpAnyH_take (i:=5) (v:= ?_) rfl (by kernel_rfl) (by kernel_rfl) (by kernel_rfl) (fun _ _ _ h=>h) (Or.inl ⟨by rfl,?_⟩) (by assumption) ?_
    rotate_left
    focus (intro w hSw;(try dsimp only at hSw);go_simp;try with_reducible rfl)
    ((try simp only [Act.put]);(try simp only [List.setIfInBounds_toArray]);(try simp only [List.set_cons_succ]);(try simp only [List.set_cons_zero]))
    refine wpAnyH_take (i:=6) (v:= ?_) rfl (by kernel_rfl) (by kernel_rfl) (by kernel_rfl) (fun _ _ _ h=>h) (Or.inl ⟨by rfl,?_⟩) (by assumption) ?_
    rotate_left
    focus (intro w hSw;(try dsimp only at hSw);go_simp;try with_reducible rfl)
    ((try simp only [Act.put]);(try simp only [List.setIfInBounds_toArray]);(try simp only [List.set_cons_succ]);(try simp only [List.set_cons_zero]))
    refine wpAnyH_take (i:=7) (v:= ?_) rfl (by kernel_rfl) (by kernel_rfl) (by kernel_rfl) (fun _ _ _ h=>h) (Or.inl ⟨by rfl,?_⟩) (by assumption) ?_
    rotate_left
    focus (intro w hSw;(try dsimp only at hSw);go_simp;try with_reducible rfl)
    ((try simp only [Act.put]);(try simp only [List.setIfInBounds_toArray]);(try simp only [List.set_cons_succ]);(try simp only [List.set_cons_zero]))
    refine wpAnyH_take (i:=8) (v:= ?_) rfl (by kernel_rfl) (by kernel_rfl) (by kernel_rfl) (fun _ _ _ h=>h) (Or.inl ⟨by rfl,?_⟩) (by assumption) ?_
    rotate_left
    focus (intro w hSw;(try dsimp only at hSw);go_simp;try with_reducible rfl)
    ((try simp only [Act.put]);(try simp only [List.setIfInBounds_toArray]);(try simp only [List.set_cons_succ]);(try simp only [List.set_cons_zero]))
    refine wpAnyH_take (i:=10) (v:= ?_) rfl (by kernel_rfl) (by kernel_rfl) (by kernel_rfl) (fun _ _ _ h=>h) (Or.inl ⟨by rfl,?_⟩) (by assumption) ?_
    rotate_left
    focus (intro w hSw;(try dsimp only at hSw);go_simp;try with_reducible rfl)
    ((try simp only [Act.put]);(try simp only [List.setIfInBounds_toArray]);(try simp only [List.set_cons_succ]);(try simp only [List.set_cons_zero]))
    refine wpAnyH_take (i:=11) (v:= ?_) rfl (by kernel_rfl) (by kernel_rfl) (by kernel_rfl) (fun _ _ _ h=>h) (Or.inl ⟨by rfl,?_⟩) (by assumption) ?_
    rotate_left
    focus (intro w hSw;(try dsimp only at hSw);go_simp;try with_reducible rfl)
    ((try simp only [Act.put]);(try simp only [List.setIfInBounds_toArray]);(try simp only [List.set_cons_succ]);(try simp only [List.set_cons_zero]))
    refine wpAnyH_ready (rs:= [4,9]) (by kernel_rfl) (by simp) ?_
    refine AllReadyH.cons rfl (fun K hK=> ?_) (AllReadyH.cons rfl (fun K hK=> ?_) AllReadyH.nil)
    ·go_simp
     refine hK.out _ _ ?_ (fun hHeld=> ?_)
     ·go_keep
     clear hK K
     ((try simp only [Act.put]);(try simp only [List.setIfInBounds_toArray]);(try simp only [List.set_cons_succ]);(try simp only [List.set_cons_zero]))
     refine wpAnyH_ready (rs:= [9]) (by kernel_rfl) (by simp) ?_
     refine AllReadyH.cons rfl (fun K hK=> ?_) AllReadyH.nil
     go_simp
     refine hK.out _ _ ?_ (fun hHeld=> ?_)
     ·go_keep
     clear hK K
     ((try simp only [Act.put]);(try simp only [List.setIfInBounds_toArray]);(try simp only [List.set_cons_succ]);(try simp only [List.set_cons_zero]))
     refine wpAnyH_take (i:=12) (v:= ?_) rfl (by kernel_rfl) (by kernel_rfl) (by kernel_rfl) (fun _ _ _ h=>h) (Or.inl ⟨by rfl,?_⟩) (by assumption) ?_
     rotate_left
     focus (intro w hSw;(try dsimp only at hSw);go_simp;try with_reducible rfl)
     ((try simp only [Act.put]);(try simp only [List.setIfInBounds_toArray]);(try simp only [List.set_cons_succ]);(try simp only [List.set_cons_zero]))
     refine wpAnyH_ready (rs:= [13]) (by kernel_rfl) (by simp) ?_
     refine AllReadyH.cons rfl (fun K hK=> ?_) AllReadyH.nil
     go_simp
     refine hK.out _ _ ?_ (fun hHeld=> ?_)
     ·go_keep
     clear hK K
     ((try simp only [Act.put]);(try simp only [List.setIfInBounds_toArray]);(try simp only [List.set_cons_succ]);(try simp only [List.set_cons_zero]))
     refine wpAnyH_ready (rs:= [14]) (by kernel_rfl) (by simp) ?_
     refine AllReadyH.cons rfl (fun K hK=> ?_) AllReadyH.nil
     refine step_append_lies _ (by rfl) _ _ _ (by rfl) (w.heap.size+1) 138 i0 _ 3 40 underlying134 hi hz0 hz1 hz2 rfl (by omega) vk k (flat l) (by rfl) (((hown1.alloc _).alloc _).drew.drew) ⟨wr.heap.size+2,0,none⟩ 1 1 [.int .u64 base, .slice (some ⟨wr.heap.size+1,0,none⟩) data.size (grownCap W1.drew data.size 0 5), .bool free] (by rfl) (by rfl) (World.news_of_block (cs:= #[.int .u64 base, .slice (some ⟨wr.heap.size+1,0,none⟩) data.size (grownCap W1.drew data.size 0 5), .bool free]) (t:=138) (fr:=(0,0)) (H1 _)) (by simp [Value.oneCell']) (by omega) (by unfold maxLen;omega) (by omega) (by simp;omega) (wr.heap.size+3) (by simp [n5]) ?_;intro gg cap2 w1 hown2 hgrow hat hlt2;obtain ⟨z1,z2,z3⟩:=H2.out _ _ w1 hgrow
     refine hK.out _ _ ?_ (fun hHeld=> ?_)
     ·exact z3
     clear hK K
     ((try simp only [Act.put]);(try simp only [List.setIfInBounds_toArray]);(try simp only [List.set_cons_succ]);(try simp only [List.set_cons_zero]))
     refine wpAnyH_take (i:=15) (v:= ?_) rfl (by kernel_rfl) (by kernel_rfl) (by kernel_rfl) (fun _ _ _ h=>h) (Or.inl ⟨by rfl,?_⟩) (by assumption) ?_
     rotate_left
     focus (intro w hSw;(try dsimp only at hSw);go_simp;try with_reducible rfl)
     ((try simp only [Act.put]);(try simp only [List.setIfInBounds_toArray]);(try simp only [List.set_cons_succ]);(try simp only [List.set_cons_zero]))
     refine wpAnyH_take (i:=16) (v:= ?_) rfl (by kernel_rfl) (by kernel_rfl) (by kernel_rfl) (fun _ _ _ h=>h) (Or.inl ⟨by rfl,?_⟩) (by assumption) ?_
     rotate_left
     focus (intro w hSw;(try dsimp only at hSw);go_simp;try with_reducible rfl)
     ((try simp only [Act.put]);(try simp only [List.setIfInBounds_toArray]);(try simp only [List.set_cons_succ]);(try simp only [List.set_cons_zero]))
     refine wpAnyH_ready (rs:= [17]) (by kernel_rfl) (by simp) ?_
     refine AllReadyH.cons rfl (fun K hK=> ?_) AllReadyH.nil
     go_simp
     refine hK.out _ _ ?_ (fun hHeld=> ?_)
     ·exact H3.out w1 _ z3
     clear hK K
     ((try simp only [Act.put]);(try simp only [List.setIfInBounds_toArray]);(try simp only [List.set_cons_succ]);(try simp only [List.set_cons_zero]))
     refine wpAnyH_done (by kernel_rfl) ?_ _
     refine NoPanic.normal ?_
     go_wp2_with fail
     go_roundw
     case rel=>exact ⟨k+1,_,_,by omega,by go_num,HS.out W1 w1 gg cap2 _ _ HWr.out n5 (HG.out _) hown2 hgrow hat hlt2⟩
     case measure=>simp [intOf]<;>omega
    ·go_simp
     refine hK.out _ _ ?_ (fun hHeld=> ?_)
     ·go_keep
     clear hK K
     ((try simp only [Act.put]);(try simp only [List.setIfInBounds_toArray]);(try simp only [List.set_cons_succ]);(try simp only [List.set_cons_zero]))
     refine wpAnyH_take (i:=12) (v:= ?_) rfl (by kernel_rfl) (by kernel_rfl) (by kernel_rfl) (fun _ _ _ h=>h) (Or.inl ⟨by rfl,?_⟩) (by assumption) ?_
     rotate_left
     focus (intro w hSw;(try dsimp only at hSw);go_simp;try with_reducible rfl)
     ((try simp only [Act.put]);(try simp only [List.setIfInBounds_toArray]);(try simp only [List.set_cons_succ]);(try simp only [List.set_cons_zero]))
     refine wpAnyH_ready (rs:= [4,13]) (by kernel_rfl) (by simp) ?_
     refine AllReadyH.cons rfl (fun K hK=> ?_) (AllReadyH.cons rfl (fun K hK=> ?_) AllReadyH.nil)
     ·go_simp
      refine hK.out _ _ ?_ (fun hHeld=> ?_)
      ·go_keep
      clear hK K
      ((try simp only [Act.put]);(try simp only [List.setIfInBounds_toArray]);(try simp only [List.set_cons_succ]);(try simp only [List.set_cons_zero]))
      refine wpAnyH_ready (rs:= [13]) (by kernel_rfl) (by simp) ?_
      refine AllReadyH.cons rfl (fun K hK=> ?_) AllReadyH.nil
      go_simp
      refine hK.out _ _ ?_ (fun hHeld=> ?_)
      ·go_keep
      clear hK K
      ((try simp only [Act.put]);(try simp only [List.setIfInBounds_toArray]);(try simp only [List.set_cons_succ]);(try simp only [List.set_cons_zero]))
      refine wpAnyH_ready (rs:= [14]) (by kernel_rfl) (by simp) ?_
      refine AllReadyH.cons rfl (fun K hK=> ?_) AllReadyH.nil
      refine step_append_lies _ (by rfl) _ _ _ (by rfl) (w.heap.size+1) 138 i0 _ 3 40 underlying134 hi hz0 hz1 hz2 rfl (by omega) vk k (flat l) (by rfl) (((hown1.alloc _).alloc _).drew.drew) ⟨wr.heap.size+2,0,none⟩ 1 1 [.int .u64 base, .slice (some ⟨wr.heap.size+1,0,none⟩) data.size (grownCap W1.drew data.size 0 5), .bool free] (by rfl) (by rfl) (World.news_of_block (cs:= #[.int .u64 base, .slice (some ⟨wr.heap.size+1,0,none⟩) data.size (grownCap W1.drew data.size 0 5), .bool free]) (t:=138) (fr:=(0,0)) (H1 _)) (by simp [Value.oneCell']) (by omega) (by unfold maxLen;omega) (by omega) (by simp;omega) (wr.heap.size+3) (by simp [n5]) ?_;intro gg cap2 w1 hown2 hgrow hat hlt2;obtain ⟨z1,z2,z3⟩:=H2.out _ _ w1 hgrow
      refine hK.out _ _ ?_ (fun hHeld=> ?_)
      ·exact z3
      clear hK K
      ((try simp only [Act.put]);(try simp only [List.setIfInBounds_toArray]);(try simp only [List.set_cons_succ]);(try simp only [List.set_cons_zero]))
      refine wpAnyH_take (i:=15) (v:= ?_) rfl (by kernel_rfl) (by kernel_rfl) (by kernel_rfl) (fun _ _ _ h=>h) (Or.inl ⟨by rfl,?_⟩) (by assumption) ?_
      rotate_left
      focus (intro w hSw;(try dsimp only at hSw);go_simp;try with_reducible rfl)
      ((try simp only [Act.put]);(try simp only [List.setIfInBounds_toArray]);(try simp only [List.set_cons_succ]);(try simp only [List.set_cons_zero]))
      refine wpAnyH_take (i:=16) (v:= ?_) rfl (by kernel_rfl) (by kernel_rfl) (by kernel_rfl) (fun _ _ _ h=>h) (Or.inl ⟨by rfl,?_⟩) (by assumption) ?_
      rotate_left
      focus (intro w hSw;(try dsimp only at hSw);go_simp;try with_reducible rfl)
      ((try simp only [Act.put]);(try simp only [List.setIfInBounds_toArray]);(try simp only [List.set_cons_succ]);(try simp only [List.set_cons_zero]))
      refine wpAnyH_ready (rs:= [17]) (by kernel_rfl) (by simp) ?_
      refine AllReadyH.cons rfl (fun K hK=> ?_) AllReadyH.nil
      go_simp
      refine hK.out _ _ ?_ (fun hHeld=> ?_)
      ·exact H3.out w1 _ z3
      clear hK K
      ((try simp only [Act.put]);(try simp only [List.setIfInBounds_toArray]);(try simp only [List.set_cons_succ]);(try simp only [List.set_cons_zero]))
      refine wpAnyH_done (by kernel_rfl) ?_ _
      refine NoPanic.normal ?_
      go_wp2_with fail
      go_roundw
      case rel=>exact ⟨k+1,_,_,by omega,by go_num,HS.out W1 w1 gg cap2 _ _ HWr.out n5 (HG.out _) hown2 hgrow hat hlt2⟩
      case measure=>simp [intOf]<;>omega
     ·go_simp
      refine hK.out _ _ ?_ (fun hHeld=> ?_)
      ·go_keep
      clear hK K
      ((try simp only [Act.put]);(try simp only [List.setIfInBounds_toArray]);(try simp only [List.set_cons_succ]);(try simp only [List.set_cons_zero]))
      refine wpAnyH_ready (rs:= [4]) (by kernel_rfl) (by simp) ?_
      refine AllReadyH.cons rfl (fun K hK=> ?_) AllReadyH.nil
      go_simp
      refine hK.out _ _ ?_ (fun hHeld=> ?_)
      ·go_keep
      clear hK K
      ((try simp only [Act.put]);(try simp only [List.setIfInBounds_toArray]);(try simp only [List.set_cons_succ]);(try simp only [List.set_cons_zero]))
      refine wpAnyH_ready (rs:= [14]) (by kernel_rfl) (by simp) ?_
      refine AllReadyH.cons rfl (fun K hK=> ?_) AllReadyH.nil
      refine step_append_lies _ (by rfl) _ _ _ (by rfl) (w.heap.size+1) 138 i0 _ 3 40 underlying134 hi hz0 hz1 hz2 rfl (by omega) vk k (flat l) (by rfl) (((hown1.alloc _).alloc _).drew.drew) ⟨wr.heap.size+2,0,none⟩ 1 1 [.int .u64 base, .slice (some ⟨wr.heap.size+1,0,none⟩) data.size (grownCap W1.drew data.size 0 5), .bool free] (by rfl) (by rfl) (World.news_of_block (cs:= #[.int .u64 base, .slice (some ⟨wr.heap.size+1,0,none⟩) data.size (grownCap W1.drew data.size 0 5), .bool free]) (t:=138) (fr:=(0,0)) (H1 _)) (by simp [Value.oneCell']) (by omega) (by unfold maxLen;omega) (by omega) (by simp;omega) (wr.heap.size+3) (by simp [n5]) ?_;intro gg cap2 w1 hown2 hgrow hat hlt2;obtain ⟨z1,z2,z3⟩:=H2.out _ _ w1 hgrow
      refine hK.out _ _ ?_ (fun hHeld=> ?_)
      ·exact z3
      clear hK K
      ((try simp only [Act.put]);(try simp only [List.setIfInBounds_toArray]);(try simp only [List.set_cons_succ]);(try simp only [List.set_cons_zero]))
      refine wpAnyH_take (i:=15) (v:= ?_) rfl (by kernel_rfl) (by kernel_rfl) (by kernel_rfl) (fun _ _ _ h=>h) (Or.inl ⟨by rfl,?_⟩) (by assumption) ?_
      rotate_left
      focus (intro w hSw;(try dsimp only at hSw);go_simp;try with_reducible rfl)
      ((try simp only [Act.put]);(try simp only [List.setIfInBounds_toArray]);(try simp only [List.set_cons_succ]);(try simp only [List.set_cons_zero]))
      refine wpAnyH_take (i:=16) (v:= ?_) rfl (by kernel_rfl) (by kernel_rfl) (by kernel_rfl) (fun _ _ _ h=>h) (Or.inl ⟨by rfl,?_⟩) (by assumption) ?_
      rotate_left
      focus (intro w hSw;(try dsimp only at hSw);go_simp;try with_reducible rfl)
      ((try simp only [Act.put]);(try simp only [List.setIfInBounds_toArray]);(try simp only [List.set_cons_succ]);(try simp only [List.set_cons_zero]))
      refine wpAnyH_ready (rs:= [17]) (by kernel_rfl) (by simp) ?_
      refine AllReadyH.cons rfl (fun K hK=> ?_) AllReadyH.nil
      go_simp
      refine hK.out _ _ ?_ (fun hHeld=> ?_)
      ·exact H3.out w1 _ z3
      clear hK K
      ((try simp only [Act.put]);(try simp only [List.setIfInBounds_toArray]);(try simp only [List.set_cons_succ]);(try simp only [List.set_cons_zero]))
      refine wpAnyH_done (by kernel_rfl) ?_ _
      refine NoPanic.normal ?_
      go_wp2_with fail
      go_roundw
      case rel=>exact ⟨k+1,_,_,by omega,by go_num,HS.out W1 w1 gg cap2 _ _ HWr.out n5 (HG.out _) hown2 hgrow hat hlt2⟩
      case measure=>simp [intOf]<;>omega
   ·have hno:=new_bad (List.mem_of_getElem? hr) hg
    have hfr:=HI.out.fr
    by_cases hd:r.data= []
    ·have e0:((⟨r.data.toArray⟩:ByteArray).toList==([]:List UInt8))=true:=by rw [hnil];simpa using hd
     have HNO:=Lib.hid hno
     have HFR:=Lib.hid hfr
     generalize (⟨r.data.toArray⟩:ByteArray)=data at*
     clear hgood hg hnil hsize hrt hr hno hfr e1 hd
     go_wp2_with fail
     go_ret2
     exact ⟨HFR.out.alloc _, .inr ⟨HNO.out,rfl⟩⟩
    ·have e0:((⟨r.data.toArray⟩:ByteArray).toList==([]:List UInt8))=false:=by rw [hnil];simpa using hd
     obtain ⟨V,hV,hVlt⟩:∃V:Int,IntKind.u64.wrap (r.base+((⟨r.data.toArray⟩:ByteArray).size:Int))=V∧V<r.base:=by
      refine ⟨_,rfl,?_⟩
      have hbig:¬r.base+(r.data.length:Int)≤18446744073709551615:=fun hh=>hg ((Reg.good_iff r).2 ⟨hd,hh⟩)
      have h1:=hrt.low
      have h2:=hrt.high
      have h3:=hrt.small
      rw [hsize]
      have:IntKind.u64.wrap (r.base+(r.data.length:Int))=r.base+r.data.length-18446744073709551616:=by
       simp only [IntKind.wrap,IntKind.bits,IntKind.signed,Bool.false_and,Bool.false_eq_true,if_false]
       omega
      omega
     have HNO:=Lib.hid hno
     have HFR:=Lib.hid hfr
     generalize r.base=base at*
     generalize (⟨r.data.toArray⟩:ByteArray)=data at*
     clear hgood hg hnil hsize hrt hr hno hfr hd
     go_wp2_with fail
     go_ret2
     exact ⟨HFR.out.alloc _, .inr ⟨HNO.out,rfl⟩⟩
  ·obtain rfl:k=n:=by omega
   have hinv:=HI.out
   obtain ⟨bl,capb,hvk⟩:∃bl capb,vk= .slice (some ⟨bl,0,none⟩) k capb:=by
    rcases hinv.own.2 with ⟨_,e⟩|⟨g,c,_,e,_⟩
    ·omega
    ·exact ⟨g,c,e⟩
   have hgood:∀r∈rs,r.good=true∧r.typed:=fun r hr=>⟨hinv.good r (by rw [List.take_of_length_le (by rw [HN.out];omega)];exact hr),HT.out r hr⟩
   rw [hvk] at hinv
   have hsort:Hid (Calls prog 58 #[.slice (some ⟨bl,0,none⟩) k capb, .func (.func 59) #[] #[]] wr
     fun e w'=>e= .returned (.tuple #[])∧∃l2,NewSorted w rs bl capb l2 w'):=by
    have hn:=HN.out
    subst hn
    exact new_sort hinv h12
   have hc1:=hinv.cell
   clear hvk hinv
   go_wp2_with (go_at_call 58;refine hsort.out.mono ?_;rintro e w2 ⟨rfl,l2,hs2⟩)
   clear hc1
   have HS2:=Lib.hid hs2
   clear hs2
   go_loopw [7] (fun i w3=>∃j:Nat,j+1≤k∧i= .int .i64 ((j:Int)+1)∧Hid (Fr No w2 w3)∧Hid (∀t (h:t+1<l2.length),t<j→l2[t].r.base+l2[t].r.len≤l2[t+1].r.base)) (fun i _=>k-(intOf i).toNat)
   case atStart=>exact ⟨0,by omega,rfl,Fr.refl _ _,fun t h ht=>absurd ht (Nat.not_lt_zero _)⟩
   case round=>
    rename_i w3
    obtain ⟨j,hj,rfl,hf3,hadj⟩:=hrel
    have c1:=hf3.out.cell HS2.out.cell id
    rw [HN.out] at c1
    by_cases hjk:j+1<k
    ·obtain ⟨b1,b2,len1,g1,cap1,g2,len2,cap2,f1,f2,x0,x1,x2,y0,y1,y2,e1,e2,hiff⟩:=HS2.out.pair hf3.out hgood j (by rw [HN.out];exact hjk)
     have HI2:=Lib.hid hiff
     have q1:=World.block_lt_of_cell? _ _ c1
     have q2:=World.block_lt_of_cell? _ _ x0
     simp only [] at q1 q2
     have hj1:(j:Int)+1<k:=by omega
     clear hiff
     by_cases hov:b2-b1<len1
     ·go_wp2_with fail
      go_quiet (fail)
      go_wp2_with fail
      have hjl:j+1<l2.length:=by rw [HS2.out.len,HN.out];exact hjk
      have hno:=HS2.out.over j hjl (fun hh=>absurd hov (by have:=(HI2.out hjl).1 hh;omega))
      go_ret2
      exact ⟨((HS2.out.fr.trans hf3.out).alloc _).drewN _, .inr ⟨hno,rfl⟩⟩
     ·go_wp2_with fail
      go_quiet (fail)
      go_wp2_with fail
      go_roundw
      case rel=>
       refine ⟨j+1,by omega,by go_num,(hf3.out.alloc _).drewN _,fun t h ht=> ?_⟩
       by_cases e:t=j
       ·subst e;exact (HI2.out h).2 hov
       ·exact hadj.out t h (by omega)
      case measure=>simp [intOf]<;>omega
    ·go_wp2_with fail
     obtain ⟨hwf,hmem⟩:=HS2.out.mem hgood (by rw [HN.out];exact h12) (by rw [HN.out];omega) (fun i h=>hadj.out i h (by have:=HS2.out.len;have:=HN.out;omega)) hf3.out
     go_ret2
     exact ⟨HS2.out.fr.trans hf3.out, .inl ⟨_,_,HS2.out.perm,hwf,rfl,hmem⟩⟩
end Go.Proofs.YtfmcmfiebehhiaaGreatDoor
namespace Go.Proofs.YtfmcmfiebehhiaaGreatDoor
open Go.Proofs.Tryz
open Go.RowKit
def ClonePost(n:Nat)(vs:List Value)(w:World)(size:Nat)(e:Ending)(w':World):Prop:=
 ∃gg cap,e= .returned (.slice (some ⟨gg,0,none⟩) n cap)∧w.heap.size≤gg∧gg<w'.heap.size∧CellsAt w' gg 0 vs∧Open w' gg 0 (n*size)∧n≤cap∧Fr No w w'
theorem clone_post{n size:Nat}{vs:List Value}{t:TypeId}{w w1:World}{v:Value}{g cap:Nat}{o:Obj}(hown:w1.ownsRow w.heap.size t size (.slice (some ⟨g,0,none⟩) n cap) n vs)(hgrow:(w.alloc o).grownBy w1 (some w.heap.size))(hlt:g<w1.heap.size):
  ClonePost n vs w size (.returned (.slice (some ⟨g,0,none⟩) n cap)) w1:=by
 rcases hown.2 with ⟨h,_⟩|⟨g',cap',cur,hv,hb,hg,hnc,_,hsz,hx⟩
 ·cases h
 ·cases hv
  refine ⟨g,cap,rfl,hb,hlt,fun j u hj=> ?_,fun j hj=> ?_,hnc,⟨hgrow.os,hgrow.tape,hgrow.output,by have:=hgrow.size;simp at this;omega,fun b hb _=> ?_⟩⟩
  ·rw [Nat.zero_add,cell_of_row w1 g j cur t _ hg]
   rw [←hx,List.getElem?_take] at hj
   split at hj
   ·simpa using hj
   ·cases hj
  ·rw [Nat.zero_add]
   simp [World.frozen?,hg]
  ·rw [hgrow.block b (by simp;omega) (by simp;omega),Below.heap_alloc _ _ _ hb]
theorem slice_nil_ne_reg(w a n c):(binOp .eql 134 (.slice (some a) n c) (.slice none 0 0)).run prog w= .ok (.bool false) w:=Lib.run_eql_slice_nil w 134 138 (some a) n c 0 0 underlying134
theorem slice_nil_eq_reg(w):(binOp .eql 134 (.slice none 0 0) (.slice none 0 0)).run prog w= .ok (.bool true) w:=Lib.run_eql_slice_nil w 134 138 none 0 0 0 0 underlying134
theorem clone_bytes(g n c)(data:List UInt8)(w:World)(hn:data.length=n)(h1:1≤n)(hm:n≤140737488355328)(hc:CellsAt w g 0 (u8s data)):
  Calls prog 137 #[.slice (some ⟨g,0,none⟩) n c] w (ClonePost n (u8s data) w 1):=by
 have HC:=Lib.hid hc
 have HL:=Lib.hid hn
 clear hc hn
 have kn:=fun w=>slice_nil_ne w ⟨g,0,none⟩ n c
 obtain ⟨i0,hi,hz0,hz1,hz2⟩:=info_parts Tryz.info_u8
 have hown:(w.alloc (.cells #[] 5)).ownsRow w.heap.size 5 1 (.slice (some ⟨w.heap.size,0,none⟩) 0 0) 0 []:=World.ownsRow_made w #[] 0 (Nat.le_refl _) (by unfold maxLen;omega) rfl
 have hnews:∀j u,(u8s data)[j]? =some u→(w.alloc (.cells #[] 5)).cell? ((⟨g,0,none⟩:Addr).add j)=some u:=fun j u hj=>by
  rw [addr_add];exact ((Fr.refl No w).alloc _).cell (HC.out j u hj) id
 have hlen:(u8s data).length=n*1:=by rw [u8s_length,HL.out,Nat.mul_one]
 have hone:=u8s_one data
 generalize u8s data=vs at*
 go_enter func137,ntmps137
 go_wp2_with (at_builtin;refine wpList_append_lies _ rfl _ _ 22 rfl w.heap.size 5 i0 _ 1 1 underlying22 hi hz0 hz1 hz2 rfl (by decide) _ 0 [] rfl hown ⟨g,0,none⟩ n c vs rfl hlen hnews hone (by omega) (by unfold maxLen;omega) (by omega) (by simp) _ rfl ?_;intro gg cap2 w1 hown2 hgrow hat hlt2)
 go_ret
 rw [Nat.zero_add,List.nil_append] at hown2
 have:=clone_post (v:= .slice none 0 0) hown2 hgrow hlt2
 simpa using this
theorem flat_one(l):∀v∈flat l,v.oneCell'=true:=by
 intro v hv
 obtain ⟨x,_,hx⟩:=List.mem_flatMap.1 hv
 simp [HReg.cells] at hx
 rcases hx with rfl|rfl|rfl<;>simp [Value.oneCell']
theorem clone_regs(g n c)(l:List HReg)(w:World)(hn:l.length=n)(h1:1≤n)(hm:n≤1000000)(hc:CellsAt w g 0 (flat l)):
  Calls prog 136 #[.slice (some ⟨g,0,none⟩) n c] w (ClonePost n (flat l) w 3):=by
 have HC:=Lib.hid hc
 have HL:=Lib.hid hn
 clear hc hn
 have kn:=fun w=>slice_nil_ne_reg w ⟨g,0,none⟩ n c
 obtain ⟨i0,hi,hz0,hz1,hz2⟩:=info_parts Tryz.info_reg
 have hown:(w.alloc (.cells #[] 138)).ownsRow w.heap.size 138 3 (.slice (some ⟨w.heap.size,0,none⟩) 0 0) 0 []:=World.ownsRow_made w #[] 0 (Nat.le_refl _) (by unfold maxLen;omega) rfl
 have hnews:∀j u,(flat l)[j]? =some u→(w.alloc (.cells #[] 138)).cell? ((⟨g,0,none⟩:Addr).add j)=some u:=fun j u hj=>by
  rw [addr_add];exact ((Fr.refl No w).alloc _).cell (HC.out j u hj) id
 have hlen:(flat l).length=n*3:=by rw [flat_length,HL.out]
 have hone:=flat_one l
 generalize flat l=vs at*
 go_enter func136,ntmps136
 go_wp2_with (at_builtin;refine wpList_append_lies _ rfl _ _ 134 rfl w.heap.size 138 i0 _ 3 40 underlying134 hi hz0 hz1 hz2 rfl (by decide) _ 0 [] rfl hown ⟨g,0,none⟩ n c vs rfl hlen hnews hone (by omega) (by unfold maxLen;omega) (by omega) (by simp) _ rfl ?_;intro gg cap2 w1 hown2 hgrow hat hlt2)
 go_ret
 rw [Nat.zero_add,List.nil_append] at hown2
 have:=clone_post (v:= .slice none 0 0) hown2 hgrow hlt2
 simpa using this
theorem clone_nil(w):Calls prog 136 #[.slice none 0 0] w fun e w'=>e= .returned (.slice none 0 0)∧w=w':=by
 have kn:=slice_nil_eq_reg
 go_enter func136,ntmps136
 go_wp2_with fail
 go_ret
 exact ⟨rfl,rfl⟩
end Go.Proofs.YtfmcmfiebehhiaaGreatDoor
namespace Go.Proofs.YtfmcmfiebehhiaaGreatDoor
open Go.Proofs.Tryz
open Go.RowKit Go.Shelf Go.Lib Go.Sort
theorem insertion_none(fv w):
  Calls prog 126 #[.slice none 0 0, .int .i64 0, .int .i64 0,fv] w fun e w'=>e= .returned (.tuple #[])∧w=w':=by
 go_enter func126,ntmps126
 go_wp2_with fail
 refine wp_loop_rounds 1 ?_
 rw [rounds_succ]
 go_wp2_with fail
 go_end0
 exact ⟨rfl,rfl⟩
theorem pdq_none(lim fv w):
  Calls prog 92 #[.slice none 0 0, .int .i64 0, .int .i64 0, .int .i64 lim,fv] w fun e w'=>e= .returned (.tuple #[])∧w=w':=by
 go_enter func92,ntmps92
 go_wp2_with fail
 refine wp_loop_rounds 1 ?_
 rw [rounds_succ]
 go_wp2_with (go_at_call 126;refine (insertion_none _ _).mono ?_;rintro e w' ⟨rfl,rfl⟩)
 (try simp only [Exit.inBlock,Exit.then]);refine bodyPost_ret (results_none rfl _ _ _) rfl ?_
 exact ⟨rfl,rfl⟩
theorem sort_none(fv w):
  Calls prog 58 #[.slice none 0 0,fv] w fun e w'=>e= .returned (.tuple #[])∧w=w':=by
 have hl:=hlen_reg 0
 go_enter func58,ntmps58
 go_wp2_with (first|(go_at_call 93;refine (hl _ (by omega)).mono ?_;rintro e w' ⟨⟨lim,rfl⟩,rfl⟩)|(go_at_call 92;refine (pdq_none _ _ _).mono ?_;rintro e w' ⟨rfl,rfl⟩))
 go_end0
 exact ⟨rfl,rfl⟩
theorem new_none_mem(w w1:World)(h:Fr No (w.alloc (.cells #[.bool true, .slice none 0 0] 136)) w1):MemAt w1 w.heap.size [] (Made w w1):=by
 have h0:(w.alloc (.cells #[.bool true, .slice none 0 0] 136)).cell? ⟨w.heap.size,0,none⟩=some (.bool true):=by rw [World.cell?_alloc_new];rfl
 have h1:(w.alloc (.cells #[.bool true, .slice none 0 0] 136)).cell? ⟨w.heap.size,1,none⟩=some (.slice none 0 0):=by rw [World.cell?_alloc_new];rfl
 refine ⟨.slice none 0 0, [],rfl,⟨by simp,by simp,by simp⟩,h.cell h0 id,h.cell h1 id, .inl ⟨rfl,rfl⟩,by simp,by simp,by simp,by simp,by simp [Value.ownBlock],by simp [Value.ownBlock],?_⟩
 have:=h.size
 simp at this
 exact ⟨Nat.le_refl _,by omega⟩
theorem new_empty(a c w):Calls prog 26 #[.slice a 0 c] w (NewPost [] w):=by
 go_enter func26,ntmps26
 go_wp2_with fail
 refine wp_loop_rounds 1 ?_
 rw [rounds_succ]
 go_wp2_with (go_at_call 58;refine (sort_none _ _).mono ?_;rintro e w' ⟨rfl,rfl⟩)
 refine wp_loop_rounds 1 ?_
 rw [rounds_succ]
 go_wp2_with fail
 go_ret2
 exact ⟨(Fr.refl _ _).alloc _, .inl ⟨[],_,List.Perm.refl _,⟨by simp,by simp,by simp⟩,rfl,new_none_mem w _ (Fr.refl _ _)⟩⟩
theorem new_any(rs:List Reg)(v w)(h:RegsAt w v rs)(h12:rs.length≤12):Calls prog 26 #[v] w (NewPost rs w):=by
 obtain ⟨hty,⟨rfl,a,c,rfl⟩|⟨g,off,cap,rfl,hc⟩⟩:=h
 ·exact new_empty a c w
 ·rcases Nat.eq_zero_or_pos rs.length with h0|h0
  ·obtain rfl:rs= []:=List.eq_nil_of_length_eq_zero h0
   exact new_empty _ _ w
  ·exact new_walk g off rs.length cap rs w rfl h0 h12 hc hty
end Go.Proofs.YtfmcmfiebehhiaaGreatDoor

