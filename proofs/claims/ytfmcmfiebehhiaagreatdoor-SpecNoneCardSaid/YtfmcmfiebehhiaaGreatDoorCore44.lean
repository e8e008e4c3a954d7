/- firewallref11.Encode of any instruction. (printed by mke2.py) -/
import Derived.Test.YtfmcmfiebehhiaaGreatDoorCore36
import Derived.Test.YtfmcmfiebehhiaaGreatDoorCore20
set_option linter.all false
set_option linter.unusedVariables false
set_option linter.unusedSimpArgs false
set_option maxRecDepth 100000
set_option maxHeartbeats 40000000
namespace Go.Proofs.YtfmcmfiebehhiaaGreatDoor
open Go.Proofs.Tryz
open Go.RowKit
theorem one8{a:Int}(h:oneM a [0,1,4,5,6,7]=true):∃n:Nat,a=n∧n<8:=by
 unfold oneM at h
 simp at h
 exact ⟨a.toNat,by omega,by omega⟩
theorem one3{a:Int}(h:oneM a [4,5,7]=true):∃n:Nat,a=n∧n<8:=by
 unfold oneM at h
 simp at h
 exact ⟨a.toNat,by omega,by omega⟩
theorem onez{z}(h:oneM z [1,2,4,8]=true):z=1∨z=2∨z=4∨z=8:=by
 unfold oneM at h
 simpa using h
theorem onec{c}(h:oneM c condsL=true):0≤c∧c<16:=by
 unfold oneM condsL at h
 simp at h
 omega
theorem split4{a b c d}(h:(a&&(b&&(c&&d)))=true):a=true∧b=true∧c=true∧d=true:=by simpa using h
theorem rencode_none(x:XI)(w)(hv:validM x=false):Calls prog 20 #[x.agg] w fun e w'=>e= .returned (encV x)∧Fr No w w':=by
 have HV:Hid (∀W,Calls prog 45 #[x.agg] W fun e w'=>e= .returned (.bool false)∧Fr No W w'):=fun W=>by have h:=rvalid_any x W;rw [hv] at h;exact h
 rw [enc_not hv]
 clear hv
 obtain ⟨k,a,c,z,wd,sh,d,r,dp,rl,im⟩:=x
 simp only [XI.agg] at*
 go_enter func20,ntmps20
 go_wp2_with (go_at_call 45;(with_reducible refine (HV.out _).mono ?_);rintro e w9 ⟨rfl,hf9⟩)
 go_ret2
 exact ⟨rfl,(fr_alloc _ _).trans hf9⟩
theorem or4{z:Int}{G:Prop}(h:z=1∨z=2∨z=4∨z=8)(h1:z=1→G)(h2:z=2→G)(h4:z=4→G)(h8:z=8→G):G:=by
 rcases h with h|h|h|h
 ·exact h1 h
 ·exact h2 h
 ·exact h4 h
 ·exact h8 h
theorem rencode_ok(k a c z:Int)(wd sh:Bool)(d s:Nat)(dp rl im:Int)(w:World)(hd:d<16)(hs:s<16)(hv:validM ⟨k,a,c,z,wd,sh,d,s,dp,rl,im⟩=true):Calls prog 20 #[(XI.mk k a c z wd sh d s dp rl im).agg] w fun e w'=>e= .returned (encV ⟨k,a,c,z,wd,sh,d,s,dp,rl,im⟩)∧Fr No w w':=by
 have HV:Hid (∀W,Calls prog 45 #[(XI.mk k a c z wd sh d s dp rl im).agg] W fun e w'=>e= .returned (.bool true)∧Fr No W w'):=fun W=>by have h:=rvalid_any ⟨k,a,c,z,wd,sh,d,s,dp,rl,im⟩ W;rw [hv] at h;exact h
 have HE:Hid (∀t,Fr No w (w.alloc (.cells (XI.mk k a c z wd sh d s dp rl im).cells.toArray t))∧XB (w.alloc (.cells (XI.mk k a c z wd sh d s dp rl im).cells.toArray t)) w.heap.size ⟨k,a,c,z,wd,sh,d,s,dp,rl,im⟩):=fun t=>⟨fr_alloc _ _,XB.new w _ t⟩
 obtain ⟨E0,hE1,lE0,HR0⟩:=rex_pk wd 0 d false (by decide) hd
 have hE0:=Lib.hid hE1
 clear hE1
 have HR0:Hid (∀W,Calls prog 46 #[.bool wd, .int .i64 0, .int .i64 d, .bool false] W fun e w'=>e= .returned (.string (bA' E0))∧Fr No W w'):=Lib.hid HR0
 simp only [XI.agg] at*
 go_enter func20,ntmps20
 go_upto_region 1 with fail
 refine wp_world (fun W1=>Hid (Fr No w W1∧XB W1 w.heap.size ⟨k,a,c,z,wd,sh,d,s,dp,rl,im⟩)) (by exact Lib.hid (HE.out _)) ?_
 intro W1 HL
 clear HE
 obtain ⟨c0,c1,c2,c3,c4,c5,c6,c7,c8,c9,c10⟩:=XI.at HL.out.2.cells
 go_upto_region 5 with (first
  |(go_at_call 45;(with_reducible refine (HV.out _).mono ?_);rintro e w9 ⟨rfl,hf9⟩;replace HL:=Lib.hid (And.intro (HL.out.1.trans hf9) (HL.out.2.fr hf9 id));clear c0 c1 c2 c3 c4 c5 c6 c7 c8 c9 c10;obtain ⟨c0,c1,c2,c3,c4,c5,c6,c7,c8,c9,c10⟩:=XI.at HL.out.2.cells;clear hf9)
  |(go_at_call 46;(with_reducible refine (HR0.out _).mono ?_);rintro e w9 ⟨rfl,hf9⟩;replace HL:=Lib.hid (And.intro (HL.out.1.trans hf9) (HL.out.2.fr hf9 id));clear c0 c1 c2 c3 c4 c5 c6 c7 c8 c9 c10;obtain ⟨c0,c1,c2,c3,c4,c5,c6,c7,c8,c9,c10⟩:=XI.at HL.out.2.cells;clear hf9))
 clear HV HR0
 have hk:1≤k∧k<22:=by
  obtain ⟨n,h1,h2,h3,_⟩:=valid_may hv
  simp only at h3
  omega
 have ve:=enc_is (x:=⟨k,a,c,z,wd,sh,d,s,dp,rl,im⟩) hv
 clear ve
 refine or21 (k:=k) hk ?k1 ?k2 ?k3 ?k4 ?k5 ?k6 ?k7 ?k8 ?k9 ?k10 ?k11 ?k12 ?k13 ?k14 ?k15 ?k16 ?k17 ?k18 ?k19 ?k20 ?k21
 case' k1=>
  rintro rfl
  have hv2:=hv
  rw [valid_1] at hv2
  obtain ⟨hok,hx, -, -⟩:=split4 hv2
  have hx:=of_decide_eq_true hx
  simp only [XI.mk.injEq,true_and,and_true] at hx
  obtain ⟨rfl,rfl,rfl,rfl,rfl,rfl,rfl⟩:=hx
  clear hv2 hok hk
  obtain ⟨P0,h0,l0,H0⟩:=rex_pk wd s d false hs hd
  obtain ⟨P2,h2,l2,H2⟩:=pair_pk s d hs hd
  obtain ⟨S1,hS1,lS1,a1⟩:=sum_pk P0 [byteM 137] l0 (Nat.le_of_ble_eq_true rfl:([byteM 137]:List UInt8).length≤10)
  obtain ⟨S2,hS2,lS2,a2⟩:=sum_pk S1 P2 lS1 l2
  have HT:Hid (encodeM ⟨1,0,0,0,wd,false,(d:Int),(s:Int),0,0,0⟩=some S2):=Lib.hid ((renc_1 d s wd hv).trans (by rw [hS2,hS1,h0,h2]))
  have H0:=Lib.hid H0
  have H2:=Lib.hid H2
  clear hE0 lE0 hS2 hS1 h0 h2 l0 l2 lS1 lS2
  go_upto_region 7 with fail
  refine wp_then_of ?_
  intro KK hKK
  go_cut [2,3] from 24 to 39 (fun s2 s3 wx=>s2= .string (bA' S2)∧s3= .int .i64 0∧Hid (Fr No w wx))
  case first=>
   rename_i J K' hJ hK
   refine wp_calm [(1,ptr (w.heap.size) 0)] [some (ptr (w.heap.size) 4),some (.bool wd),some (ptr (w.heap.size) 7),some (.int .i64 (s:Int)),some (ptr (w.heap.size) 6),some (.int .i64 (d:Int)),some (.string (bA' P0)),none,some (.string (bA' [byteM 137])),some (.string (bA' S1)),some (ptr (w.heap.size) 7),some (.int .i64 (s:Int)),some (ptr (w.heap.size) 6),some (.int .i64 (d:Int)),some (.string (bA' P2)),some (.string (bA' S2)),some (.string (bA' S2)),some (.int .i64 0)] [(7, [137])] (by kernel_rfl) (by kernel_rfl) (by kernel_rfl) (by kernel_rfl) ⟨rfl,trivial⟩
    ⟨qR,qL 4 HL.out.2.cells,qR,qL 7 HL.out.2.cells,qR,qL 6 HL.out.2.cells,qC H0.out,qS 3,qB (hL:=rfl) (fun b W h=>rb_any _ b 0 _ _ W h rfl (Nat.le_of_ble_eq_true rfl)),qA a1,qR,qL 7 HL.out.2.cells,qR,qL 6 HL.out.2.cells,qC H2.out,qA a2,qR,qR,trivial⟩ fun V W' hV0 hV=>
    hK _ _ (Met.intro (hJ _ _ ⟨V 16,V 17,V 0,V 1,V 2,V 3,V 4,V 5,V 6,V 7,V 8,V 9,V 10,V 11,V 12,V 13,V 14,V 15,⟨hV0 16 _ (by decide) rfl,hV0 17 _ (by decide) rfl,Lib.hid (HL.out.1.trans hV)⟩,by kernel_rfl⟩))
  case' rest=>
  obtain ⟨rfl,rfl,HF⟩:=hcut
  rw [hKK]
  clear hKK
  dsimp only
 case' k2=>
  rintro rfl
  have hv2:=hv
  rw [valid_2] at hv2
  obtain ⟨hok,hx, -, -⟩:=split4 hv2
  have hx:=of_decide_eq_true hx
  simp only [XI.mk.injEq,true_and,and_true] at hx
  obtain ⟨rfl,rfl,rfl,rfl,rfl,es,rfl,rfl⟩:=hx
  obtain rfl:s=0:=by omega
  clear es
  clear hv2 hok hk
  obtain ⟨P2,h2,l2,H2⟩:=pair_pk 0 d (by decide) hd
  obtain ⟨P3,h3,l3,H3⟩:=bytes_pk im 4 (by decide)
  obtain ⟨S1,hS1,lS1,a1⟩:=sum_pk E0 [byteM 199] lE0 (Nat.le_of_ble_eq_true rfl:([byteM 199]:List UInt8).length≤10)
  obtain ⟨S2,hS2,lS2,a2⟩:=sum_pk S1 P2 lS1 l2
  obtain ⟨S3,hS3,lS3,a3⟩:=sum_pk S2 P3 lS2 l3
  have HT:Hid (encodeM ⟨2,0,0,0,true,false,(d:Int),((0:Nat):Int),0,0,im⟩=some S3):=Lib.hid ((renc_2 d im hv).trans (by rw [hS3,hS2,hS1,hE0.out,h2,h3]))
  have H2:=Lib.hid H2
  have H3:=Lib.hid H3
  clear hE0 lE0 hS3 hS2 hS1 h2 h3 l2 l3 lS1 lS2 lS3
  go_upto_region 17 with fail
  refine wp_then_of ?_
  intro KK hKK
  go_cut [2,3] from 115 to 125 (fun s2 s3 wx=>s2= .string (bA' S3)∧s3= .int .i64 0∧Hid (Fr No w wx))
  case first=>
   rename_i J K' hJ hK
   refine wp_calm [(1,ptr (w.heap.size) 0),(5, .string (bA' E0)),(4, .int .u64 (IntKind.u64.wrap im))] [some (.string (bA' E0)),none,some (.string (bA' [byteM 199])),some (.string (bA' S1)),some (ptr (w.heap.size) 6),some (.int .i64 (d:Int)),some (.string (bA' P2)),some (.string (bA' S2)),some (.int .u64 (IntKind.u64.wrap im)),some (.string (bA' P3)),some (.string (bA' S3)),some (.string (bA' S3)),some (.int .i64 0)] [(1, [199])] (by kernel_rfl) (by kernel_rfl) (by kernel_rfl) (by kernel_rfl) ⟨rfl,rfl,rfl,trivial⟩
    ⟨qR,qS 3,qB (hL:=rfl) (fun b W h=>rb_any _ b 0 _ _ W h rfl (Nat.le_of_ble_eq_true rfl)),qA a1,qR,qL 6 HL.out.2.cells,qC H2.out,qA a2,qR,qC H3.out,qA a3,qR,qR,trivial⟩ fun V W' hV0 hV=>
    hK _ _ (Met.intro (hJ _ _ ⟨V 11,V 12,V 0,V 1,V 2,V 3,V 4,V 5,V 6,V 7,V 8,V 9,V 10,⟨hV0 11 _ (by decide) rfl,hV0 12 _ (by decide) rfl,Lib.hid (HL.out.1.trans hV)⟩,by kernel_rfl⟩))
  case' rest=>
  obtain ⟨rfl,rfl,HF⟩:=hcut
  rw [hKK]
  clear hKK
  dsimp only
 case' k3=>
  rintro rfl
  have hv2:=hv
  rw [valid_3] at hv2
  obtain ⟨hok,hx, -, -⟩:=split4 hv2
  have hx:=of_decide_eq_true hx
  simp only [XI.mk.injEq,true_and,and_true] at hx
  obtain ⟨rfl,rfl,rfl,rfl,rfl,es,rfl,rfl⟩:=hx
  obtain rfl:s=0:=by omega
  clear es
  clear hv2 hok hk
  obtain ⟨P2,h2,l2,H2⟩:=bytes_pk im 8 (by decide)
  obtain ⟨S1,hS1,lS1,a1⟩:=sum_pk E0 [byteM (184+(d:Int)%8)] lE0 (Nat.le_of_ble_eq_true rfl:([byteM (184+(d:Int)%8)]:List UInt8).length≤10)
  obtain ⟨S2,hS2,lS2,a2⟩:=sum_pk S1 P2 lS1 l2
  have HT:Hid (encodeM ⟨3,0,0,0,true,false,(d:Int),((0:Nat):Int),0,0,im⟩=some S2):=Lib.hid ((renc_3 d im hv).trans (by rw [hS2,hS1,hE0.out,h2]))
  have q1:(d:Int).tmod 8=(d:Int)%8:=Int.tmod_eq_emod_of_nonneg (by omega)
  have q2:RowKit.wrap64 (184+(d:Int)%8)=184+(d:Int)%8:=IntWalk.wrap64_in _ (by omega)
  have HB1:∀(W:World),Calls prog 47 #[.slice (some ⟨W.heap.size,0,none⟩) 1 1] (W.alloc (.cells #[.int .i64 (184+(d:Int)%8)] 3)) fun e w'=>e= .returned (.string (bA' [byteM (184+(d:Int)%8)]))∧Fr No W w':=fun W=>rb1 _ W
  have HB1:=Lib.hid HB1
  have H2:∀W,Calls prog 49 #[.int .u64 (IntKind.u64.wrap im), .int .i64 8] W fun e w'=>e= .returned (.string (bA' P2))∧Fr No W w':=H2
  have H2:=Lib.hid H2
  clear hE0 lE0 hS2 hS1 h2 l2 lS1 lS2
  go_wp2_with (first
   |(go_at_call 47;(with_reducible refine (HB1.out _).mono ?_);rintro e w9 ⟨rfl,hf9⟩;replace HL:=Lib.hid (And.intro (HL.out.1.trans hf9) (HL.out.2.fr hf9 id));clear c0 c1 c2 c3 c4 c5 c6 c7 c8 c9 c10;obtain ⟨c0,c1,c2,c3,c4,c5,c6,c7,c8,c9,c10⟩:=XI.at HL.out.2.cells;clear hf9)
   |(go_at_call 49;(with_reducible refine (H2.out _).mono ?_);rintro e w9 ⟨rfl,hf9⟩;replace HL:=Lib.hid (And.intro (HL.out.1.trans hf9) (HL.out.2.fr hf9 id));clear c0 c1 c2 c3 c4 c5 c6 c7 c8 c9 c10;obtain ⟨c0,c1,c2,c3,c4,c5,c6,c7,c8,c9,c10⟩:=XI.at HL.out.2.cells;clear hf9)
   |fail)
  go_ret2
  exact ⟨by unfold encV;rw [HT.out];rfl,HL.out.1⟩
 case' k4=>
  rintro rfl
  have hv2:=hv
  rw [valid_4] at hv2
  obtain ⟨hok,hx, -, -⟩:=split4 hv2
  have hx:=of_decide_eq_true hx
  simp only [XI.mk.injEq,true_and,and_true] at hx
  obtain ⟨rfl,rfl,rfl,rfl,rfl,rfl⟩:=hx
  obtain ⟨a,rfl,ha⟩:=one8 hok
  clear hv2 hok hk
  obtain ⟨P0,h0,l0,H0⟩:=rex_pk wd s d false hs hd
  obtain ⟨P2,h2,l2,H2⟩:=pair_pk s d hs hd
  obtain ⟨S1,hS1,lS1,a1⟩:=sum_pk P0 [byteM (8*(a:Int)+1)] l0 (Nat.le_of_ble_eq_true rfl:([byteM (8*(a:Int)+1)]:List UInt8).length≤10)
  obtain ⟨S2,hS2,lS2,a2⟩:=sum_pk S1 P2 lS1 l2
  have HT:Hid (encodeM ⟨4,(a:Int),0,0,wd,false,(d:Int),(s:Int),0,0,0⟩=some S2):=Lib.hid ((renc_4 a d s wd hv).trans (by rw [hS2,hS1,h0,h2]))
  have q1:IntKind.i64.wrap (8*(a:Int))=8*(a:Int):=IntWalk.i64_in _ (by omega)
  have q2:IntKind.i64.wrap (8*(a:Int)+1)=8*(a:Int)+1:=IntWalk.i64_in _ (by omega)
  have H0:=Lib.hid H0
  have H2:=Lib.hid H2
  clear hE0 lE0 hS2 hS1 h0 h2 l0 l2 lS1 lS2
  go_upto_region 13 with fail
  refine wp_then_of ?_
  intro KK hKK
  go_cut [2,3] from 78 to 97 (fun s2 s3 wx=>s2= .string (bA' S2)∧s3= .int .i64 0∧Hid (Fr No w wx))
  case first=>
   rename_i J K' hJ hK
   refine wp_calm [(1,ptr (w.heap.size) 0)] [some (ptr (w.heap.size) 4),some (.bool wd),some (ptr (w.heap.size) 7),some (.int .i64 (s:Int)),some (ptr (w.heap.size) 6),some (.int .i64 (d:Int)),some (.string (bA' P0)),some (ptr (w.heap.size) 1),some (.int .i64 (a:Int)),some (.int .i64 (8*(a:Int))),some (.int .i64 (8*(a:Int)+1)),none,some (.string (bA' [byteM (8*(a:Int)+1)])),some (.string (bA' S1)),some (ptr (w.heap.size) 7),some (.int .i64 (s:Int)),some (ptr (w.heap.size) 6),some (.int .i64 (d:Int)),some (.string (bA' P2)),some (.string (bA' S2)),some (.string (bA' S2)),some (.int .i64 0)] [(11, [(8*(a:Int)+1)])] (by kernel_rfl) (by kernel_rfl) (by kernel_rfl) (by kernel_rfl) ⟨rfl,trivial⟩
    ⟨qR,qL 4 HL.out.2.cells,qR,qL 7 HL.out.2.cells,qR,qL 6 HL.out.2.cells,qC H0.out,qR,qL 1 HL.out.2.cells,qI (.int .i64 8) (.int .i64 a) (c:= .int .i64 (8*(a:Int))) (fun _=>by simp [go_sem,q1]),qI (.int .i64 (8*(a:Int))) (.int .i64 1) (c:= .int .i64 (8*(a:Int)+1)) (fun _=>by simp [go_sem,q2]),qS 3,qB (hL:=rfl) (fun b W h=>rb_any _ b 0 _ _ W h rfl (Nat.le_of_ble_eq_true rfl)),qA a1,qR,qL 7 HL.out.2.cells,qR,qL 6 HL.out.2.cells,qC H2.out,qA a2,qR,qR,trivial⟩ fun V W' hV0 hV=>
    hK _ _ (Met.intro (hJ _ _ ⟨V 20,V 21,V 0,V 1,V 2,V 3,V 4,V 5,V 6,V 7,V 8,V 9,V 10,V 11,V 12,V 13,V 14,V 15,V 16,V 17,V 18,V 19,⟨hV0 20 _ (by decide) rfl,hV0 21 _ (by decide) rfl,Lib.hid (HL.out.1.trans hV)⟩,by kernel_rfl⟩))
  case' rest=>
  obtain ⟨rfl,rfl,HF⟩:=hcut
  rw [hKK]
  clear hKK
  dsimp only
 case' k5=>
  rintro rfl
  have hv2:=hv
  rw [valid_5] at hv2
  obtain ⟨hok,hx, -, -⟩:=split4 hv2
  have hx:=of_decide_eq_true hx
  simp only [XI.mk.injEq,true_and,and_true] at hx
  obtain ⟨rfl,rfl,rfl,es,rfl,rfl⟩:=hx
  obtain rfl:s=0:=by omega
  clear es
  obtain ⟨a,rfl,ha⟩:=one8 (by simp only [Bool.and_eq_true] at hok;exact hok.1)
  clear hv2 hok hk
  obtain ⟨P2,h2,l2,H2⟩:=pair_pk a d (by omega) hd
  obtain ⟨P3,h3,l3,H3⟩:=bytes_pk im 4 (by decide)
  obtain ⟨S1,hS1,lS1,a1⟩:=sum_pk E0 [byteM 129] lE0 (Nat.le_of_ble_eq_true rfl:([byteM 129]:List UInt8).length≤10)
  obtain ⟨S2,hS2,lS2,a2⟩:=sum_pk S1 P2 lS1 l2
  obtain ⟨S3,hS3,lS3,a3⟩:=sum_pk S2 P3 lS2 l3
  have HT:Hid (encodeM ⟨5,(a:Int),0,0,wd,false,(d:Int),((0:Nat):Int),0,0,im⟩=some S3):=Lib.hid ((renc_5 a d im wd hv).trans (by rw [hS3,hS2,hS1,hE0.out,h2,h3]))
  have H2:=Lib.hid H2
  have H3:=Lib.hid H3
  clear hE0 lE0 hS3 hS2 hS1 h2 h3 l2 l3 lS1 lS2 lS3
  go_upto_region 15 with fail
  refine wp_then_of ?_
  intro KK hKK
  go_cut [2,3] from 100 to 112 (fun s2 s3 wx=>s2= .string (bA' S3)∧s3= .int .i64 0∧Hid (Fr No w wx))
  case first=>
   rename_i J K' hJ hK
   refine wp_calm [(1,ptr (w.heap.size) 0),(5, .string (bA' E0)),(4, .int .u64 (IntKind.u64.wrap im))] [some (.string (bA' E0)),none,some (.string (bA' [byteM 129])),some (.string (bA' S1)),some (ptr (w.heap.size) 1),some (.int .i64 (a:Int)),some (ptr (w.heap.size) 6),some (.int .i64 (d:Int)),some (.string (bA' P2)),some (.string (bA' S2)),some (.int .u64 (IntKind.u64.wrap im)),some (.string (bA' P3)),some (.string (bA' S3)),some (.string (bA' S3)),some (.int .i64 0)] [(1, [129])] (by kernel_rfl) (by kernel_rfl) (by kernel_rfl) (by kernel_rfl) ⟨rfl,rfl,rfl,trivial⟩
    ⟨qR,qS 3,qB (hL:=rfl) (fun b W h=>rb_any _ b 0 _ _ W h rfl (Nat.le_of_ble_eq_true rfl)),qA a1,qR,qL 1 HL.out.2.cells,qR,qL 6 HL.out.2.cells,qC H2.out,qA a2,qR,qC H3.out,qA a3,qR,qR,trivial⟩ fun V W' hV0 hV=>
    hK _ _ (Met.intro (hJ _ _ ⟨V 13,V 14,V 0,V 1,V 2,V 3,V 4,V 5,V 6,V 7,V 8,V 9,V 10,V 11,V 12,⟨hV0 13 _ (by decide) rfl,hV0 14 _ (by decide) rfl,Lib.hid (HL.out.1.trans hV)⟩,by kernel_rfl⟩))
  case' rest=>
  obtain ⟨rfl,rfl,HF⟩:=hcut
  rw [hKK]
  clear hKK
  dsimp only
 case' k6=>
  rintro rfl
  have hv2:=hv
  rw [valid_6] at hv2
  obtain ⟨hok,hx, -, -⟩:=split4 hv2
  have hx:=of_decide_eq_true hx
  simp only [XI.mk.injEq,true_and,and_true] at hx
  obtain ⟨rfl,rfl,rfl,rfl,rfl,rfl,rfl⟩:=hx
  clear hv2 hok hk
  obtain ⟨P0,h0,l0,H0⟩:=rex_pk wd s d false hs hd
  obtain ⟨P2,h2,l2,H2⟩:=pair_pk s d hs hd
  obtain ⟨S1,hS1,lS1,a1⟩:=sum_pk P0 [byteM 133] l0 (Nat.le_of_ble_eq_true rfl:([byteM 133]:List UInt8).length≤10)
  obtain ⟨S2,hS2,lS2,a2⟩:=sum_pk S1 P2 lS1 l2
  have HT:Hid (encodeM ⟨6,0,0,0,wd,false,(d:Int),(s:Int),0,0,0⟩=some S2):=Lib.hid ((renc_6 d s wd hv).trans (by rw [hS2,hS1,h0,h2]))
  have H0:=Lib.hid H0
  have H2:=Lib.hid H2
  clear hE0 lE0 hS2 hS1 h0 h2 l0 l2 lS1 lS2
  go_upto_region 9 with fail
  refine wp_then_of ?_
  intro KK hKK
  go_cut [2,3] from 42 to 57 (fun s2 s3 wx=>s2= .string (bA' S2)∧s3= .int .i64 0∧Hid (Fr No w wx))
  case first=>
   rename_i J K' hJ hK
   refine wp_calm [(1,ptr (w.heap.size) 0)] [some (ptr (w.heap.size) 4),some (.bool wd),some (ptr (w.heap.size) 7),some (.int .i64 (s:Int)),some (ptr (w.heap.size) 6),some (.int .i64 (d:Int)),some (.string (bA' P0)),none,some (.string (bA' [byteM 133])),some (.string (bA' S1)),some (ptr (w.heap.size) 7),some (.int .i64 (s:Int)),some (ptr (w.heap.size) 6),some (.int .i64 (d:Int)),some (.string (bA' P2)),some (.string (bA' S2)),some (.string (bA' S2)),some (.int .i64 0)] [(7, [133])] (by kernel_rfl) (by kernel_rfl) (by kernel_rfl) (by kernel_rfl) ⟨rfl,trivial⟩
    ⟨qR,qL 4 HL.out.2.cells,qR,qL 7 HL.out.2.cells,qR,qL 6 HL.out.2.cells,qC H0.out,qS 3,qB (hL:=rfl) (fun b W h=>rb_any _ b 0 _ _ W h rfl (Nat.le_of_ble_eq_true rfl)),qA a1,qR,qL 7 HL.out.2.cells,qR,qL 6 HL.out.2.cells,qC H2.out,qA a2,qR,qR,trivial⟩ fun V W' hV0 hV=>
    hK _ _ (Met.intro (hJ _ _ ⟨V 16,V 17,V 0,V 1,V 2,V 3,V 4,V 5,V 6,V 7,V 8,V 9,V 10,V 11,V 12,V 13,V 14,V 15,⟨hV0 16 _ (by decide) rfl,hV0 17 _ (by decide) rfl,Lib.hid (HL.out.1.trans hV)⟩,by kernel_rfl⟩))
  case' rest=>
  obtain ⟨rfl,rfl,HF⟩:=hcut
  rw [hKK]
  clear hKK
  dsimp only
 case' k7=>
  rintro rfl
  have hv2:=hv
  rw [valid_7] at hv2
  obtain ⟨hok,hx, -, -⟩:=split4 hv2
  have hx:=of_decide_eq_true hx
  simp only [XI.mk.injEq,true_and,and_true] at hx
  obtain ⟨rfl,rfl,rfl,rfl,es,rfl,rfl,rfl⟩:=hx
  obtain rfl:s=0:=by omega
  clear es
  clear hv2 hok hk
  obtain ⟨P2,h2,l2,H2⟩:=pair_pk 3 d (by decide) hd
  obtain ⟨S1,hS1,lS1,a1⟩:=sum_pk E0 [byteM 247] lE0 (Nat.le_of_ble_eq_true rfl:([byteM 247]:List UInt8).length≤10)
  obtain ⟨S2,hS2,lS2,a2⟩:=sum_pk S1 P2 lS1 l2
  have HT:Hid (encodeM ⟨7,0,0,0,wd,false,(d:Int),((0:Nat):Int),0,0,0⟩=some S2):=Lib.hid ((renc_7 d wd hv).trans (by rw [hS2,hS1,hE0.out,h2]))
  have H2:=Lib.hid H2
  clear hE0 lE0 hS2 hS1 h2 l2 lS1 lS2
  go_upto_region 21 with fail
  refine wp_then_of ?_
  intro KK hKK
  go_cut [2,3] from 141 to 148 (fun s2 s3 wx=>s2= .string (bA' S2)∧s3= .int .i64 0∧Hid (Fr No w wx))
  case first=>
   rename_i J K' hJ hK
   refine wp_calm [(1,ptr (w.heap.size) 0),(5, .string (bA' E0))] [some (.string (bA' E0)),none,some (.string (bA' [byteM 247])),some (.string (bA' S1)),some (ptr (w.heap.size) 6),some (.int .i64 (d:Int)),some (.string (bA' P2)),some (.string (bA' S2)),some (.string (bA' S2)),some (.int .i64 0)] [(1, [247])] (by kernel_rfl) (by kernel_rfl) (by kernel_rfl) (by kernel_rfl) ⟨rfl,rfl,trivial⟩
    ⟨qR,qS 3,qB (hL:=rfl) (fun b W h=>rb_any _ b 0 _ _ W h rfl (Nat.le_of_ble_eq_true rfl)),qA a1,qR,qL 6 HL.out.2.cells,qC H2.out,qA a2,qR,qR,trivial⟩ fun V W' hV0 hV=>
    hK _ _ (Met.intro (hJ _ _ ⟨V 8,V 9,V 0,V 1,V 2,V 3,V 4,V 5,V 6,V 7,⟨hV0 8 _ (by decide) rfl,hV0 9 _ (by decide) rfl,Lib.hid (HL.out.1.trans hV)⟩,by kernel_rfl⟩))
  case' rest=>
  obtain ⟨rfl,rfl,HF⟩:=hcut
  rw [hKK]
  clear hKK
  dsimp only
 case' k8=>
  rintro rfl
  have hv2:=hv
  rw [valid_8] at hv2
  obtain ⟨hok,hx, -, -⟩:=split4 hv2
  have hx:=of_decide_eq_true hx
  simp only [XI.mk.injEq,true_and,and_true] at hx
  obtain ⟨rfl,rfl,rfl,rfl,es,rfl,rfl,rfl⟩:=hx
  obtain rfl:s=0:=by omega
  clear es
  clear hv2 hok hk
  obtain ⟨P2,h2,l2,H2⟩:=pair_pk 4 d (by decide) hd
  obtain ⟨S1,hS1,lS1,a1⟩:=sum_pk E0 [byteM 247] lE0 (Nat.le_of_ble_eq_true rfl:([byteM 247]:List UInt8).length≤10)
  obtain ⟨S2,hS2,lS2,a2⟩:=sum_pk S1 P2 lS1 l2
  have HT:Hid (encodeM ⟨8,0,0,0,wd,false,(d:Int),((0:Nat):Int),0,0,0⟩=some S2):=Lib.hid ((renc_8 d wd hv).trans (by rw [hS2,hS1,hE0.out,h2]))
  have H2:=Lib.hid H2
  clear hE0 lE0 hS2 hS1 h2 l2 lS1 lS2
  go_upto_region 23 with fail
  refine wp_then_of ?_
  intro KK hKK
  go_cut [2,3] from 151 to 158 (fun s2 s3 wx=>s2= .string (bA' S2)∧s3= .int .i64 0∧Hid (Fr No w wx))
  case first=>
   rename_i J K' hJ hK
   refine wp_calm [(1,ptr (w.heap.size) 0),(5, .string (bA' E0))] [some (.string (bA' E0)),none,some (.string (bA' [byteM 247])),some (.string (bA' S1)),some (ptr (w.heap.size) 6),some (.int .i64 (d:Int)),some (.string (bA' P2)),some (.string (bA' S2)),some (.string (bA' S2)),some (.int .i64 0)] [(1, [247])] (by kernel_rfl) (by kernel_rfl) (by kernel_rfl) (by kernel_rfl) ⟨rfl,rfl,trivial⟩
    ⟨qR,qS 3,qB (hL:=rfl) (fun b W h=>rb_any _ b 0 _ _ W h rfl (Nat.le_of_ble_eq_true rfl)),qA a1,qR,qL 6 HL.out.2.cells,qC H2.out,qA a2,qR,qR,trivial⟩ fun V W' hV0 hV=>
    hK _ _ (Met.intro (hJ _ _ ⟨V 8,V 9,V 0,V 1,V 2,V 3,V 4,V 5,V 6,V 7,⟨hV0 8 _ (by decide) rfl,hV0 9 _ (by decide) rfl,Lib.hid (HL.out.1.trans hV)⟩,by kernel_rfl⟩))
  case' rest=>
  obtain ⟨rfl,rfl,HF⟩:=hcut
  rw [hKK]
  clear hKK
  dsimp only
 case' k9=>
  rintro rfl
  have hv2:=hv
  rw [valid_9] at hv2
  obtain ⟨hok,hx, -, -⟩:=split4 hv2
  have hx:=of_decide_eq_true hx
  simp only [XI.mk.injEq,true_and,and_true] at hx
  obtain ⟨rfl,rfl,rfl,rfl,es,rfl,rfl,rfl⟩:=hx
  obtain rfl:s=0:=by omega
  clear es
  clear hv2 hok hk
  obtain ⟨P2,h2,l2,H2⟩:=pair_pk 6 d (by decide) hd
  obtain ⟨S1,hS1,lS1,a1⟩:=sum_pk E0 [byteM 247] lE0 (Nat.le_of_ble_eq_true rfl:([byteM 247]:List UInt8).length≤10)
  obtain ⟨S2,hS2,lS2,a2⟩:=sum_pk S1 P2 lS1 l2
  have HT:Hid (encodeM ⟨9,0,0,0,wd,false,(d:Int),((0:Nat):Int),0,0,0⟩=some S2):=Lib.hid ((renc_9 d wd hv).trans (by rw [hS2,hS1,hE0.out,h2]))
  have H2:=Lib.hid H2
  clear hE0 lE0 hS2 hS1 h2 l2 lS1 lS2
  go_upto_region 25 with fail
  refine wp_then_of ?_
  intro KK hKK
  go_cut [2,3] from 161 to 168 (fun s2 s3 wx=>s2= .string (bA' S2)∧s3= .int .i64 0∧Hid (Fr No w wx))
  case first=>
   rename_i J K' hJ hK
   refine wp_calm [(1,ptr (w.heap.size) 0),(5, .string (bA' E0))] [some (.string (bA' E0)),none,some (.string (bA' [byteM 247])),some (.string (bA' S1)),some (ptr (w.heap.size) 6),some (.int .i64 (d:Int)),some (.string (bA' P2)),some (.string (bA' S2)),some (.string (bA' S2)),some (.int .i64 0)] [(1, [247])] (by kernel_rfl) (by kernel_rfl) (by kernel_rfl) (by kernel_rfl) ⟨rfl,rfl,trivial⟩
    ⟨qR,qS 3,qB (hL:=rfl) (fun b W h=>rb_any _ b 0 _ _ W h rfl (Nat.le_of_ble_eq_true rfl)),qA a1,qR,qL 6 HL.out.2.cells,qC H2.out,qA a2,qR,qR,trivial⟩ fun V W' hV0 hV=>
    hK _ _ (Met.intro (hJ _ _ ⟨V 8,V 9,V 0,V 1,V 2,V 3,V 4,V 5,V 6,V 7,⟨hV0 8 _ (by decide) rfl,hV0 9 _ (by decide) rfl,Lib.hid (HL.out.1.trans hV)⟩,by kernel_rfl⟩))
  case' rest=>
  obtain ⟨rfl,rfl,HF⟩:=hcut
  rw [hKK]
  clear hKK
  dsimp only
 case' k10=>
  rintro rfl
  have hv2:=hv
  rw [valid_10] at hv2
  obtain ⟨hok,hx, -, -⟩:=split4 hv2
  have hx:=of_decide_eq_true hx
  simp only [XI.mk.injEq,true_and,and_true] at hx
  obtain ⟨rfl,rfl,rfl,rfl,rfl,rfl,rfl⟩:=hx
  clear hv2 hok hk
  obtain ⟨P0,h0,l0,H0⟩:=rex_pk wd d s false hd hs
  obtain ⟨P2,h2,l2,H2⟩:=pair_pk d s hd hs
  obtain ⟨S1,hS1,lS1,a1⟩:=sum_pk P0 [byteM 15,byteM 175] l0 (Nat.le_of_ble_eq_true rfl:([byteM 15,byteM 175]:List UInt8).length≤10)
  obtain ⟨S2,hS2,lS2,a2⟩:=sum_pk S1 P2 lS1 l2
  have HT:Hid (encodeM ⟨10,0,0,0,wd,false,(d:Int),(s:Int),0,0,0⟩=some S2):=Lib.hid ((renc_10 d s wd hv).trans (by rw [hS2,hS1,h0,h2]))
  have H0:=Lib.hid H0
  have H2:=Lib.hid H2
  clear hE0 lE0 hS2 hS1 h0 h2 l0 l2 lS1 lS2
  go_upto_region 11 with fail
  refine wp_then_of ?_
  intro KK hKK
  go_cut [2,3] from 60 to 75 (fun s2 s3 wx=>s2= .string (bA' S2)∧s3= .int .i64 0∧Hid (Fr No w wx))
  case first=>
   rename_i J K' hJ hK
   refine wp_calm [(1,ptr (w.heap.size) 0)] [some (ptr (w.heap.size) 4),some (.bool wd),some (ptr (w.heap.size) 6),some (.int .i64 (d:Int)),some (ptr (w.heap.size) 7),some (.int .i64 (s:Int)),some (.string (bA' P0)),none,some (.string (bA' [byteM 15,byteM 175])),some (.string (bA' S1)),some (ptr (w.heap.size) 6),some (.int .i64 (d:Int)),some (ptr (w.heap.size) 7),some (.int .i64 (s:Int)),some (.string (bA' P2)),some (.string (bA' S2)),some (.string (bA' S2)),some (.int .i64 0)] [(7, [15,175])] (by kernel_rfl) (by kernel_rfl) (by kernel_rfl) (by kernel_rfl) ⟨rfl,trivial⟩
    ⟨qR,qL 4 HL.out.2.cells,qR,qL 6 HL.out.2.cells,qR,qL 7 HL.out.2.cells,qC H0.out,qS 3,qB (hL:=rfl) (fun b W h=>rb_any _ b 0 _ _ W h rfl (Nat.le_of_ble_eq_true rfl)),qA a1,qR,qL 6 HL.out.2.cells,qR,qL 7 HL.out.2.cells,qC H2.out,qA a2,qR,qR,trivial⟩ fun V W' hV0 hV=>
    hK _ _ (Met.intro (hJ _ _ ⟨V 16,V 17,V 0,V 1,V 2,V 3,V 4,V 5,V 6,V 7,V 8,V 9,V 10,V 11,V 12,V 13,V 14,V 15,⟨hV0 16 _ (by decide) rfl,hV0 17 _ (by decide) rfl,Lib.hid (HL.out.1.trans hV)⟩,by kernel_rfl⟩))
  case' rest=>
  obtain ⟨rfl,rfl,HF⟩:=hcut
  rw [hKK]
  clear hKK
  dsimp only
 case' k11=>
  rintro rfl
  have hv2:=hv
  rw [valid_11] at hv2
  obtain ⟨hok,hx, -, -⟩:=split4 hv2
  have hx:=of_decide_eq_true hx
  simp only [XI.mk.injEq,true_and,and_true] at hx
  obtain ⟨rfl,rfl,rfl,es,rfl,rfl⟩:=hx
  obtain rfl:s=0:=by omega
  clear es
  obtain ⟨a,rfl,ha⟩:=one3 (by simp only [Bool.and_eq_true] at hok;exact hok.1)
  clear hv2 hok hk
  obtain ⟨P2,h2,l2,H2⟩:=pair_pk a d (by omega) hd
  obtain ⟨P3,h3,l3,H3⟩:=bytes_pk im 1 (by decide)
  obtain ⟨S1,hS1,lS1,a1⟩:=sum_pk E0 [byteM 193] lE0 (Nat.le_of_ble_eq_true rfl:([byteM 193]:List UInt8).length≤10)
  obtain ⟨S2,hS2,lS2,a2⟩:=sum_pk S1 P2 lS1 l2
  obtain ⟨S3,hS3,lS3,a3⟩:=sum_pk S2 P3 lS2 l3
  have HT:Hid (encodeM ⟨11,(a:Int),0,0,wd,false,(d:Int),((0:Nat):Int),0,0,im⟩=some S3):=Lib.hid ((renc_11 a d im wd hv).trans (by rw [hS3,hS2,hS1,hE0.out,h2,h3]))
  have H2:=Lib.hid H2
  have H3:=Lib.hid H3
  clear hE0 lE0 hS3 hS2 hS1 h2 h3 l2 l3 lS1 lS2 lS3
  go_upto_region 27 with fail
  refine wp_then_of ?_
  intro KK hKK
  go_cut [2,3] from 171 to 183 (fun s2 s3 wx=>s2= .string (bA' S3)∧s3= .int .i64 0∧Hid (Fr No w wx))
  case first=>
   rename_i J K' hJ hK
   refine wp_calm [(1,ptr (w.heap.size) 0),(5, .string (bA' E0)),(4, .int .u64 (IntKind.u64.wrap im))] [some (.string (bA' E0)),none,some (.string (bA' [byteM 193])),some (.string (bA' S1)),some (ptr (w.heap.size) 1),some (.int .i64 (a:Int)),some (ptr (w.heap.size) 6),some (.int .i64 (d:Int)),some (.string (bA' P2)),some (.string (bA' S2)),some (.int .u64 (IntKind.u64.wrap im)),some (.string (bA' P3)),some (.string (bA' S3)),some (.string (bA' S3)),some (.int .i64 0)] [(1, [193])] (by kernel_rfl) (by kernel_rfl) (by kernel_rfl) (by kernel_rfl) ⟨rfl,rfl,rfl,trivial⟩
    ⟨qR,qS 3,qB (hL:=rfl) (fun b W h=>rb_any _ b 0 _ _ W h rfl (Nat.le_of_ble_eq_true rfl)),qA a1,qR,qL 1 HL.out.2.cells,qR,qL 6 HL.out.2.cells,qC H2.out,qA a2,qR,qC H3.out,qA a3,qR,qR,trivial⟩ fun V W' hV0 hV=>
    hK _ _ (Met.intro (hJ _ _ ⟨V 13,V 14,V 0,V 1,V 2,V 3,V 4,V 5,V 6,V 7,V 8,V 9,V 10,V 11,V 12,⟨hV0 13 _ (by decide) rfl,hV0 14 _ (by decide) rfl,Lib.hid (HL.out.1.trans hV)⟩,by kernel_rfl⟩))
  case' rest=>
  obtain ⟨rfl,rfl,HF⟩:=hcut
  rw [hKK]
  clear hKK
  dsimp only
 case' k12=>
  rintro rfl
  have hv2:=hv
  rw [valid_12] at hv2
  obtain ⟨hok,hx, -, -⟩:=split4 hv2
  have hx:=of_decide_eq_true hx
  simp only [XI.mk.injEq,true_and,and_true] at hx
  obtain ⟨rfl,rfl,rfl,es,rfl,rfl,rfl⟩:=hx
  obtain rfl:s=0:=by omega
  clear es
  obtain ⟨a,rfl,ha⟩:=one3 hok
  clear hv2 hok hk
  obtain ⟨P2,h2,l2,H2⟩:=pair_pk a d (by omega) hd
  obtain ⟨S1,hS1,lS1,a1⟩:=sum_pk E0 [byteM 211] lE0 (Nat.le_of_ble_eq_true rfl:([byteM 211]:List UInt8).length≤10)
  obtain ⟨S2,hS2,lS2,a2⟩:=sum_pk S1 P2 lS1 l2
  have HT:Hid (encodeM ⟨12,(a:Int),0,0,wd,false,(d:Int),((0:Nat):Int),0,0,0⟩=some S2):=Lib.hid ((renc_12 a d wd hv).trans (by rw [hS2,hS1,hE0.out,h2]))
  have H2:=Lib.hid H2
  clear hE0 lE0 hS2 hS1 h2 l2 lS1 lS2
  go_upto_region 29 with fail
  refine wp_then_of ?_
  intro KK hKK
  go_cut [2,3] from 186 to 195 (fun s2 s3 wx=>s2= .string (bA' S2)∧s3= .int .i64 0∧Hid (Fr No w wx))
  case first=>
   rename_i J K' hJ hK
   refine wp_calm [(1,ptr (w.heap.size) 0),(5, .string (bA' E0))] [some (.string (bA' E0)),none,some (.string (bA' [byteM 211])),some (.string (bA' S1)),some (ptr (w.heap.size) 1),some (.int .i64 (a:Int)),some (ptr (w.heap.size) 6),some (.int .i64 (d:Int)),some (.string (bA' P2)),some (.string (bA' S2)),some (.string (bA' S2)),some (.int .i64 0)] [(1, [211])] (by kernel_rfl) (by kernel_rfl) (by kernel_rfl) (by kernel_rfl) ⟨rfl,rfl,trivial⟩
    ⟨qR,qS 3,qB (hL:=rfl) (fun b W h=>rb_any _ b 0 _ _ W h rfl (Nat.le_of_ble_eq_true rfl)),qA a1,qR,qL 1 HL.out.2.cells,qR,qL 6 HL.out.2.cells,qC H2.out,qA a2,qR,qR,trivial⟩ fun V W' hV0 hV=>
    hK _ _ (Met.intro (hJ _ _ ⟨V 10,V 11,V 0,V 1,V 2,V 3,V 4,V 5,V 6,V 7,V 8,V 9,⟨hV0 10 _ (by decide) rfl,hV0 11 _ (by decide) rfl,Lib.hid (HL.out.1.trans hV)⟩,by kernel_rfl⟩))
  case' rest=>
  obtain ⟨rfl,rfl,HF⟩:=hcut
  rw [hKK]
  clear hKK
  dsimp only
 case' k13=>
  rintro rfl
  have hv2:=hv
  rw [valid_13] at hv2
  obtain ⟨hok,hx, -, -⟩:=split4 hv2
  have hx:=of_decide_eq_true hx
  simp only [XI.mk.injEq,true_and,and_true] at hx
  obtain ⟨rfl,rfl,ew,rfl,rfl,rfl⟩:=hx
  clear hv2 hk
  refine or4 (onez hok) ?z1_13 ?z2_13 ?z4_13 ?z8_13
  case' z1_13=>
   rintro rfl
   obtain rfl:wd=false:=by rw [ew];rfl
   clear hok ew
   obtain ⟨P0,h0,l0,H0⟩:=rex_pk false d s false hd hs
   obtain ⟨P2,h2,l2,H2⟩:=mem_pk d s dp hd hs
   obtain ⟨S1,hS1,lS1,a1⟩:=sum_pk P0 [byteM 15,byteM 182] l0 (Nat.le_of_ble_eq_true rfl:([byteM 15,byteM 182]:List UInt8).length≤10)
   obtain ⟨S2,hS2,lS2,a2⟩:=sum_pk S1 P2 lS1 l2
   have HT:Hid (encodeM ⟨13,0,0,1,false,false,(d:Int),(s:Int),dp,0,0⟩=some S2):=Lib.hid ((renc_13_1 d s dp hv).trans (by rw [hS2,hS1,h0,h2]))
   have H0:=Lib.hid H0
   have H2:=Lib.hid H2
   clear hE0 lE0 hS2 hS1 h0 h2 l0 l2 lS1 lS2
   go_upto_region 36 with (first
    |(go_at_call 47;(with_reducible refine ((rb1 139 _:Calls prog 47 #[.slice (some ⟨_,0,none⟩) 1 1] (World.alloc _ (.cells #[.int .i64 139] 3)) fun e w'=>e= .returned (.string (bA' [byteM 139]))∧Fr No _ w')).mono ?_);rintro e w9 ⟨rfl,hf9⟩;replace HL:=Lib.hid (And.intro (HL.out.1.trans hf9) (HL.out.2.fr hf9 id));clear c0 c1 c2 c3 c4 c5 c6 c7 c8 c9 c10;obtain ⟨c0,c1,c2,c3,c4,c5,c6,c7,c8,c9,c10⟩:=XI.at HL.out.2.cells;clear hf9)
    |(go_at_call 47;(with_reducible refine ((rb2 15 182 _:Calls prog 47 #[.slice (some ⟨_,0,none⟩) 2 2] (World.alloc _ (.cells #[.int .i64 15, .int .i64 182] 3)) fun e w'=>e= .returned (.string (bA' [byteM 15,byteM 182]))∧Fr No _ w')).mono ?_);rintro e w9 ⟨rfl,hf9⟩;replace HL:=Lib.hid (And.intro (HL.out.1.trans hf9) (HL.out.2.fr hf9 id));clear c0 c1 c2 c3 c4 c5 c6 c7 c8 c9 c10;obtain ⟨c0,c1,c2,c3,c4,c5,c6,c7,c8,c9,c10⟩:=XI.at HL.out.2.cells;clear hf9)
    |(go_at_call 47;(with_reducible refine ((rb2 15 183 _:Calls prog 47 #[.slice (some ⟨_,0,none⟩) 2 2] (World.alloc _ (.cells #[.int .i64 15, .int .i64 183] 3)) fun e w'=>e= .returned (.string (bA' [byteM 15,byteM 183]))∧Fr No _ w')).mono ?_);rintro e w9 ⟨rfl,hf9⟩;replace HL:=Lib.hid (And.intro (HL.out.1.trans hf9) (HL.out.2.fr hf9 id));clear c0 c1 c2 c3 c4 c5 c6 c7 c8 c9 c10;obtain ⟨c0,c1,c2,c3,c4,c5,c6,c7,c8,c9,c10⟩:=XI.at HL.out.2.cells;clear hf9)
    |fail)
   refine wp_then_of ?_
   intro KK hKK
   go_cut [2,3] from 210 to 226 (fun s2 s3 wx=>s2= .string (bA' S2)∧s3= .int .i64 0∧Hid (Fr No w wx))
   case first=>
    rename_i J K' hJ hK
    refine wp_calm [(1,ptr (w.heap.size) 0),(6, .string (bA' [byteM 15,byteM 182]))] [some (ptr (w.heap.size) 4),some (.bool false),some (ptr (w.heap.size) 6),some (.int .i64 (d:Int)),some (ptr (w.heap.size) 7),some (.int .i64 (s:Int)),some (.string (bA' P0)),some (.string (bA' [byteM 15,byteM 182])),some (.string (bA' S1)),some (ptr (w.heap.size) 6),some (.int .i64 (d:Int)),some (ptr (w.heap.size) 7),some (.int .i64 (s:Int)),some (ptr (w.heap.size) 8),some (.int .i32 dp),some (.string (bA' P2)),some (.string (bA' S2)),some (.string (bA' S2)),some (.int .i64 0)] [] (by kernel_rfl) (by kernel_rfl) (by kernel_rfl) (by kernel_rfl) ⟨rfl,rfl,trivial⟩
     ⟨qR,qL 4 HL.out.2.cells,qR,qL 6 HL.out.2.cells,qR,qL 7 HL.out.2.cells,qC H0.out,qR,qA a1,qR,qL 6 HL.out.2.cells,qR,qL 7 HL.out.2.cells,qR,qL 8 HL.out.2.cells,qC H2.out,qA a2,qR,qR,trivial⟩ fun V W' hV0 hV=>
     hK _ _ (Met.intro (hJ _ _ ⟨V 17,V 18,V 0,V 1,V 2,V 3,V 4,V 5,V 6,V 7,V 8,V 9,V 10,V 11,V 12,V 13,V 14,V 15,V 16,⟨hV0 17 _ (by decide) rfl,hV0 18 _ (by decide) rfl,Lib.hid (HL.out.1.trans hV)⟩,by kernel_rfl⟩))
   case' rest=>
   obtain ⟨rfl,rfl,HF⟩:=hcut
   rw [hKK]
   clear hKK
   dsimp only
  case' z2_13=>
   rintro rfl
   obtain rfl:wd=false:=by rw [ew];rfl
   clear hok ew
   obtain ⟨P0,h0,l0,H0⟩:=rex_pk false d s false hd hs
   obtain ⟨P2,h2,l2,H2⟩:=mem_pk d s dp hd hs
   obtain ⟨S1,hS1,lS1,a1⟩:=sum_pk P0 [byteM 15,byteM 183] l0 (Nat.le_of_ble_eq_true rfl:([byteM 15,byteM 183]:List UInt8).length≤10)
   obtain ⟨S2,hS2,lS2,a2⟩:=sum_pk S1 P2 lS1 l2
   have HT:Hid (encodeM ⟨13,0,0,2,false,false,(d:Int),(s:Int),dp,0,0⟩=some S2):=Lib.hid ((renc_13_2 d s dp hv).trans (by rw [hS2,hS1,h0,h2]))
   have H0:=Lib.hid H0
   have H2:=Lib.hid H2
   clear hE0 lE0 hS2 hS1 h0 h2 l0 l2 lS1 lS2
   go_upto_region 36 with (first
    |(go_at_call 47;(with_reducible refine ((rb1 139 _:Calls prog 47 #[.slice (some ⟨_,0,none⟩) 1 1] (World.alloc _ (.cells #[.int .i64 139] 3)) fun e w'=>e= .returned (.string (bA' [byteM 139]))∧Fr No _ w')).mono ?_);rintro e w9 ⟨rfl,hf9⟩;replace HL:=Lib.hid (And.intro (HL.out.1.trans hf9) (HL.out.2.fr hf9 id));clear c0 c1 c2 c3 c4 c5 c6 c7 c8 c9 c10;obtain ⟨c0,c1,c2,c3,c4,c5,c6,c7,c8,c9,c10⟩:=XI.at HL.out.2.cells;clear hf9)
    |(go_at_call 47;(with_reducible refine ((rb2 15 182 _:Calls prog 47 #[.slice (some ⟨_,0,none⟩) 2 2] (World.alloc _ (.cells #[.int .i64 15, .int .i64 182] 3)) fun e w'=>e= .returned (.string (bA' [byteM 15,byteM 182]))∧Fr No _ w')).mono ?_);rintro e w9 ⟨rfl,hf9⟩;replace HL:=Lib.hid (And.intro (HL.out.1.trans hf9) (HL.out.2.fr hf9 id));clear c0 c1 c2 c3 c4 c5 c6 c7 c8 c9 c10;obtain ⟨c0,c1,c2,c3,c4,c5,c6,c7,c8,c9,c10⟩:=XI.at HL.out.2.cells;clear hf9)
    |(go_at_call 47;(with_reducible refine ((rb2 15 183 _:Calls prog 47 #[.slice (some ⟨_,0,none⟩) 2 2] (World.alloc _ (.cells #[.int .i64 15, .int .i64 183] 3)) fun e w'=>e= .returned (.string (bA' [byteM 15,byteM 183]))∧Fr No _ w')).mono ?_);rintro e w9 ⟨rfl,hf9⟩;replace HL:=Lib.hid (And.intro (HL.out.1.trans hf9) (HL.out.2.fr hf9 id));clear c0 c1 c2 c3 c4 c5 c6 c7 c8 c9 c10;obtain ⟨c0,c1,c2,c3,c4,c5,c6,c7,c8,c9,c10⟩:=XI.at HL.out.2.cells;clear hf9)
    |fail)
   refine wp_then_of ?_
   intro KK hKK
   go_cut [2,3] from 210 to 226 (fun s2 s3 wx=>s2= .string (bA' S2)∧s3= .int .i64 0∧Hid (Fr No w wx))
   case first=>
    rename_i J K' hJ hK
    refine wp_calm [(1,ptr (w.heap.size) 0),(6, .string (bA' [byteM 15,byteM 183]))] [some (ptr (w.heap.size) 4),some (.bool false),some (ptr (w.heap.size) 6),some (.int .i64 (d:Int)),some (ptr (w.heap.size) 7),some (.int .i64 (s:Int)),some (.string (bA' P0)),some (.string (bA' [byteM 15,byteM 183])),some (.string (bA' S1)),some (ptr (w.heap.size) 6),some (.int .i64 (d:Int)),some (ptr (w.heap.size) 7),some (.int .i64 (s:Int)),some (ptr (w.heap.size) 8),some (.int .i32 dp),some (.string (bA' P2)),some (.string (bA' S2)),some (.string (bA' S2)),some (.int .i64 0)] [] (by kernel_rfl) (by kernel_rfl) (by kernel_rfl) (by kernel_rfl) ⟨rfl,rfl,trivial⟩
     ⟨qR,qL 4 HL.out.2.cells,qR,qL 6 HL.out.2.cells,qR,qL 7 HL.out.2.cells,qC H0.out,qR,qA a1,qR,qL 6 HL.out.2.cells,qR,qL 7 HL.out.2.cells,qR,qL 8 HL.out.2.cells,qC H2.out,qA a2,qR,qR,trivial⟩ fun V W' hV0 hV=>
     hK _ _ (Met.intro (hJ _ _ ⟨V 17,V 18,V 0,V 1,V 2,V 3,V 4,V 5,V 6,V 7,V 8,V 9,V 10,V 11,V 12,V 13,V 14,V 15,V 16,⟨hV0 17 _ (by decide) rfl,hV0 18 _ (by decide) rfl,Lib.hid (HL.out.1.trans hV)⟩,by kernel_rfl⟩))
   case' rest=>
   obtain ⟨rfl,rfl,HF⟩:=hcut
   rw [hKK]
   clear hKK
   dsimp only
  case' z4_13=>
   rintro rfl
   obtain rfl:wd=false:=by rw [ew];rfl
   clear hok ew
   obtain ⟨P0,h0,l0,H0⟩:=rex_pk false d s false hd hs
   obtain ⟨P2,h2,l2,H2⟩:=mem_pk d s dp hd hs
   obtain ⟨S1,hS1,lS1,a1⟩:=sum_pk P0 [byteM 139] l0 (Nat.le_of_ble_eq_true rfl:([byteM 139]:List UInt8).length≤10)
   obtain ⟨S2,hS2,lS2,a2⟩:=sum_pk S1 P2 lS1 l2
   have HT:Hid (encodeM ⟨13,0,0,4,false,false,(d:Int),(s:Int),dp,0,0⟩=some S2):=Lib.hid ((renc_13_4 d s dp hv).trans (by rw [hS2,hS1,h0,h2]))
   have H0:=Lib.hid H0
   have H2:=Lib.hid H2
   clear hE0 lE0 hS2 hS1 h0 h2 l0 l2 lS1 lS2
   go_upto_region 36 with (first
    |(go_at_call 47;(with_reducible refine ((rb1 139 _:Calls prog 47 #[.slice (some ⟨_,0,none⟩) 1 1] (World.alloc _ (.cells #[.int .i64 139] 3)) fun e w'=>e= .returned (.string (bA' [byteM 139]))∧Fr No _ w')).mono ?_);rintro e w9 ⟨rfl,hf9⟩;replace HL:=Lib.hid (And.intro (HL.out.1.trans hf9) (HL.out.2.fr hf9 id));clear c0 c1 c2 c3 c4 c5 c6 c7 c8 c9 c10;obtain ⟨c0,c1,c2,c3,c4,c5,c6,c7,c8,c9,c10⟩:=XI.at HL.out.2.cells;clear hf9)
    |(go_at_call 47;(with_reducible refine ((rb2 15 182 _:Calls prog 47 #[.slice (some ⟨_,0,none⟩) 2 2] (World.alloc _ (.cells #[.int .i64 15, .int .i64 182] 3)) fun e w'=>e= .returned (.string (bA' [byteM 15,byteM 182]))∧Fr No _ w')).mono ?_);rintro e w9 ⟨rfl,hf9⟩;replace HL:=Lib.hid (And.intro (HL.out.1.trans hf9) (HL.out.2.fr hf9 id));clear c0 c1 c2 c3 c4 c5 c6 c7 c8 c9 c10;obtain ⟨c0,c1,c2,c3,c4,c5,c6,c7,c8,c9,c10⟩:=XI.at HL.out.2.cells;clear hf9)
    |(go_at_call 47;(with_reducible refine ((rb2 15 183 _:Calls prog 47 #[.slice (some ⟨_,0,none⟩) 2 2] (World.alloc _ (.cells #[.int .i64 15, .int .i64 183] 3)) fun e w'=>e= .returned (.string (bA' [byteM 15,byteM 183]))∧Fr No _ w')).mono ?_);rintro e w9 ⟨rfl,hf9⟩;replace HL:=Lib.hid (And.intro (HL.out.1.trans hf9) (HL.out.2.fr hf9 id));clear c0 c1 c2 c3 c4 c5 c6 c7 c8 c9 c10;obtain ⟨c0,c1,c2,c3,c4,c5,c6,c7,c8,c9,c10⟩:=XI.at HL.out.2.cells;clear hf9)
    |fail)
   refine wp_then_of ?_
   intro KK hKK
   go_cut [2,3] from 210 to 226 (fun s2 s3 wx=>s2= .string (bA' S2)∧s3= .int .i64 0∧Hid (Fr No w wx))
   case first=>
    rename_i J K' hJ hK
    refine wp_calm [(1,ptr (w.heap.size) 0),(6, .string (bA' [byteM 139]))] [some (ptr (w.heap.size) 4),some (.bool false),some (ptr (w.heap.size) 6),some (.int .i64 (d:Int)),some (ptr (w.heap.size) 7),some (.int .i64 (s:Int)),some (.string (bA' P0)),some (.string (bA' [byteM 139])),some (.string (bA' S1)),some (ptr (w.heap.size) 6),some (.int .i64 (d:Int)),some (ptr (w.heap.size) 7),some (.int .i64 (s:Int)),some (ptr (w.heap.size) 8),some (.int .i32 dp),some (.string (bA' P2)),some (.string (bA' S2)),some (.string (bA' S2)),some (.int .i64 0)] [] (by kernel_rfl) (by kernel_rfl) (by kernel_rfl) (by kernel_rfl) ⟨rfl,rfl,trivial⟩
     ⟨qR,qL 4 HL.out.2.cells,qR,qL 6 HL.out.2.cells,qR,qL 7 HL.out.2.cells,qC H0.out,qR,qA a1,qR,qL 6 HL.out.2.cells,qR,qL 7 HL.out.2.cells,qR,qL 8 HL.out.2.cells,qC H2.out,qA a2,qR,qR,trivial⟩ fun V W' hV0 hV=>
     hK _ _ (Met.intro (hJ _ _ ⟨V 17,V 18,V 0,V 1,V 2,V 3,V 4,V 5,V 6,V 7,V 8,V 9,V 10,V 11,V 12,V 13,V 14,V 15,V 16,⟨hV0 17 _ (by decide) rfl,hV0 18 _ (by decide) rfl,Lib.hid (HL.out.1.trans hV)⟩,by kernel_rfl⟩))
   case' rest=>
   obtain ⟨rfl,rfl,HF⟩:=hcut
   rw [hKK]
   clear hKK
   dsimp only
  case' z8_13=>
   rintro rfl
   obtain rfl:wd=true:=by rw [ew];rfl
   clear hok ew
   obtain ⟨P0,h0,l0,H0⟩:=rex_pk true d s false hd hs
   obtain ⟨P2,h2,l2,H2⟩:=mem_pk d s dp hd hs
   obtain ⟨S1,hS1,lS1,a1⟩:=sum_pk P0 [byteM 139] l0 (Nat.le_of_ble_eq_true rfl:([byteM 139]:List UInt8).length≤10)
   obtain ⟨S2,hS2,lS2,a2⟩:=sum_pk S1 P2 lS1 l2
   have HT:Hid (encodeM ⟨13,0,0,8,true,false,(d:Int),(s:Int),dp,0,0⟩=some S2):=Lib.hid ((renc_13_8 d s dp hv).trans (by rw [hS2,hS1,h0,h2]))
   have H0:=Lib.hid H0
   have H2:=Lib.hid H2
   clear hE0 lE0 hS2 hS1 h0 h2 l0 l2 lS1 lS2
   go_upto_region 36 with (first
    |(go_at_call 47;(with_reducible refine ((rb1 139 _:Calls prog 47 #[.slice (some ⟨_,0,none⟩) 1 1] (World.alloc _ (.cells #[.int .i64 139] 3)) fun e w'=>e= .returned (.string (bA' [byteM 139]))∧Fr No _ w')).mono ?_);rintro e w9 ⟨rfl,hf9⟩;replace HL:=Lib.hid (And.intro (HL.out.1.trans hf9) (HL.out.2.fr hf9 id));clear c0 c1 c2 c3 c4 c5 c6 c7 c8 c9 c10;obtain ⟨c0,c1,c2,c3,c4,c5,c6,c7,c8,c9,c10⟩:=XI.at HL.out.2.cells;clear hf9)
    |(go_at_call 47;(with_reducible refine ((rb2 15 182 _:Calls prog 47 #[.slice (some ⟨_,0,none⟩) 2 2] (World.alloc _ (.cells #[.int .i64 15, .int .i64 182] 3)) fun e w'=>e= .returned (.string (bA' [byteM 15,byteM 182]))∧Fr No _ w')).mono ?_);rintro e w9 ⟨rfl,hf9⟩;replace HL:=Lib.hid (And.intro (HL.out.1.trans hf9) (HL.out.2.fr hf9 id));clear c0 c1 c2 c3 c4 c5 c6 c7 c8 c9 c10;obtain ⟨c0,c1,c2,c3,c4,c5,c6,c7,c8,c9,c10⟩:=XI.at HL.out.2.cells;clear hf9)
    |(go_at_call 47;(with_reducible refine ((rb2 15 183 _:Calls prog 47 #[.slice (some ⟨_,0,none⟩) 2 2] (World.alloc _ (.cells #[.int .i64 15, .int .i64 183] 3)) fun e w'=>e= .returned (.string (bA' [byteM 15,byteM 183]))∧Fr No _ w')).mono ?_);rintro e w9 ⟨rfl,hf9⟩;replace HL:=Lib.hid (And.intro (HL.out.1.trans hf9) (HL.out.2.fr hf9 id));clear c0 c1 c2 c3 c4 c5 c6 c7 c8 c9 c10;obtain ⟨c0,c1,c2,c3,c4,c5,c6,c7,c8,c9,c10⟩:=XI.at HL.out.2.cells;clear hf9)
    |fail)
   refine wp_then_of ?_
   intro KK hKK
   go_cut [2,3] from 210 to 226 (fun s2 s3 wx=>s2= .string (bA' S2)∧s3= .int .i64 0∧Hid (Fr No w wx))
   case first=>
    rename_i J K' hJ hK
    refine wp_calm [(1,ptr (w.heap.size) 0),(6, .string (bA' [byteM 139]))] [some (ptr (w.heap.size) 4),some (.bool true),some (ptr (w.heap.size) 6),some (.int .i64 (d:Int)),some (ptr (w.heap.size) 7),some (.int .i64 (s:Int)),some (.string (bA' P0)),some (.string (bA' [byteM 139])),some (.string (bA' S1)),some (ptr (w.heap.size) 6),some (.int .i64 (d:Int)),some (ptr (w.heap.size) 7),some (.int .i64 (s:Int)),some (ptr (w.heap.size) 8),some (.int .i32 dp),some (.string (bA' P2)),some (.string (bA' S2)),some (.string (bA' S2)),some (.int .i64 0)] [] (by kernel_rfl) (by kernel_rfl) (by kernel_rfl) (by kernel_rfl) ⟨rfl,rfl,trivial⟩
     ⟨qR,qL 4 HL.out.2.cells,qR,qL 6 HL.out.2.cells,qR,qL 7 HL.out.2.cells,qC H0.out,qR,qA a1,qR,qL 6 HL.out.2.cells,qR,qL 7 HL.out.2.cells,qR,qL 8 HL.out.2.cells,qC H2.out,qA a2,qR,qR,trivial⟩ fun V W' hV0 hV=>
     hK _ _ (Met.intro (hJ _ _ ⟨V 17,V 18,V 0,V 1,V 2,V 3,V 4,V 5,V 6,V 7,V 8,V 9,V 10,V 11,V 12,V 13,V 14,V 15,V 16,⟨hV0 17 _ (by decide) rfl,hV0 18 _ (by decide) rfl,Lib.hid (HL.out.1.trans hV)⟩,by kernel_rfl⟩))
   case' rest=>
   obtain ⟨rfl,rfl,HF⟩:=hcut
   rw [hKK]
   clear hKK
   dsimp only
 case' k14=>
  rintro rfl
  have hv2:=hv
  rw [valid_14] at hv2
  obtain ⟨hok,hx, -, -⟩:=split4 hv2
  have hx:=of_decide_eq_true hx
  simp only [XI.mk.injEq,true_and,and_true] at hx
  obtain ⟨rfl,rfl,ew,rfl,rfl,rfl⟩:=hx
  clear hv2 hk
  refine or4 (onez hok) ?z1_14 ?z2_14 ?z4_14 ?z8_14
  case' z1_14=>
   rintro rfl
   obtain rfl:wd=false:=by rw [ew];rfl
   clear hok ew
   obtain ⟨P1,h1,l1,H1⟩:=rex_pk false s d true hs hd
   obtain ⟨P3,h3,l3,H3⟩:=mem_pk s d dp hs hd
   obtain ⟨S1,hS1,lS1,a1⟩:=sum_pk [] P1 (Nat.le_of_ble_eq_true rfl:([]:List UInt8).length≤10) l1
   obtain ⟨S2,hS2,lS2,a2⟩:=sum_pk S1 [byteM 136] lS1 (Nat.le_of_ble_eq_true rfl:([byteM 136]:List UInt8).length≤10)
   obtain ⟨S3,hS3,lS3,a3⟩:=sum_pk S2 P3 lS2 l3
   have HT:Hid (encodeM ⟨14,0,0,1,false,false,(d:Int),(s:Int),dp,0,0⟩=some S3):=Lib.hid ((renc_14_1 d s dp hv).trans (by rw [hS3,hS2,hS1,h1,h3]))
   have H1:=Lib.hid H1
   have H3:=Lib.hid H3
   clear hE0 lE0 hS3 hS2 hS1 h1 h3 l1 l3 lS1 lS2 lS3
   go_upto_region 43 with (first
    |(go_at_call 47;(with_reducible refine ((rb1 137 _:Calls prog 47 #[.slice (some ⟨_,0,none⟩) 1 1] (World.alloc _ (.cells #[.int .i64 137] 3)) fun e w'=>e= .returned (.string (bA' [byteM 137]))∧Fr No _ w')).mono ?_);rintro e w9 ⟨rfl,hf9⟩;replace HL:=Lib.hid (And.intro (HL.out.1.trans hf9) (HL.out.2.fr hf9 id));clear c0 c1 c2 c3 c4 c5 c6 c7 c8 c9 c10;obtain ⟨c0,c1,c2,c3,c4,c5,c6,c7,c8,c9,c10⟩:=XI.at HL.out.2.cells;clear hf9)
    |(go_at_call 47;(with_reducible refine ((rb1 136 _:Calls prog 47 #[.slice (some ⟨_,0,none⟩) 1 1] (World.alloc _ (.cells #[.int .i64 136] 3)) fun e w'=>e= .returned (.string (bA' [byteM 136]))∧Fr No _ w')).mono ?_);rintro e w9 ⟨rfl,hf9⟩;replace HL:=Lib.hid (And.intro (HL.out.1.trans hf9) (HL.out.2.fr hf9 id));clear c0 c1 c2 c3 c4 c5 c6 c7 c8 c9 c10;obtain ⟨c0,c1,c2,c3,c4,c5,c6,c7,c8,c9,c10⟩:=XI.at HL.out.2.cells;clear hf9)
    |(go_at_call 47;(with_reducible refine ((rb1 102 _:Calls prog 47 #[.slice (some ⟨_,0,none⟩) 1 1] (World.alloc _ (.cells #[.int .i64 102] 3)) fun e w'=>e= .returned (.string (bA' [byteM 102]))∧Fr No _ w')).mono ?_);rintro e w9 ⟨rfl,hf9⟩;replace HL:=Lib.hid (And.intro (HL.out.1.trans hf9) (HL.out.2.fr hf9 id));clear c0 c1 c2 c3 c4 c5 c6 c7 c8 c9 c10;obtain ⟨c0,c1,c2,c3,c4,c5,c6,c7,c8,c9,c10⟩:=XI.at HL.out.2.cells;clear hf9)
    |fail)
   refine wp_then_of ?_
   intro KK hKK
   go_cut [2,3] from 241 to 262 (fun s2 s3 wx=>s2= .string (bA' S3)∧s3= .int .i64 0∧Hid (Fr No w wx))
   case first=>
    rename_i J K' hJ hK
    refine wp_calm [(1,ptr (w.heap.size) 0),(7, .string (bA' [])),(8, .string (bA' [byteM 136]))] [some (.string (bA' [])),some (ptr (w.heap.size) 4),some (.bool false),some (ptr (w.heap.size) 7),some (.int .i64 (s:Int)),some (ptr (w.heap.size) 6),some (.int .i64 (d:Int)),some (ptr (w.heap.size) 3),some (.int .i64 1),some (.bool true),some (.string (bA' P1)),some (.string (bA' S1)),some (.string (bA' [byteM 136])),some (.string (bA' S2)),some (ptr (w.heap.size) 7),some (.int .i64 (s:Int)),some (ptr (w.heap.size) 6),some (.int .i64 (d:Int)),some (ptr (w.heap.size) 8),some (.int .i32 dp),some (.string (bA' P3)),some (.string (bA' S3)),some (.string (bA' S3)),some (.int .i64 0)] [] (by kernel_rfl) (by kernel_rfl) (by kernel_rfl) (by kernel_rfl) ⟨rfl,rfl,rfl,trivial⟩
     ⟨qR,qR,qL 4 HL.out.2.cells,qR,qL 7 HL.out.2.cells,qR,qL 6 HL.out.2.cells,qR,qL 3 HL.out.2.cells,qR,qC H1.out,qA a1,qR,qA a2,qR,qL 7 HL.out.2.cells,qR,qL 6 HL.out.2.cells,qR,qL 8 HL.out.2.cells,qC H3.out,qA a3,qR,qR,trivial⟩ fun V W' hV0 hV=>
     hK _ _ (Met.intro (hJ _ _ ⟨V 22,V 23,V 0,V 1,V 2,V 3,V 4,V 5,V 6,V 7,V 8,V 9,V 10,V 11,V 12,V 13,V 14,V 15,V 16,V 17,V 18,V 19,V 20,V 21,⟨hV0 22 _ (by decide) rfl,hV0 23 _ (by decide) rfl,Lib.hid (HL.out.1.trans hV)⟩,by kernel_rfl⟩))
   case' rest=>
   obtain ⟨rfl,rfl,HF⟩:=hcut
   rw [hKK]
   clear hKK
   dsimp only
  case' z2_14=>
   rintro rfl
   obtain rfl:wd=false:=by rw [ew];rfl
   clear hok ew
   obtain ⟨P1,h1,l1,H1⟩:=rex_pk false s d false hs hd
   obtain ⟨P3,h3,l3,H3⟩:=mem_pk s d dp hs hd
   obtain ⟨S1,hS1,lS1,a1⟩:=sum_pk [byteM 102] P1 (Nat.le_of_ble_eq_true rfl:([byteM 102]:List UInt8).length≤10) l1
   obtain ⟨S2,hS2,lS2,a2⟩:=sum_pk S1 [byteM 137] lS1 (Nat.le_of_ble_eq_true rfl:([byteM 137]:List UInt8).length≤10)
   obtain ⟨S3,hS3,lS3,a3⟩:=sum_pk S2 P3 lS2 l3
   have HT:Hid (encodeM ⟨14,0,0,2,false,false,(d:Int),(s:Int),dp,0,0⟩=some S3):=Lib.hid ((renc_14_2 d s dp hv).trans (by rw [hS3,hS2,hS1,h1,h3]))
   have H1:=Lib.hid H1
   have H3:=Lib.hid H3
   clear hE0 lE0 hS3 hS2 hS1 h1 h3 l1 l3 lS1 lS2 lS3
   go_upto_region 43 with (first
    |(go_at_call 47;(with_reducible refine ((rb1 137 _:Calls prog 47 #[.slice (some ⟨_,0,none⟩) 1 1] (World.alloc _ (.cells #[.int .i64 137] 3)) fun e w'=>e= .returned (.string (bA' [byteM 137]))∧Fr No _ w')).mono ?_);rintro e w9 ⟨rfl,hf9⟩;replace HL:=Lib.hid (And.intro (HL.out.1.trans hf9) (HL.out.2.fr hf9 id));clear c0 c1 c2 c3 c4 c5 c6 c7 c8 c9 c10;obtain ⟨c0,c1,c2,c3,c4,c5,c6,c7,c8,c9,c10⟩:=XI.at HL.out.2.cells;clear hf9)
    |(go_at_call 47;(with_reducible refine ((rb1 136 _:Calls prog 47 #[.slice (some ⟨_,0,none⟩) 1 1] (World.alloc _ (.cells #[.int .i64 136] 3)) fun e w'=>e= .returned (.string (bA' [byteM 136]))∧Fr No _ w')).mono ?_);rintro e w9 ⟨rfl,hf9⟩;replace HL:=Lib.hid (And.intro (HL.out.1.trans hf9) (HL.out.2.fr hf9 id));clear c0 c1 c2 c3 c4 c5 c6 c7 c8 c9 c10;obtain ⟨c0,c1,c2,c3,c4,c5,c6,c7,c8,c9,c10⟩:=XI.at HL.out.2.cells;clear hf9)
    |(go_at_call 47;(with_reducible refine ((rb1 102 _:Calls prog 47 #[.slice (some ⟨_,0,none⟩) 1 1] (World.alloc _ (.cells #[.int .i64 102] 3)) fun e w'=>e= .returned (.string (bA' [byteM 102]))∧Fr No _ w')).mono ?_);rintro e w9 ⟨rfl,hf9⟩;replace HL:=Lib.hid (And.intro (HL.out.1.trans hf9) (HL.out.2.fr hf9 id));clear c0 c1 c2 c3 c4 c5 c6 c7 c8 c9 c10;obtain ⟨c0,c1,c2,c3,c4,c5,c6,c7,c8,c9,c10⟩:=XI.at HL.out.2.cells;clear hf9)
    |fail)
   refine wp_then_of ?_
   intro KK hKK
   go_cut [2,3] from 241 to 262 (fun s2 s3 wx=>s2= .string (bA' S3)∧s3= .int .i64 0∧Hid (Fr No w wx))
   case first=>
    rename_i J K' hJ hK
    refine wp_calm [(1,ptr (w.heap.size) 0),(7, .string (bA' [byteM 102])),(8, .string (bA' [byteM 137]))] [some (.string (bA' [byteM 102])),some (ptr (w.heap.size) 4),some (.bool false),some (ptr (w.heap.size) 7),some (.int .i64 (s:Int)),some (ptr (w.heap.size) 6),some (.int .i64 (d:Int)),some (ptr (w.heap.size) 3),some (.int .i64 2),some (.bool false),some (.string (bA' P1)),some (.string (bA' S1)),some (.string (bA' [byteM 137])),some (.string (bA' S2)),some (ptr (w.heap.size) 7),some (.int .i64 (s:Int)),some (ptr (w.heap.size) 6),some (.int .i64 (d:Int)),some (ptr (w.heap.size) 8),some (.int .i32 dp),some (.string (bA' P3)),some (.string (bA' S3)),some (.string (bA' S3)),some (.int .i64 0)] [] (by kernel_rfl) (by kernel_rfl) (by kernel_rfl) (by kernel_rfl) ⟨rfl,rfl,rfl,trivial⟩
     ⟨qR,qR,qL 4 HL.out.2.cells,qR,qL 7 HL.out.2.cells,qR,qL 6 HL.out.2.cells,qR,qL 3 HL.out.2.cells,qR,qC H1.out,qA a1,qR,qA a2,qR,qL 7 HL.out.2.cells,qR,qL 6 HL.out.2.cells,qR,qL 8 HL.out.2.cells,qC H3.out,qA a3,qR,qR,trivial⟩ fun V W' hV0 hV=>
     hK _ _ (Met.intro (hJ _ _ ⟨V 22,V 23,V 0,V 1,V 2,V 3,V 4,V 5,V 6,V 7,V 8,V 9,V 10,V 11,V 12,V 13,V 14,V 15,V 16,V 17,V 18,V 19,V 20,V 21,⟨hV0 22 _ (by decide) rfl,hV0 23 _ (by decide) rfl,Lib.hid (HL.out.1.trans hV)⟩,by kernel_rfl⟩))
   case' rest=>
   obtain ⟨rfl,rfl,HF⟩:=hcut
   rw [hKK]
   clear hKK
   dsimp only
  case' z4_14=>
   rintro rfl
   obtain rfl:wd=false:=by rw [ew];rfl
   clear hok ew
   obtain ⟨P1,h1,l1,H1⟩:=rex_pk false s d false hs hd
   obtain ⟨P3,h3,l3,H3⟩:=mem_pk s d dp hs hd
   obtain ⟨S1,hS1,lS1,a1⟩:=sum_pk [] P1 (Nat.le_of_ble_eq_true rfl:([]:List UInt8).length≤10) l1
   obtain ⟨S2,hS2,lS2,a2⟩:=sum_pk S1 [byteM 137] lS1 (Nat.le_of_ble_eq_true rfl:([byteM 137]:List UInt8).length≤10)
   obtain ⟨S3,hS3,lS3,a3⟩:=sum_pk S2 P3 lS2 l3
   have HT:Hid (encodeM ⟨14,0,0,4,false,false,(d:Int),(s:Int),dp,0,0⟩=some S3):=Lib.hid ((renc_14_4 d s dp hv).trans (by rw [hS3,hS2,hS1,h1,h3]))
   have H1:=Lib.hid H1
   have H3:=Lib.hid H3
   clear hE0 lE0 hS3 hS2 hS1 h1 h3 l1 l3 lS1 lS2 lS3
   go_upto_region 43 with (first
    |(go_at_call 47;(with_reducible refine ((rb1 137 _:Calls prog 47 #[.slice (some ⟨_,0,none⟩) 1 1] (World.alloc _ (.cells #[.int .i64 137] 3)) fun e w'=>e= .returned (.string (bA' [byteM 137]))∧Fr No _ w')).mono ?_);rintro e w9 ⟨rfl,hf9⟩;replace HL:=Lib.hid (And.intro (HL.out.1.trans hf9) (HL.out.2.fr hf9 id));clear c0 c1 c2 c3 c4 c5 c6 c7 c8 c9 c10;obtain ⟨c0,c1,c2,c3,c4,c5,c6,c7,c8,c9,c10⟩:=XI.at HL.out.2.cells;clear hf9)
    |(go_at_call 47;(with_reducible refine ((rb1 136 _:Calls prog 47 #[.slice (some ⟨_,0,none⟩) 1 1] (World.alloc _ (.cells #[.int .i64 136] 3)) fun e w'=>e= .returned (.string (bA' [byteM 136]))∧Fr No _ w')).mono ?_);rintro e w9 ⟨rfl,hf9⟩;replace HL:=Lib.hid (And.intro (HL.out.1.trans hf9) (HL.out.2.fr hf9 id));clear c0 c1 c2 c3 c4 c5 c6 c7 c8 c9 c10;obtain ⟨c0,c1,c2,c3,c4,c5,c6,c7,c8,c9,c10⟩:=XI.at HL.out.2.cells;clear hf9)
    |(go_at_call 47;(with_reducible refine ((rb1 102 _:Calls prog 47 #[.slice (some ⟨_,0,none⟩) 1 1] (World.alloc _ (.cells #[.int .i64 102] 3)) fun e w'=>e= .returned (.string (bA' [byteM 102]))∧Fr No _ w')).mono ?_);rintro e w9 ⟨rfl,hf9⟩;replace HL:=Lib.hid (And.intro (HL.out.1.trans hf9) (HL.out.2.fr hf9 id));clear c0 c1 c2 c3 c4 c5 c6 c7 c8 c9 c10;obtain ⟨c0,c1,c2,c3,c4,c5,c6,c7,c8,c9,c10⟩:=XI.at HL.out.2.cells;clear hf9)
    |fail)
   refine wp_then_of ?_
   intro KK hKK
   go_cut [2,3] from 241 to 262 (fun s2 s3 wx=>s2= .string (bA' S3)∧s3= .int .i64 0∧Hid (Fr No w wx))
   case first=>
    rename_i J K' hJ hK
    refine wp_calm [(1,ptr (w.heap.size) 0),(7, .string (bA' [])),(8, .string (bA' [byteM 137]))] [some (.string (bA' [])),some (ptr (w.heap.size) 4),some (.bool false),some (ptr (w.heap.size) 7),some (.int .i64 (s:Int)),some (ptr (w.heap.size) 6),some (.int .i64 (d:Int)),some (ptr (w.heap.size) 3),some (.int .i64 4),some (.bool false),some (.string (bA' P1)),some (.string (bA' S1)),some (.string (bA' [byteM 137])),some (.string (bA' S2)),some (ptr (w.heap.size) 7),some (.int .i64 (s:Int)),some (ptr (w.heap.size) 6),some (.int .i64 (d:Int)),some (ptr (w.heap.size) 8),some (.int .i32 dp),some (.string (bA' P3)),some (.string (bA' S3)),some (.string (bA' S3)),some (.int .i64 0)] [] (by kernel_rfl) (by kernel_rfl) (by kernel_rfl) (by kernel_rfl) ⟨rfl,rfl,rfl,trivial⟩
     ⟨qR,qR,qL 4 HL.out.2.cells,qR,qL 7 HL.out.2.cells,qR,qL 6 HL.out.2.cells,qR,qL 3 HL.out.2.cells,qR,qC H1.out,qA a1,qR,qA a2,qR,qL 7 HL.out.2.cells,qR,qL 6 HL.out.2.cells,qR,qL 8 HL.out.2.cells,qC H3.out,qA a3,qR,qR,trivial⟩ fun V W' hV0 hV=>
     hK _ _ (Met.intro (hJ _ _ ⟨V 22,V 23,V 0,V 1,V 2,V 3,V 4,V 5,V 6,V 7,V 8,V 9,V 10,V 11,V 12,V 13,V 14,V 15,V 16,V 17,V 18,V 19,V 20,V 21,⟨hV0 22 _ (by decide) rfl,hV0 23 _ (by decide) rfl,Lib.hid (HL.out.1.trans hV)⟩,by kernel_rfl⟩))
   case' rest=>
   obtain ⟨rfl,rfl,HF⟩:=hcut
   rw [hKK]
   clear hKK
   dsimp only
  case' z8_14=>
   rintro rfl
   obtain rfl:wd=true:=by rw [ew];rfl
   clear hok ew
   obtain ⟨P1,h1,l1,H1⟩:=rex_pk true s d false hs hd
   obtain ⟨P3,h3,l3,H3⟩:=mem_pk s d dp hs hd
   obtain ⟨S1,hS1,lS1,a1⟩:=sum_pk [] P1 (Nat.le_of_ble_eq_true rfl:([]:List UInt8).length≤10) l1
   obtain ⟨S2,hS2,lS2,a2⟩:=sum_pk S1 [byteM 137] lS1 (Nat.le_of_ble_eq_true rfl:([byteM 137]:List UInt8).length≤10)
   obtain ⟨S3,hS3,lS3,a3⟩:=sum_pk S2 P3 lS2 l3
   have HT:Hid (encodeM ⟨14,0,0,8,true,false,(d:Int),(s:Int),dp,0,0⟩=some S3):=Lib.hid ((renc_14_8 d s dp hv).trans (by rw [hS3,hS2,hS1,h1,h3]))
   have H1:=Lib.hid H1
   have H3:=Lib.hid H3
   clear hE0 lE0 hS3 hS2 hS1 h1 h3 l1 l3 lS1 lS2 lS3
   go_upto_region 43 with (first
    |(go_at_call 47;(with_reducible refine ((rb1 137 _:Calls prog 47 #[.slice (some ⟨_,0,none⟩) 1 1] (World.alloc _ (.cells #[.int .i64 137] 3)) fun e w'=>e= .returned (.string (bA' [byteM 137]))∧Fr No _ w')).mono ?_);rintro e w9 ⟨rfl,hf9⟩;replace HL:=Lib.hid (And.intro (HL.out.1.trans hf9) (HL.out.2.fr hf9 id));clear c0 c1 c2 c3 c4 c5 c6 c7 c8 c9 c10;obtain ⟨c0,c1,c2,c3,c4,c5,c6,c7,c8,c9,c10⟩:=XI.at HL.out.2.cells;clear hf9)
    |(go_at_call 47;(with_reducible refine ((rb1 136 _:Calls prog 47 #[.slice (some ⟨_,0,none⟩) 1 1] (World.alloc _ (.cells #[.int .i64 136] 3)) fun e w'=>e= .returned (.string (bA' [byteM 136]))∧Fr No _ w')).mono ?_);rintro e w9 ⟨rfl,hf9⟩;replace HL:=Lib.hid (And.intro (HL.out.1.trans hf9) (HL.out.2.fr hf9 id));clear c0 c1 c2 c3 c4 c5 c6 c7 c8 c9 c10;obtain ⟨c0,c1,c2,c3,c4,c5,c6,c7,c8,c9,c10⟩:=XI.at HL.out.2.cells;clear hf9)
    |(go_at_call 47;(with_reducible refine ((rb1 102 _:Calls prog 47 #[.slice (some ⟨_,0,none⟩) 1 1] (World.alloc _ (.cells #[.int .i64 102] 3)) fun e w'=>e= .returned (.string (bA' [byteM 102]))∧Fr No _ w')).mono ?_);rintro e w9 ⟨rfl,hf9⟩;replace HL:=Lib.hid (And.intro (HL.out.1.trans hf9) (HL.out.2.fr hf9 id));clear c0 c1 c2 c3 c4 c5 c6 c7 c8 c9 c10;obtain ⟨c0,c1,c2,c3,c4,c5,c6,c7,c8,c9,c10⟩:=XI.at HL.out.2.cells;clear hf9)
    |fail)
   refine wp_then_of ?_
   intro KK hKK
   go_cut [2,3] from 241 to 262 (fun s2 s3 wx=>s2= .string (bA' S3)∧s3= .int .i64 0∧Hid (Fr No w wx))
   case first=>
    rename_i J K' hJ hK
    refine wp_calm [(1,ptr (w.heap.size) 0),(7, .string (bA' [])),(8, .string (bA' [byteM 137]))] [some (.string (bA' [])),some (ptr (w.heap.size) 4),some (.bool true),some (ptr (w.heap.size) 7),some (.int .i64 (s:Int)),some (ptr (w.heap.size) 6),some (.int .i64 (d:Int)),some (ptr (w.heap.size) 3),some (.int .i64 8),some (.bool false),some (.string (bA' P1)),some (.string (bA' S1)),some (.string (bA' [byteM 137])),some (.string (bA' S2)),some (ptr (w.heap.size) 7),some (.int .i64 (s:Int)),some (ptr (w.heap.size) 6),some (.int .i64 (d:Int)),some (ptr (w.heap.size) 8),some (.int .i32 dp),some (.string (bA' P3)),some (.string (bA' S3)),some (.string (bA' S3)),some (.int .i64 0)] [] (by kernel_rfl) (by kernel_rfl) (by kernel_rfl) (by kernel_rfl) ⟨rfl,rfl,rfl,trivial⟩
     ⟨qR,qR,qL 4 HL.out.2.cells,qR,qL 7 HL.out.2.cells,qR,qL 6 HL.out.2.cells,qR,qL 3 HL.out.2.cells,qR,qC H1.out,qA a1,qR,qA a2,qR,qL 7 HL.out.2.cells,qR,qL 6 HL.out.2.cells,qR,qL 8 HL.out.2.cells,qC H3.out,qA a3,qR,qR,trivial⟩ fun V W' hV0 hV=>
     hK _ _ (Met.intro (hJ _ _ ⟨V 22,V 23,V 0,V 1,V 2,V 3,V 4,V 5,V 6,V 7,V 8,V 9,V 10,V 11,V 12,V 13,V 14,V 15,V 16,V 17,V 18,V 19,V 20,V 21,⟨hV0 22 _ (by decide) rfl,hV0 23 _ (by decide) rfl,Lib.hid (HL.out.1.trans hV)⟩,by kernel_rfl⟩))
   case' rest=>
   obtain ⟨rfl,rfl,HF⟩:=hcut
   rw [hKK]
   clear hKK
   dsimp only
 case' k15=>
  rintro rfl
  have hv2:=hv
  rw [valid_15] at hv2
  obtain ⟨hok,hx, -, -⟩:=split4 hv2
  have hx:=of_decide_eq_true hx
  simp only [XI.mk.injEq,true_and,and_true] at hx
  obtain ⟨rfl,rfl,rfl,rfl,ed,es,rfl,rfl⟩:=hx
  obtain rfl:d=0:=by omega
  clear ed
  obtain rfl:s=0:=by omega
  clear es
  clear hv2 hok hk
  obtain ⟨P0,h0,H0⟩:=rel_pk ⟨15,0,0,0,false,sh,0,0,0,rl,0⟩ [byteM 235] [byteM 233] (by simp) (by simp)
  have HT:Hid (encodeM ⟨15,0,0,0,false,sh,((0:Nat):Int),((0:Nat):Int),0,rl,0⟩=some P0):=Lib.hid ((renc_15 rl sh hv).trans (by rw [h0]))
  have H0:=Lib.hid H0
  clear hE0 lE0 h0
  go_upto_region 45 with fail
  refine wp_then_of ?_
  intro KK hKK
  go_cut [2,3] from 265 to 270 (fun s2 s3 wx=>s2= .string (bA' P0)∧s3= .int .i64 0∧Hid (Fr No w wx))
  case first=>
   rename_i J K' hJ hK
   refine wp_calm [(1,ptr (w.heap.size) 0)] [some ((XI.mk 15 0 0 0 false sh 0 0 0 rl 0).agg),none,some (.string (bA' [byteM 235])),none,some (.string (bA' [byteM 233])),some (.string (bA' P0)),some (.string (bA' P0)),some (.int .i64 0)] [(1, [235]),(3, [233])] (by kernel_rfl) (by kernel_rfl) (by kernel_rfl) (by kernel_rfl) ⟨rfl,trivial⟩
    ⟨qW HL.out.2.cells (fun W h=>run_loadAt_mid W w.heap.size 0 48 (XI.mk 15 0 0 0 false sh 0 0 0 rl 0).cells _ h underlying48 rfl (XI.info _)),qS 3,qB (hL:=rfl) (fun b W h=>rb_any _ b 0 _ _ W h rfl (Nat.le_of_ble_eq_true rfl)),qS 3,qB (hL:=rfl) (fun b W h=>rb_any _ b 0 _ _ W h rfl (Nat.le_of_ble_eq_true rfl)),qC H0.out,qR,qR,trivial⟩ fun V W' hV0 hV=>
    hK _ _ (Met.intro (hJ _ _ ⟨V 6,V 7,V 0,V 1,V 2,V 3,V 4,V 5,⟨hV0 6 _ (by decide) rfl,hV0 7 _ (by decide) rfl,Lib.hid (HL.out.1.trans hV)⟩,by kernel_rfl⟩))
  case' rest=>
  obtain ⟨rfl,rfl,HF⟩:=hcut
  rw [hKK]
  clear hKK
  dsimp only
 case' k16=>
  rintro rfl
  have hv2:=hv
  rw [valid_16] at hv2
  obtain ⟨hok,hx, -, -⟩:=split4 hv2
  have hx:=of_decide_eq_true hx
  simp only [XI.mk.injEq,true_and,and_true] at hx
  obtain ⟨rfl,rfl,rfl,ed,es,rfl,rfl⟩:=hx
  obtain rfl:d=0:=by omega
  clear ed
  obtain rfl:s=0:=by omega
  clear es
  have hc:=onec (by simp only [Bool.and_eq_true] at hok;exact hok.2:oneM c condsL=true)
  clear hv2 hok hk
  obtain ⟨P0,h0,H0⟩:=rel_pk ⟨16,0,c,0,false,sh,0,0,0,rl,0⟩ [byteM (112+c)] [byteM 15,byteM (128+c)] (by simp) (by simp)
  have HT:Hid (encodeM ⟨16,0,c,0,false,sh,((0:Nat):Int),((0:Nat):Int),0,rl,0⟩=some P0):=Lib.hid ((renc_16 c rl sh hv).trans (by rw [h0]))
  have q1:IntKind.i64.wrap (112+c)=112+c:=IntWalk.i64_in _ (by omega)
  have q2:IntKind.i64.wrap (128+c)=128+c:=IntWalk.i64_in _ (by omega)
  have H0:=Lib.hid H0
  clear hE0 lE0 h0
  go_upto_region 47 with fail
  refine wp_then_of ?_
  intro KK hKK
  go_cut [2,3] from 273 to 284 (fun s2 s3 wx=>s2= .string (bA' P0)∧s3= .int .i64 0∧Hid (Fr No w wx))
  case first=>
   rename_i J K' hJ hK
   refine wp_calm [(1,ptr (w.heap.size) 0)] [some ((XI.mk 16 0 c 0 false sh 0 0 0 rl 0).agg),some (ptr (w.heap.size) 2),some (.int .i64 c),some (.int .i64 (112+c)),none,some (.string (bA' [byteM (112+c)])),some (ptr (w.heap.size) 2),some (.int .i64 c),some (.int .i64 (128+c)),none,some (.string (bA' [byteM 15,byteM (128+c)])),some (.string (bA' P0)),some (.string (bA' P0)),some (.int .i64 0)] [(4, [(112+c)]),(9, [15,(128+c)])] (by kernel_rfl) (by kernel_rfl) (by kernel_rfl) (by kernel_rfl) ⟨rfl,trivial⟩
    ⟨qW HL.out.2.cells (fun W h=>run_loadAt_mid W w.heap.size 0 48 (XI.mk 16 0 c 0 false sh 0 0 0 rl 0).cells _ h underlying48 rfl (XI.info _)),qR,qL 2 HL.out.2.cells,qI (.int .i64 112) (.int .i64 c) (c:= .int .i64 (112+c)) (fun _=>by simp [go_sem,q1]),qS 3,qB (hL:=rfl) (fun b W h=>rb_any _ b 0 _ _ W h rfl (Nat.le_of_ble_eq_true rfl)),qR,qL 2 HL.out.2.cells,qI (.int .i64 128) (.int .i64 c) (c:= .int .i64 (128+c)) (fun _=>by simp [go_sem,q2]),qS 3,qB (hL:=rfl) (fun b W h=>rb_any _ b 0 _ _ W h rfl (Nat.le_of_ble_eq_true rfl)),qC H0.out,qR,qR,trivial⟩ fun V W' hV0 hV=>
    hK _ _ (Met.intro (hJ _ _ ⟨V 12,V 13,V 0,V 1,V 2,V 3,V 4,V 5,V 6,V 7,V 8,V 9,V 10,V 11,⟨hV0 12 _ (by decide) rfl,hV0 13 _ (by decide) rfl,Lib.hid (HL.out.1.trans hV)⟩,by kernel_rfl⟩))
  case' rest=>
  obtain ⟨rfl,rfl,HF⟩:=hcut
  rw [hKK]
  clear hKK
  dsimp only
 case' k17=>
  rintro rfl
  have hv2:=hv
  rw [valid_17] at hv2
  obtain ⟨hok,hx, -, -⟩:=split4 hv2
  have hx:=of_decide_eq_true hx
  simp only [XI.mk.injEq,true_and,and_true] at hx
  obtain ⟨rfl,rfl,rfl,rfl,rfl,es,rfl,rfl,rfl⟩:=hx
  obtain rfl:s=0:=by omega
  clear es
  clear hv2 hok hk
  obtain ⟨S1,hS1,lS1,a1⟩:=sum_pk E0 [byteM (80+(d:Int)%8)] lE0 (Nat.le_of_ble_eq_true rfl:([byteM (80+(d:Int)%8)]:List UInt8).length≤10)
  have HT:Hid (encodeM ⟨17,0,0,0,false,false,(d:Int),((0:Nat):Int),0,0,0⟩=some S1):=Lib.hid ((renc_17 d hv).trans (by rw [hS1,hE0.out]))
  have q1:(d:Int).tmod 8=(d:Int)%8:=Int.tmod_eq_emod_of_nonneg (by omega)
  have q2:RowKit.wrap64 (80+(d:Int)%8)=80+(d:Int)%8:=IntWalk.wrap64_in _ (by omega)
  have HB1:∀(W:World),Calls prog 47 #[.slice (some ⟨W.heap.size,0,none⟩) 1 1] (W.alloc (.cells #[.int .i64 (80+(d:Int)%8)] 3)) fun e w'=>e= .returned (.string (bA' [byteM (80+(d:Int)%8)]))∧Fr No W w':=fun W=>rb1 _ W
  have HB1:=Lib.hid HB1
  clear hE0 lE0 hS1 lS1
  go_wp2_with (first
   |(go_at_call 47;(with_reducible refine (HB1.out _).mono ?_);rintro e w9 ⟨rfl,hf9⟩;replace HL:=Lib.hid (And.intro (HL.out.1.trans hf9) (HL.out.2.fr hf9 id));clear c0 c1 c2 c3 c4 c5 c6 c7 c8 c9 c10;obtain ⟨c0,c1,c2,c3,c4,c5,c6,c7,c8,c9,c10⟩:=XI.at HL.out.2.cells;clear hf9)
   |fail)
  go_ret2
  exact ⟨by unfold encV;rw [HT.out];rfl,HL.out.1⟩
 case' k18=>
  rintro rfl
  have hv2:=hv
  rw [valid_18] at hv2
  obtain ⟨hok,hx, -, -⟩:=split4 hv2
  have hx:=of_decide_eq_true hx
  simp only [XI.mk.injEq,true_and,and_true] at hx
  obtain ⟨rfl,rfl,rfl,rfl,rfl,es,rfl,rfl,rfl⟩:=hx
  obtain rfl:s=0:=by omega
  clear es
  clear hv2 hok hk
  obtain ⟨S1,hS1,lS1,a1⟩:=sum_pk E0 [byteM (88+(d:Int)%8)] lE0 (Nat.le_of_ble_eq_true rfl:([byteM (88+(d:Int)%8)]:List UInt8).length≤10)
  have HT:Hid (encodeM ⟨18,0,0,0,false,false,(d:Int),((0:Nat):Int),0,0,0⟩=some S1):=Lib.hid ((renc_18 d hv).trans (by rw [hS1,hE0.out]))
  have q1:(d:Int).tmod 8=(d:Int)%8:=Int.tmod_eq_emod_of_nonneg (by omega)
  have q2:RowKit.wrap64 (88+(d:Int)%8)=88+(d:Int)%8:=IntWalk.wrap64_in _ (by omega)
  have HB1:∀(W:World),Calls prog 47 #[.slice (some ⟨W.heap.size,0,none⟩) 1 1] (W.alloc (.cells #[.int .i64 (88+(d:Int)%8)] 3)) fun e w'=>e= .returned (.string (bA' [byteM (88+(d:Int)%8)]))∧Fr No W w':=fun W=>rb1 _ W
  have HB1:=Lib.hid HB1
  clear hE0 lE0 hS1 lS1
  go_wp2_with (first
   |(go_at_call 47;(with_reducible refine (HB1.out _).mono ?_);rintro e w9 ⟨rfl,hf9⟩;replace HL:=Lib.hid (And.intro (HL.out.1.trans hf9) (HL.out.2.fr hf9 id));clear c0 c1 c2 c3 c4 c5 c6 c7 c8 c9 c10;obtain ⟨c0,c1,c2,c3,c4,c5,c6,c7,c8,c9,c10⟩:=XI.at HL.out.2.cells;clear hf9)
   |fail)
  go_ret2
  exact ⟨by unfold encV;rw [HT.out];rfl,HL.out.1⟩
 case' k19=>
  rintro rfl
  have hv2:=hv
  rw [valid_19] at hv2
  obtain ⟨hok,hx, -, -⟩:=split4 hv2
  have hx:=of_decide_eq_true hx
  simp only [XI.mk.injEq,true_and,and_true] at hx
  obtain ⟨rfl,rfl,rfl,rfl,rfl,ed,es,rfl,rfl,rfl⟩:=hx
  obtain rfl:d=0:=by omega
  clear ed
  obtain rfl:s=0:=by omega
  clear es
  clear hv2 hok hk
  have HT:Hid (encodeM ⟨19,0,0,0,false,false,((0:Nat):Int),((0:Nat):Int),0,0,0⟩=some [byteM 195]):=Lib.hid ((renc_19 hv).trans (by rfl))
  clear hE0 lE0
  go_wp2_with (first
   |(go_at_call 47;(with_reducible refine ((rb1 195 _:Calls prog 47 #[.slice (some ⟨_,0,none⟩) 1 1] (World.alloc _ (.cells #[.int .i64 195] 3)) fun e w'=>e= .returned (.string (bA' [byteM 195]))∧Fr No _ w')).mono ?_);rintro e w9 ⟨rfl,hf9⟩;replace HL:=Lib.hid (And.intro (HL.out.1.trans hf9) (HL.out.2.fr hf9 id));clear c0 c1 c2 c3 c4 c5 c6 c7 c8 c9 c10;obtain ⟨c0,c1,c2,c3,c4,c5,c6,c7,c8,c9,c10⟩:=XI.at HL.out.2.cells;clear hf9)
   |fail)
  go_ret2
  exact ⟨by unfold encV;rw [HT.out];rfl,HL.out.1⟩
 case' k20=>
  rintro rfl
  have hv2:=hv
  rw [valid_20] at hv2
  obtain ⟨hok,hx, -, -⟩:=split4 hv2
  have hx:=of_decide_eq_true hx
  simp only [XI.mk.injEq,true_and,and_true] at hx
  obtain ⟨rfl,rfl,rfl,rfl,rfl,ed,es,rfl,rfl⟩:=hx
  obtain rfl:d=0:=by omega
  clear ed
  obtain rfl:s=0:=by omega
  clear es
  clear hv2 hok hk
  obtain ⟨P0,h0,H0⟩:=rel_pk ⟨20,0,0,0,false,false,0,0,0,rl,0⟩ [] [byteM 232] (by simp) (by simp)
  have HT:Hid (encodeM ⟨20,0,0,0,false,false,((0:Nat):Int),((0:Nat):Int),0,rl,0⟩=some P0):=Lib.hid ((renc_20 rl hv).trans (by rw [h0]))
  have H0:=Lib.hid H0
  clear hE0 lE0 h0
  go_upto_region 55 with fail
  refine wp_then_of ?_
  intro KK hKK
  go_cut [2,3] from 311 to 314 (fun s2 s3 wx=>s2= .string (bA' P0)∧s3= .int .i64 0∧Hid (Fr No w wx))
  case first=>
   rename_i J K' hJ hK
   refine wp_calm [(1,ptr (w.heap.size) 0)] [some ((XI.mk 20 0 0 0 false false 0 0 0 rl 0).agg),none,some (.string (bA' [byteM 232])),some (.string (bA' P0)),some (.string (bA' P0)),some (.int .i64 0)] [(1, [232])] (by kernel_rfl) (by kernel_rfl) (by kernel_rfl) (by kernel_rfl) ⟨rfl,trivial⟩
    ⟨qW HL.out.2.cells (fun W h=>run_loadAt_mid W w.heap.size 0 48 (XI.mk 20 0 0 0 false false 0 0 0 rl 0).cells _ h underlying48 rfl (XI.info _)),qS 3,qB (hL:=rfl) (fun b W h=>rb_any _ b 0 _ _ W h rfl (Nat.le_of_ble_eq_true rfl)),qC H0.out,qR,qR,trivial⟩ fun V W' hV0 hV=>
    hK _ _ (Met.intro (hJ _ _ ⟨V 4,V 5,V 0,V 1,V 2,V 3,⟨hV0 4 _ (by decide) rfl,hV0 5 _ (by decide) rfl,Lib.hid (HL.out.1.trans hV)⟩,by kernel_rfl⟩))
  case' rest=>
  obtain ⟨rfl,rfl,HF⟩:=hcut
  rw [hKK]
  clear hKK
  dsimp only
 case' k21=>
  rintro rfl
  have hv2:=hv
  rw [valid_21] at hv2
  obtain ⟨hok,hx, -, -⟩:=split4 hv2
  have hx:=of_decide_eq_true hx
  simp only [XI.mk.injEq,true_and,and_true] at hx
  obtain ⟨rfl,rfl,rfl,rfl,rfl,ed,es,rfl,rfl,rfl⟩:=hx
  obtain rfl:d=0:=by omega
  clear ed
  obtain rfl:s=0:=by omega
  clear es
  clear hv2 hok hk
  have HT:Hid (encodeM ⟨21,0,0,0,false,false,((0:Nat):Int),((0:Nat):Int),0,0,0⟩=some [byteM 15,byteM 174,byteM 232]):=Lib.hid ((renc_21 hv).trans (by rfl))
  clear hE0 lE0
  go_wp2_with (first
   |(go_at_call 47;(with_reducible refine ((rb3 15 174 232 _:Calls prog 47 #[.slice (some ⟨_,0,none⟩) 3 3] (World.alloc _ (.cells #[.int .i64 15, .int .i64 174, .int .i64 232] 3)) fun e w'=>e= .returned (.string (bA' [byteM 15,byteM 174,byteM 232]))∧Fr No _ w')).mono ?_);rintro e w9 ⟨rfl,hf9⟩;replace HL:=Lib.hid (And.intro (HL.out.1.trans hf9) (HL.out.2.fr hf9 id));clear c0 c1 c2 c3 c4 c5 c6 c7 c8 c9 c10;obtain ⟨c0,c1,c2,c3,c4,c5,c6,c7,c8,c9,c10⟩:=XI.at HL.out.2.cells;clear hf9)
   |fail)
  go_ret2
  exact ⟨by unfold encV;rw [HT.out];rfl,HL.out.1⟩
 all_goals
  go_wp2_with fail
  go_ret2
  exact ⟨by unfold encV;rw [HT.out];rfl,HF.out⟩
theorem rencode_any(x:XI)(w):Calls prog 20 #[x.agg] w fun e w'=>e= .returned (encV x)∧Fr No w w':=by
 by_cases hv:validM x=true
 ·obtain ⟨d,s,e1,e2,hd,hs⟩:=valid_regs hv
  obtain ⟨k,a,c,z,wd,sh,dd,rr,dp,rl,im⟩:=x
  simp only at e1 e2
  subst e1 e2
  exact rencode_ok k a c z wd sh d s dp rl im w hd hs hv
 ·exact rencode_none x w (by simpa using hv)
end Go.Proofs.YtfmcmfiebehhiaaGreatDoor

