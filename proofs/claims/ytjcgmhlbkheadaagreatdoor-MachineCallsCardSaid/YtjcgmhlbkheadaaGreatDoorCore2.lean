/- package codec, plain: stores, jumps, what has no operands. package codec, plain: what is encoded is decoded. package codec, plain: whatever may be is encoded, and what is encoded is decoded. -/
import Derived.Test.YtjcgmhlbkheadaaGreatDoorCore1
set_option linter.all false
set_option linter.unusedVariables false
set_option linter.unusedSimpArgs false
set_option maxHeartbeats 4000000
namespace Go.Proofs.YtjcgmhlbkheadaaGreatDoor
open Go.RowKit
theorem tell_store{w:Bool}{d s:Nat}{z v:Int}{o:UInt8}(hd:d<16)(hs:s<16)(hv: -2147483648≤v∧v≤2147483647)
  (hz:(z=1∧o=0x88∧w=false)∨(z=2∧o=0x89∧w=false)∨(z=4∧o=0x89∧w=false)∨(z=8∧o=0x89∧w=true)):
  Tells (preL (decide (z=2)) (rexN w s d) (decide (z=1))++o::mrB 2 s d::(sibL d++bytesI v 4)) {XI.zero with kind:=14,size:=z,wide:=w,dst:=d,src:=s,disp:=v} 14:=by
 intro r
 obtain ⟨f1,f2,f3,f4⟩:=high_facts s hs d hd w (decide (z=1))
 obtain ⟨m1,m2,m3⟩:=mr_facts 2 (by decide) s hs d hd
 have h4:=read4 hv r
 have hsib:=sib_drop d (bytesI v 4++r)
 have e:preL (decide (z=2)) (rexN w s d) (decide (z=1))++o::mrB 2 s d::(sibL d++bytesI v 4)++r=preL (decide (z=2)) (rexN w s d) (decide (z=1))++o::(mrB 2 s d::(sibL d++(bytesI v 4++r))):=by simp
 rw [e]
 have hm:¬192≤(mrB 2 s d).toNat:=by omega
 generalize sibL d++(bytesI v 4++r)=T at*
 generalize bytesI v 4++r=Q at*
 generalize mrB 2 s d=M at*
 have hob:OpB o∧o≠0x0f:=by
  rcases hz with ⟨-,rfl, -⟩|⟨-,rfl, -⟩|⟨-,rfl, -⟩|⟨-,rfl, -⟩<;>(unfold OpB;decide)
 rw [cut_one f1 hob.1 hob.2]
 generalize highN (rexN w s d) (decide (z=1))=H at*
 have g1:H/4%2*8+M.toNat/8%8=s:=by rw [f3,m1];omega
 have g2:H%2*8+M.toNat%8=d:=by rw [f4,m2];omega
 simp only [List.drop_one] at hsib
 rcases hz with ⟨rfl,rfl,rfl⟩|⟨rfl,rfl,rfl⟩|⟨rfl,rfl,rfl⟩|⟨rfl,rfl,rfl⟩
 ·refine ⟨?_,by simp [kindOf]⟩
  simp [guessC,formsL,take_one,f2,g1,g2,XI.zero,sizeOfM]
  rw [hsib]
  exact h4
 ·refine ⟨?_,by simp [kindOf,take_one,hm]⟩
  simp [guessC,formsL,take_one,f2,g1,g2,XI.zero,sizeOfM]
  rw [hsib]
  exact h4
 ·refine ⟨?_,by simp [kindOf,take_one,hm]⟩
  simp [guessC,formsL,take_one,f2,g1,g2,XI.zero,sizeOfM]
  rw [hsib]
  exact h4
 ·refine ⟨?_,by simp [kindOf,take_one,hm]⟩
  simp [guessC,formsL,take_one,f2,g1,g2,XI.zero,sizeOfM]
  rw [hsib]
  exact h4
theorem cut_bare{o:UInt8}(ho:OpB o)(h0f:o≠0x0f)(R:List UInt8):cutM0 (o::R)=⟨false,0,false,o.toNat,R⟩:=cut_one (half:=false) (force:=false) (b:=0) (by decide) ho h0f R
theorem cut_bare2{o:UInt8}(R:List UInt8):cutM0 (0x0f::o::R)=⟨false,0,true,o.toNat,R⟩:=cut_two (half:=false) (force:=false) (b:=0) (by decide) R
theorem tell_jmp_short{v:Int}(hv: -128≤v∧v≤127):Tells (0xeb::bytesI v 1) {XI.zero with kind:=15,short:=true,rel:=v} 15:=by
 intro r
 rw [show (0xeb::bytesI v 1)++r=0xeb::(bytesI v 1++r) from rfl,cut_bare (by unfold OpB;decide) (by decide)]
 refine ⟨?_,by simp [kindOf]⟩
 simp [guessC,formsL,XI.zero,read1 hv]
theorem tell_jmp_long{v:Int}(hv: -2147483648≤v∧v≤2147483647):Tells (0xe9::bytesI v 4) {XI.zero with kind:=15,short:=false,rel:=v} 15:=by
 intro r
 rw [show (0xe9::bytesI v 4)++r=0xe9::(bytesI v 4++r) from rfl,cut_bare (by unfold OpB;decide) (by decide)]
 refine ⟨?_,by simp [kindOf]⟩
 simp [guessC,formsL,XI.zero,read4 hv]
theorem tell_call{v:Int}(hv: -2147483648≤v∧v≤2147483647):Tells (0xe8::bytesI v 4) {XI.zero with kind:=20,rel:=v} 20:=by
 intro r
 rw [show (0xe8::bytesI v 4)++r=0xe8::(bytesI v 4++r) from rfl,cut_bare (by unfold OpB;decide) (by decide)]
 refine ⟨?_,by simp [kindOf]⟩
 simp [guessC,formsL,XI.zero,read4 hv]
theorem op_jcc:∀c:Nat,c<16→OpB (UInt8.ofNat (0x70+c))∧UInt8.ofNat (0x70+c)≠0x0f∧(UInt8.ofNat (0x70+c)).toNat=0x70+c∧(UInt8.ofNat (0x80+c)).toNat=0x80+c:=by
 unfold OpB
 decide+kernel
theorem tell_jcc_short{c:Nat}{v:Int}(hc:c<16)(hv: -128≤v∧v≤127):Tells (UInt8.ofNat (0x70+c)::bytesI v 1) {XI.zero with kind:=16,cond:=c,short:=true,rel:=v} 16:=by
 intro r
 obtain ⟨o1,o2,o3,o4⟩:=op_jcc c hc
 rw [show (UInt8.ofNat (0x70+c)::bytesI v 1)++r=UInt8.ofNat (0x70+c)::(bytesI v 1++r) from rfl,cut_bare o1 o2]
 refine ⟨?_,?_⟩
 ·simp [guessC,formsL,XI.zero,read1 hv,o3]
  omega
 ·unfold kindOf
  simp only [o3,Bool.false_eq_true,if_false]
  rw [if_neg (by omega),if_neg (by omega),if_neg (by omega),if_neg (by omega),if_neg (by omega),if_neg (by omega),if_neg (by omega),if_neg (by omega),if_neg (by omega),if_neg (by omega),if_neg (by omega),if_neg (by omega),if_pos (by omega)]
theorem tell_jcc_long{c:Nat}{v:Int}(hc:c<16)(hv: -2147483648≤v∧v≤2147483647):Tells (0x0f::UInt8.ofNat (0x80+c)::bytesI v 4) {XI.zero with kind:=16,cond:=c,short:=false,rel:=v} 16:=by
 intro r
 obtain ⟨o1,o2,o3,o4⟩:=op_jcc c hc
 rw [show (0x0f::UInt8.ofNat (0x80+c)::bytesI v 4)++r=0x0f::UInt8.ofNat (0x80+c)::(bytesI v 4++r) from rfl,cut_bare2]
 refine ⟨?_,?_⟩
 ·simp [guessC,formsL,XI.zero,read4 hv,o4]
  omega
 ·unfold kindOf
  simp only [o4,if_true]
  rw [if_neg (by omega),if_neg (by omega),if_neg (by omega),if_pos (by omega)]
theorem tell_ret:Tells [0xc3] {XI.zero with kind:=19} 19:=by
 intro r
 rw [show [0xc3]++r=0xc3::r from rfl,cut_bare (by unfold OpB;decide) (by decide)]
 refine ⟨?_,by simp [kindOf]⟩
 simp [guessC,formsL,XI.zero]
theorem tell_fence:Tells [0x0f,0xae,0xe8] {XI.zero with kind:=21} 21:=by
 intro r
 rw [show [0x0f,0xae,0xe8]++r=0x0f::0xae::(0xe8::r) from rfl,cut_bare2]
 refine ⟨?_,by simp [kindOf]⟩
 simp [guessC,XI.zero]
theorem rexM_plain(x:XI){mid fin:Nat}(hm:mid<16)(hf:fin<16)(hk:x.kind≠14):rexM x (mid:Int) (fin:Int)=preL false (rexN x.wide mid fin) false:=by
 have h:=rexM_eq x hm hf false
 rw [show decide (x.kind=14∧x.size=1)=false from decide_eq_false (fun h=>hk h.1)] at h
 simpa using h
theorem rexM_bare(x:XI)(hk:x.kind≠14)(hw:x.wide=false):rexM x 0 0= []:=by
 have h:=rexM_plain x (mid:=0) (fin:=0) (by decide) (by decide) hk
 rw [hw] at h
 exact h
structure MayX(y:XI)(f:FI):Prop where
 used:y=usedM y f
 dst:0≤y.dst∧y.dst≤15
 src:0≤y.src∧y.src≤15
 wide:f.wide=true→y.wide=true
 narrow:f.narrow=true→y.wide=false
 num:numberM y f=true
theorem valid_may{y:XI}(h:validM y=true):∃k:Nat,1≤k∧k<22∧y.kind=(k:Int)∧MayX y (formM y.kind):=by
 unfold validM at h
 split at h
 ·cases h
 ·rename_i hk
  simp only at h
  split at h
  ·cases h
  ·rename_i hc
   simp only [not_or] at hc
   obtain ⟨h1,h2,h3,h4,h5,h6,h7,h8⟩:=hc
   refine ⟨y.kind.toNat,by omega,by omega,by omega,⟨Classical.not_not.1 h1,by omega,by omega,fun e=> ?_,fun e=> ?_,?_⟩⟩
   ·cases hw:y.wide with
    |true=>rfl
    |false=>exact absurd ⟨e,hw⟩ h6
   ·cases hw:y.wide with
    |false=>rfl
    |true=>exact absurd ⟨e,hw⟩ h7
   ·cases hn:numberM y (formM y.kind) with
    |true=>rfl
    |false=>exact absurd hn h8
def EncT(y:XI):Prop:=∃t,encodeM y=some t∧Tells t y y.kind.toNat
theorem enc_open{y:XI}(h:validM y=true):encodeM y=some ((if y.kind=14∧y.size=2 then [0x66] else [])++rexM y (operandsM y (formM y.kind)).2.1 (operandsM y (formM y.kind)).2.2++opcodeM y++(operandsM y (formM y.kind)).1++bytesI y.imm (formM y.kind).imm):=by
 unfold encodeM
 rw [if_neg (by rw [h];simp)]
theorem bytesI_zero(v:Int):bytesI v 0= []:=rfl
theorem form_at(k:Nat):formM (k:Int)=formsL.getD k FI.none:=by unfold formM;rw [Int.toNat_natCast]
theorem MayX.regs{y:XI}{f:FI}(h:MayX y f):∃d s:Nat,d<16∧s<16∧y.dst=(d:Int)∧y.src=(s:Int):=
 ⟨y.dst.toNat,y.src.toNat,by have:=h.dst;omega,by have:=h.src;omega,by have:=h.dst;omega,by have:=h.src;omega⟩
theorem op_alu:∀n:Nat,n<8→OpB (UInt8.ofNat (8*n+1))∧UInt8.ofNat (8*n+1)≠0x0f∧byteM (8*(n:Int)+1)=UInt8.ofNat (8*n+1):=by
 unfold OpB
 decide+kernel
theorem byte_plus:∀d:Nat,d<16→byteM (0xb8+(d:Int)%8)=UInt8.ofNat (0xb8+d%8)∧byteM (0x50+(d:Int)%8)=UInt8.ofNat (0x50+d%8)∧byteM (0x58+(d:Int)%8)=UInt8.ofNat (0x58+d%8):=by decide+kernel
theorem byte_jcc:∀c:Nat,c<16→byteM (0x70+(c:Int))=UInt8.ofNat (0x70+c)∧byteM (0x80+(c:Int))=UInt8.ofNat (0x80+c):=by decide+kernel
theorem sib_eq(n:Nat):(if ((n:Int)%8=4) then ([0x24]:List UInt8) else [])=sibL n:=by
 unfold sibL
 by_cases h:n%8=4
 ·rw [if_pos (by omega),if_pos h]
 ·rw [if_neg (by omega),if_neg h]
theorem enc_mov{w:Bool}{d s:Nat}(hd:d<16)(hs:s<16)(h:validM {XI.zero with kind:=1,wide:=w,dst:=d,src:=s}=true):EncT {XI.zero with kind:=1,wide:=w,dst:=d,src:=s}:=by
 have he:=enc_open h
 have hx:=rexM_plain {XI.zero with kind:=1,wide:=w,dst:=d,src:=s} (mid:=s) (fin:=d) (by first|assumption|decide) (by first|assumption|decide) (by show (1:Int)≠14;decide)
 simp [formM,formsL,operandsM,opcodeM,bytesI_zero,XI.zero] at he hx
 have hmr:modrmM 3 (s:Int) (d:Int)= [mrB 3 s d]:=modrm_eq (mode:=3) (mid:=s) (fin:=d) (by decide)
 rw [hx,hmr] at he
 refine ⟨_,he,?_⟩
 have:=tell_both (k:=1) (w:=w) hd hs (o:=0x89) (a:=0) (by unfold OpB;decide) (by decide) (.inl ⟨rfl,rfl,rfl⟩)
 simpa [XI.zero,bytesI_zero] using this
theorem enc_test{w:Bool}{d s:Nat}(hd:d<16)(hs:s<16)(h:validM {XI.zero with kind:=6,wide:=w,dst:=d,src:=s}=true):EncT {XI.zero with kind:=6,wide:=w,dst:=d,src:=s}:=by
 have he:=enc_open h
 have hx:=rexM_plain {XI.zero with kind:=6,wide:=w,dst:=d,src:=s} (mid:=s) (fin:=d) (by first|assumption|decide) (by first|assumption|decide) (by show (6:Int)≠14;decide)
 simp [formM,formsL,operandsM,opcodeM,bytesI_zero,XI.zero] at he hx
 have hmr:modrmM 3 (s:Int) (d:Int)= [mrB 3 s d]:=modrm_eq (mode:=3) (mid:=s) (fin:=d) (by decide)
 rw [hx,hmr] at he
 refine ⟨_,he,?_⟩
 have:=tell_both (k:=6) (w:=w) hd hs (o:=0x85) (a:=0) (by unfold OpB;decide) (by decide) (.inr (.inl ⟨rfl,rfl,rfl⟩))
 simpa [XI.zero,bytesI_zero] using this
theorem enc_alu{w:Bool}{d s n:Nat}(hd:d<16)(hs:s<16)(hn:n<8)(h:validM {XI.zero with kind:=4,alu:=n,wide:=w,dst:=d,src:=s}=true):EncT {XI.zero with kind:=4,alu:=n,wide:=w,dst:=d,src:=s}:=by
 have he:=enc_open h
 have hx:=rexM_plain {XI.zero with kind:=4,alu:=n,wide:=w,dst:=d,src:=s} (mid:=s) (fin:=d) (by first|assumption|decide) (by first|assumption|decide) (by show (4:Int)≠14;decide)
 obtain ⟨o1,o2,o3⟩:=op_alu n hn
 simp [formM,formsL,operandsM,opcodeM,bytesI_zero,XI.zero] at he hx
 have hmr:modrmM 3 (s:Int) (d:Int)= [mrB 3 s d]:=modrm_eq (mode:=3) (mid:=s) (fin:=d) (by decide)
 rw [hx,hmr,o3] at he
 refine ⟨_,he,?_⟩
 have:=tell_both (k:=4) (w:=w) hd hs (o:=UInt8.ofNat (8*n+1)) (a:=n) o1 o2 (.inr (.inr ⟨rfl,n,hn,rfl,rfl⟩))
 simpa [XI.zero,bytesI_zero] using this
theorem enc_imul{w:Bool}{d s:Nat}(hd:d<16)(hs:s<16)(h:validM {XI.zero with kind:=10,wide:=w,dst:=d,src:=s}=true):EncT {XI.zero with kind:=10,wide:=w,dst:=d,src:=s}:=by
 have he:=enc_open h
 have hx:=rexM_plain {XI.zero with kind:=10,wide:=w,dst:=d,src:=s} (mid:=d) (fin:=s) (by first|assumption|decide) (by first|assumption|decide) (by show (10:Int)≠14;decide)
 simp [formM,formsL,operandsM,opcodeM,bytesI_zero,XI.zero] at he hx
 have hmr:modrmM 3 (d:Int) (s:Int)= [mrB 3 d s]:=modrm_eq (mode:=3) (mid:=d) (fin:=s) (by decide)
 rw [hx,hmr] at he
 refine ⟨_,he,?_⟩
 have:=tell_turned (w:=w) hd hs
 simpa [XI.zero,bytesI_zero] using this
theorem enc_imm{d:Nat}{v:Int}(hd:d<16)(hv: -2147483648≤v∧v≤2147483647)(h:validM {XI.zero with kind:=2,wide:=true,dst:=d,imm:=v}=true):EncT {XI.zero with kind:=2,wide:=true,dst:=d,imm:=v}:=by
 have he:=enc_open h
 have hx:=rexM_plain {XI.zero with kind:=2,wide:=true,dst:=d,imm:=v} (mid:=0) (fin:=d) (by first|assumption|decide) (by first|assumption|decide) (by show (2:Int)≠14;decide)
 simp [formM,formsL,operandsM,opcodeM,bytesI_zero,XI.zero] at he hx
 have hmr:modrmM 3 (0:Int) (d:Int)= [mrB 3 0 d]:=modrm_eq (mode:=3) (mid:=0) (fin:=d) (by decide)
 rw [hx,hmr] at he
 refine ⟨_,he,?_⟩
 have:=tell_digit (k:=2) (w:=true) (g:=0) (v:=v) (n:=4) hd (by decide) (o:=0xc7) (a:=0) (by unfold OpB;decide) (by decide) (.inl ⟨rfl,rfl,rfl,rfl⟩) ⟨fun h=>absurd h (by decide),fun h=>absurd h (by decide),fun _=>hv⟩
 simpa [XI.zero,bytesI_zero] using this
theorem enc_aluimm{w:Bool}{d g:Nat}{v:Int}(hd:d<16)(hg:g<8)(hv: -2147483648≤v∧v≤2147483647)(h:validM {XI.zero with kind:=5,alu:=g,wide:=w,dst:=d,imm:=v}=true):EncT {XI.zero with kind:=5,alu:=g,wide:=w,dst:=d,imm:=v}:=by
 have he:=enc_open h
 have hx:=rexM_plain {XI.zero with kind:=5,alu:=g,wide:=w,dst:=d,imm:=v} (mid:=0) (fin:=d) (by first|assumption|decide) (by first|assumption|decide) (by show (5:Int)≠14;decide)
 simp [formM,formsL,operandsM,opcodeM,bytesI_zero,XI.zero] at he hx
 have hmr:modrmM 3 (g:Int) (d:Int)= [mrB 3 g d]:=modrm_eq (mode:=3) (mid:=g) (fin:=d) (by decide)
 rw [hx,hmr] at he
 refine ⟨_,he,?_⟩
 have:=tell_digit (k:=5) (w:=w) (g:=g) (v:=v) (n:=4) hd hg (o:=0x81) (a:=g) (by unfold OpB;decide) (by decide) (.inr (.inl ⟨rfl,rfl,rfl,rfl⟩)) ⟨fun h=>absurd h (by decide),fun h=>absurd h (by decide),fun _=>hv⟩
 simpa [XI.zero,bytesI_zero] using this
theorem enc_neg{w:Bool}{d:Nat}(hd:d<16)(h:validM {XI.zero with kind:=7,wide:=w,dst:=d}=true):EncT {XI.zero with kind:=7,wide:=w,dst:=d}:=by
 have he:=enc_open h
 have hx:=rexM_plain {XI.zero with kind:=7,wide:=w,dst:=d} (mid:=0) (fin:=d) (by first|assumption|decide) (by first|assumption|decide) (by show (7:Int)≠14;decide)
 simp [formM,formsL,operandsM,opcodeM,bytesI_zero,XI.zero] at he hx
 have hmr:modrmM 3 (3:Int) (d:Int)= [mrB 3 3 d]:=modrm_eq (mode:=3) (mid:=3) (fin:=d) (by decide)
 rw [hx,hmr] at he
 refine ⟨_,he,?_⟩
 have:=tell_digit (k:=7) (w:=w) (g:=3) (v:=0) (n:=0) hd (by decide) (o:=0xf7) (a:=0) (by unfold OpB;decide) (by decide) (.inr (.inr (.inl ⟨rfl,rfl,rfl,rfl,rfl⟩))) ⟨fun _=>rfl,fun h=>absurd h (by decide),fun h=>absurd h (by decide)⟩
 simpa [XI.zero,bytesI_zero] using this
theorem enc_mul{w:Bool}{d:Nat}(hd:d<16)(h:validM {XI.zero with kind:=8,wide:=w,dst:=d}=true):EncT {XI.zero with kind:=8,wide:=w,dst:=d}:=by
 have he:=enc_open h
 have hx:=rexM_plain {XI.zero with kind:=8,wide:=w,dst:=d} (mid:=0) (fin:=d) (by first|assumption|decide) (by first|assumption|decide) (by show (8:Int)≠14;decide)
 simp [formM,formsL,operandsM,opcodeM,bytesI_zero,XI.zero] at he hx
 have hmr:modrmM 3 (4:Int) (d:Int)= [mrB 3 4 d]:=modrm_eq (mode:=3) (mid:=4) (fin:=d) (by decide)
 rw [hx,hmr] at he
 refine ⟨_,he,?_⟩
 have:=tell_digit (k:=8) (w:=w) (g:=4) (v:=0) (n:=0) hd (by decide) (o:=0xf7) (a:=0) (by unfold OpB;decide) (by decide) (.inr (.inr (.inr (.inl ⟨rfl,rfl,rfl,rfl,rfl⟩)))) ⟨fun _=>rfl,fun h=>absurd h (by decide),fun h=>absurd h (by decide)⟩
 simpa [XI.zero,bytesI_zero] using this
theorem enc_div{w:Bool}{d:Nat}(hd:d<16)(h:validM {XI.zero with kind:=9,wide:=w,dst:=d}=true):EncT {XI.zero with kind:=9,wide:=w,dst:=d}:=by
 have he:=enc_open h
 have hx:=rexM_plain {XI.zero with kind:=9,wide:=w,dst:=d} (mid:=0) (fin:=d) (by first|assumption|decide) (by first|assumption|decide) (by show (9:Int)≠14;decide)
 simp [formM,formsL,operandsM,opcodeM,bytesI_zero,XI.zero] at he hx
 have hmr:modrmM 3 (6:Int) (d:Int)= [mrB 3 6 d]:=modrm_eq (mode:=3) (mid:=6) (fin:=d) (by decide)
 rw [hx,hmr] at he
 refine ⟨_,he,?_⟩
 have:=tell_digit (k:=9) (w:=w) (g:=6) (v:=0) (n:=0) hd (by decide) (o:=0xf7) (a:=0) (by unfold OpB;decide) (by decide) (.inr (.inr (.inr (.inr (.inl ⟨rfl,rfl,rfl,rfl,rfl⟩))))) ⟨fun _=>rfl,fun h=>absurd h (by decide),fun h=>absurd h (by decide)⟩
 simpa [XI.zero,bytesI_zero] using this
theorem enc_shift{w:Bool}{d g:Nat}{v:Int}(hd:d<16)(hg:g<8)(hv: -128≤v∧v≤127)(h:validM {XI.zero with kind:=11,alu:=g,wide:=w,dst:=d,imm:=v}=true):EncT {XI.zero with kind:=11,alu:=g,wide:=w,dst:=d,imm:=v}:=by
 have he:=enc_open h
 have hx:=rexM_plain {XI.zero with kind:=11,alu:=g,wide:=w,dst:=d,imm:=v} (mid:=0) (fin:=d) (by first|assumption|decide) (by first|assumption|decide) (by show (11:Int)≠14;decide)
 simp [formM,formsL,operandsM,opcodeM,bytesI_zero,XI.zero] at he hx
 have hmr:modrmM 3 (g:Int) (d:Int)= [mrB 3 g d]:=modrm_eq (mode:=3) (mid:=g) (fin:=d) (by decide)
 rw [hx,hmr] at he
 refine ⟨_,he,?_⟩
 have:=tell_digit (k:=11) (w:=w) (g:=g) (v:=v) (n:=1) hd hg (o:=0xc1) (a:=g) (by unfold OpB;decide) (by decide) (.inr (.inr (.inr (.inr (.inr (.inl ⟨rfl,rfl,rfl,rfl⟩)))))) ⟨fun h=>absurd h (by decide),fun _=>hv,fun h=>absurd h (by decide)⟩
 simpa [XI.zero,bytesI_zero] using this
theorem enc_shiftcl{w:Bool}{d g:Nat}(hd:d<16)(hg:g<8)(h:validM {XI.zero with kind:=12,alu:=g,wide:=w,dst:=d}=true):EncT {XI.zero with kind:=12,alu:=g,wide:=w,dst:=d}:=by
 have he:=enc_open h
 have hx:=rexM_plain {XI.zero with kind:=12,alu:=g,wide:=w,dst:=d} (mid:=0) (fin:=d) (by first|assumption|decide) (by first|assumption|decide) (by show (12:Int)≠14;decide)
 simp [formM,formsL,operandsM,opcodeM,bytesI_zero,XI.zero] at he hx
 have hmr:modrmM 3 (g:Int) (d:Int)= [mrB 3 g d]:=modrm_eq (mode:=3) (mid:=g) (fin:=d) (by decide)
 rw [hx,hmr] at he
 refine ⟨_,he,?_⟩
 have:=tell_digit (k:=12) (w:=w) (g:=g) (v:=0) (n:=0) hd hg (o:=0xd3) (a:=g) (by unfold OpB;decide) (by decide) (.inr (.inr (.inr (.inr (.inr (.inr ⟨rfl,rfl,rfl,rfl⟩)))))) ⟨fun _=>rfl,fun h=>absurd h (by decide),fun h=>absurd h (by decide)⟩
 simpa [XI.zero,bytesI_zero] using this
theorem enc_abs{d:Nat}{v:Int}(hd:d<16)(hv: -9223372036854775808≤v∧v≤9223372036854775807)(h:validM {XI.zero with kind:=3,wide:=true,dst:=d,imm:=v}=true):EncT {XI.zero with kind:=3,wide:=true,dst:=d,imm:=v}:=by
 have he:=enc_open h
 have hx:=rexM_plain {XI.zero with kind:=3,wide:=true,dst:=d,imm:=v} (mid:=0) (fin:=d) (by first|assumption|decide) (by first|assumption|decide) (by show (3:Int)≠14;decide)
 obtain ⟨b1,b2,b3⟩:=byte_plus d hd
 simp [formM,formsL,operandsM,opcodeM,bytesI_zero,XI.zero] at he hx
 rw [hx,b1] at he
 refine ⟨_,he,?_⟩
 have:=tell_plus (k:=3) (w:=true) (d:=d) (base:=0xb8) (v:=v) (n:=8) hd (.inl ⟨rfl,rfl,rfl⟩) ⟨fun h=>absurd h (by decide),fun _=>hv⟩
 simpa [XI.zero,bytesI_zero] using this
theorem enc_push{d:Nat}(hd:d<16)(h:validM {XI.zero with kind:=17,dst:=d}=true):EncT {XI.zero with kind:=17,dst:=d}:=by
 have he:=enc_open h
 have hx:=rexM_plain {XI.zero with kind:=17,dst:=d} (mid:=0) (fin:=d) (by first|assumption|decide) (by first|assumption|decide) (by show (17:Int)≠14;decide)
 obtain ⟨b1,b2,b3⟩:=byte_plus d hd
 simp [formM,formsL,operandsM,opcodeM,bytesI_zero,XI.zero] at he hx
 rw [hx,b2] at he
 refine ⟨_,he,?_⟩
 have:=tell_plus (k:=17) (w:=false) (d:=d) (base:=0x50) (v:=0) (n:=0) hd (.inr (.inl ⟨rfl,rfl,rfl⟩)) ⟨fun _=>rfl,fun h=>absurd h (by decide)⟩
 simpa [XI.zero,bytesI_zero] using this
theorem enc_pop{d:Nat}(hd:d<16)(h:validM {XI.zero with kind:=18,dst:=d}=true):EncT {XI.zero with kind:=18,dst:=d}:=by
 have he:=enc_open h
 have hx:=rexM_plain {XI.zero with kind:=18,dst:=d} (mid:=0) (fin:=d) (by first|assumption|decide) (by first|assumption|decide) (by show (18:Int)≠14;decide)
 obtain ⟨b1,b2,b3⟩:=byte_plus d hd
 simp [formM,formsL,operandsM,opcodeM,bytesI_zero,XI.zero] at he hx
 rw [hx,b3] at he
 refine ⟨_,he,?_⟩
 have:=tell_plus (k:=18) (w:=false) (d:=d) (base:=0x58) (v:=0) (n:=0) hd (.inr (.inr ⟨rfl,rfl,rfl⟩)) ⟨fun _=>rfl,fun h=>absurd h (by decide)⟩
 simpa [XI.zero,bytesI_zero] using this
theorem enc_load1{d s:Nat}{v:Int}(hd:d<16)(hs:s<16)(hv: -2147483648≤v∧v≤2147483647)(h:validM {XI.zero with kind:=13,size:=1,wide:=false,dst:=d,src:=s,disp:=v}=true):EncT {XI.zero with kind:=13,size:=1,wide:=false,dst:=d,src:=s,disp:=v}:=by
 have he:=enc_open h
 have hx:=rexM_plain {XI.zero with kind:=13,size:=1,wide:=false,dst:=d,src:=s,disp:=v} (mid:=d) (fin:=s) (by first|assumption|decide) (by first|assumption|decide) (by show (13:Int)≠14;decide)
 have hsb:=sib_eq s
 simp [formM,formsL,operandsM,opcodeM,loadsM,bytesI_zero,XI.zero] at he hx
 have hmr:modrmM 2 (d:Int) (s:Int)= [mrB 2 d s]:=modrm_eq (mode:=2) (mid:=d) (fin:=s) (by decide)
 rw [hx,hmr,hsb] at he
 refine ⟨_,he,?_⟩
 have:=tell_load (w:=false) (d:=d) (s:=s) (z:=1) (v:=v) (ops:= [0x0f,0xb6]) hd hs hv (.inl ⟨rfl,rfl,rfl⟩)
 simpa [XI.zero,bytesI_zero] using this
theorem enc_load2{d s:Nat}{v:Int}(hd:d<16)(hs:s<16)(hv: -2147483648≤v∧v≤2147483647)(h:validM {XI.zero with kind:=13,size:=2,wide:=false,dst:=d,src:=s,disp:=v}=true):EncT {XI.zero with kind:=13,size:=2,wide:=false,dst:=d,src:=s,disp:=v}:=by
 have he:=enc_open h
 have hx:=rexM_plain {XI.zero with kind:=13,size:=2,wide:=false,dst:=d,src:=s,disp:=v} (mid:=d) (fin:=s) (by first|assumption|decide) (by first|assumption|decide) (by show (13:Int)≠14;decide)
 have hsb:=sib_eq s
 simp [formM,formsL,operandsM,opcodeM,loadsM,bytesI_zero,XI.zero] at he hx
 have hmr:modrmM 2 (d:Int) (s:Int)= [mrB 2 d s]:=modrm_eq (mode:=2) (mid:=d) (fin:=s) (by decide)
 rw [hx,hmr,hsb] at he
 refine ⟨_,he,?_⟩
 have:=tell_load (w:=false) (d:=d) (s:=s) (z:=2) (v:=v) (ops:= [0x0f,0xb7]) hd hs hv (.inr (.inl ⟨rfl,rfl,rfl⟩))
 simpa [XI.zero,bytesI_zero] using this
theorem enc_load4{d s:Nat}{v:Int}(hd:d<16)(hs:s<16)(hv: -2147483648≤v∧v≤2147483647)(h:validM {XI.zero with kind:=13,size:=4,wide:=false,dst:=d,src:=s,disp:=v}=true):EncT {XI.zero with kind:=13,size:=4,wide:=false,dst:=d,src:=s,disp:=v}:=by
 have he:=enc_open h
 have hx:=rexM_plain {XI.zero with kind:=13,size:=4,wide:=false,dst:=d,src:=s,disp:=v} (mid:=d) (fin:=s) (by first|assumption|decide) (by first|assumption|decide) (by show (13:Int)≠14;decide)
 have hsb:=sib_eq s
 simp [formM,formsL,operandsM,opcodeM,loadsM,bytesI_zero,XI.zero] at he hx
 have hmr:modrmM 2 (d:Int) (s:Int)= [mrB 2 d s]:=modrm_eq (mode:=2) (mid:=d) (fin:=s) (by decide)
 rw [hx,hmr,hsb] at he
 refine ⟨_,he,?_⟩
 have:=tell_load (w:=false) (d:=d) (s:=s) (z:=4) (v:=v) (ops:= [0x8b]) hd hs hv (.inr (.inr (.inl ⟨rfl,rfl,rfl⟩)))
 simpa [XI.zero,bytesI_zero] using this
theorem enc_load8{d s:Nat}{v:Int}(hd:d<16)(hs:s<16)(hv: -2147483648≤v∧v≤2147483647)(h:validM {XI.zero with kind:=13,size:=8,wide:=true,dst:=d,src:=s,disp:=v}=true):EncT {XI.zero with kind:=13,size:=8,wide:=true,dst:=d,src:=s,disp:=v}:=by
 have he:=enc_open h
 have hx:=rexM_plain {XI.zero with kind:=13,size:=8,wide:=true,dst:=d,src:=s,disp:=v} (mid:=d) (fin:=s) (by first|assumption|decide) (by first|assumption|decide) (by show (13:Int)≠14;decide)
 have hsb:=sib_eq s
 simp [formM,formsL,operandsM,opcodeM,loadsM,bytesI_zero,XI.zero] at he hx
 have hmr:modrmM 2 (d:Int) (s:Int)= [mrB 2 d s]:=modrm_eq (mode:=2) (mid:=d) (fin:=s) (by decide)
 rw [hx,hmr,hsb] at he
 refine ⟨_,he,?_⟩
 have:=tell_load (w:=true) (d:=d) (s:=s) (z:=8) (v:=v) (ops:= [0x8b]) hd hs hv (.inr (.inr (.inr ⟨rfl,rfl,rfl⟩)))
 simpa [XI.zero,bytesI_zero] using this
theorem enc_store1{d s:Nat}{v:Int}(hd:d<16)(hs:s<16)(hv: -2147483648≤v∧v≤2147483647)(h:validM {XI.zero with kind:=14,size:=1,wide:=false,dst:=d,src:=s,disp:=v}=true):EncT {XI.zero with kind:=14,size:=1,wide:=false,dst:=d,src:=s,disp:=v}:=by
 have he:=enc_open h
 have hx:=rexM_eq {XI.zero with kind:=14,size:=1,wide:=false,dst:=d,src:=s,disp:=v} (mid:=s) (fin:=d) hs hd false
 have hsb:=sib_eq d
 simp [formM,formsL,operandsM,opcodeM,storesM,bytesI_zero,XI.zero] at he hx
 have hmr:modrmM 2 (s:Int) (d:Int)= [mrB 2 s d]:=modrm_eq (mode:=2) (mid:=s) (fin:=d) (by decide)
 rw [hmr,hsb] at he
 have:=tell_store (w:=false) (d:=d) (s:=s) (z:=1) (v:=v) (o:=0x88) hd hs hv (.inl ⟨rfl,rfl,rfl⟩)
 refine ⟨_,he,?_⟩
 simp [XI.zero] at this
 rw [←hx] at this
 simpa [XI.zero] using this
theorem enc_store2{d s:Nat}{v:Int}(hd:d<16)(hs:s<16)(hv: -2147483648≤v∧v≤2147483647)(h:validM {XI.zero with kind:=14,size:=2,wide:=false,dst:=d,src:=s,disp:=v}=true):EncT {XI.zero with kind:=14,size:=2,wide:=false,dst:=d,src:=s,disp:=v}:=by
 have he:=enc_open h
 have hx:=rexM_eq {XI.zero with kind:=14,size:=2,wide:=false,dst:=d,src:=s,disp:=v} (mid:=s) (fin:=d) hs hd true
 have hsb:=sib_eq d
 simp [formM,formsL,operandsM,opcodeM,storesM,bytesI_zero,XI.zero] at he hx
 have hmr:modrmM 2 (s:Int) (d:Int)= [mrB 2 s d]:=modrm_eq (mode:=2) (mid:=s) (fin:=d) (by decide)
 rw [hmr,hsb] at he
 have:=tell_store (w:=false) (d:=d) (s:=s) (z:=2) (v:=v) (o:=0x89) hd hs hv (.inr (.inl ⟨rfl,rfl,rfl⟩))
 refine ⟨_,he,?_⟩
 simp [XI.zero] at this
 rw [←hx] at this
 simpa [XI.zero] using this
theorem enc_store4{d s:Nat}{v:Int}(hd:d<16)(hs:s<16)(hv: -2147483648≤v∧v≤2147483647)(h:validM {XI.zero with kind:=14,size:=4,wide:=false,dst:=d,src:=s,disp:=v}=true):EncT {XI.zero with kind:=14,size:=4,wide:=false,dst:=d,src:=s,disp:=v}:=by
 have he:=enc_open h
 have hx:=rexM_eq {XI.zero with kind:=14,size:=4,wide:=false,dst:=d,src:=s,disp:=v} (mid:=s) (fin:=d) hs hd false
 have hsb:=sib_eq d
 simp [formM,formsL,operandsM,opcodeM,storesM,bytesI_zero,XI.zero] at he hx
 have hmr:modrmM 2 (s:Int) (d:Int)= [mrB 2 s d]:=modrm_eq (mode:=2) (mid:=s) (fin:=d) (by decide)
 rw [hmr,hsb] at he
 have:=tell_store (w:=false) (d:=d) (s:=s) (z:=4) (v:=v) (o:=0x89) hd hs hv (.inr (.inr (.inl ⟨rfl,rfl,rfl⟩)))
 refine ⟨_,he,?_⟩
 simp [XI.zero] at this
 rw [←hx] at this
 simpa [XI.zero] using this
theorem enc_store8{d s:Nat}{v:Int}(hd:d<16)(hs:s<16)(hv: -2147483648≤v∧v≤2147483647)(h:validM {XI.zero with kind:=14,size:=8,wide:=true,dst:=d,src:=s,disp:=v}=true):EncT {XI.zero with kind:=14,size:=8,wide:=true,dst:=d,src:=s,disp:=v}:=by
 have he:=enc_open h
 have hx:=rexM_eq {XI.zero with kind:=14,size:=8,wide:=true,dst:=d,src:=s,disp:=v} (mid:=s) (fin:=d) hs hd false
 have hsb:=sib_eq d
 simp [formM,formsL,operandsM,opcodeM,storesM,bytesI_zero,XI.zero] at he hx
 have hmr:modrmM 2 (s:Int) (d:Int)= [mrB 2 s d]:=modrm_eq (mode:=2) (mid:=s) (fin:=d) (by decide)
 rw [hmr,hsb] at he
 have:=tell_store (w:=true) (d:=d) (s:=s) (z:=8) (v:=v) (o:=0x89) hd hs hv (.inr (.inr (.inr ⟨rfl,rfl,rfl⟩)))
 refine ⟨_,he,?_⟩
 simp [XI.zero] at this
 rw [←hx] at this
 simpa [XI.zero] using this
theorem enc_jmps{v:Int}(hv: -128≤v∧v≤127)(h:validM {XI.zero with kind:=15,short:=true,rel:=v}=true):EncT {XI.zero with kind:=15,short:=true,rel:=v}:=by
 have he:=enc_open h
 have hx:=rexM_bare {XI.zero with kind:=15,short:=true,rel:=v} (by show (15:Int)≠14;decide) rfl
 simp [formM,formsL,operandsM,opcodeM,bytesI_zero,XI.zero] at he hx
 rw [hx] at he
 refine ⟨_,he,?_⟩
 have:=tell_jmp_short hv
 simpa [XI.zero,bytesI_zero] using this
theorem enc_jmpl{v:Int}(hv: -2147483648≤v∧v≤2147483647)(h:validM {XI.zero with kind:=15,short:=false,rel:=v}=true):EncT {XI.zero with kind:=15,short:=false,rel:=v}:=by
 have he:=enc_open h
 have hx:=rexM_bare {XI.zero with kind:=15,short:=false,rel:=v} (by show (15:Int)≠14;decide) rfl
 simp [formM,formsL,operandsM,opcodeM,bytesI_zero,XI.zero] at he hx
 rw [hx] at he
 refine ⟨_,he,?_⟩
 have:=tell_jmp_long hv
 simpa [XI.zero,bytesI_zero] using this
theorem enc_jccs{c:Nat}{v:Int}(hc:c<16)(hv: -128≤v∧v≤127)(h:validM {XI.zero with kind:=16,cond:=c,short:=true,rel:=v}=true):EncT {XI.zero with kind:=16,cond:=c,short:=true,rel:=v}:=by
 have he:=enc_open h
 have hx:=rexM_bare {XI.zero with kind:=16,cond:=c,short:=true,rel:=v} (by show (16:Int)≠14;decide) rfl
 obtain ⟨b1,b2⟩:=byte_jcc c hc
 simp [formM,formsL,operandsM,opcodeM,bytesI_zero,XI.zero] at he hx
 rw [hx,b1] at he
 refine ⟨_,he,?_⟩
 have:=tell_jcc_short hc hv
 simpa [XI.zero,bytesI_zero] using this
theorem enc_jccl{c:Nat}{v:Int}(hc:c<16)(hv: -2147483648≤v∧v≤2147483647)(h:validM {XI.zero with kind:=16,cond:=c,short:=false,rel:=v}=true):EncT {XI.zero with kind:=16,cond:=c,short:=false,rel:=v}:=by
 have he:=enc_open h
 have hx:=rexM_bare {XI.zero with kind:=16,cond:=c,short:=false,rel:=v} (by show (16:Int)≠14;decide) rfl
 obtain ⟨b1,b2⟩:=byte_jcc c hc
 simp [formM,formsL,operandsM,opcodeM,bytesI_zero,XI.zero] at he hx
 rw [hx,b2] at he
 refine ⟨_,he,?_⟩
 have:=tell_jcc_long hc hv
 simpa [XI.zero,bytesI_zero] using this
theorem enc_call{v:Int}(hv: -2147483648≤v∧v≤2147483647)(h:validM {XI.zero with kind:=20,rel:=v}=true):EncT {XI.zero with kind:=20,rel:=v}:=by
 have he:=enc_open h
 have hx:=rexM_bare {XI.zero with kind:=20,rel:=v} (by show (20:Int)≠14;decide) rfl
 simp [formM,formsL,operandsM,opcodeM,bytesI_zero,XI.zero] at he hx
 rw [hx] at he
 refine ⟨_,he,?_⟩
 have:=tell_call hv
 simpa [XI.zero,bytesI_zero] using this
theorem enc_ret(h:validM {XI.zero with kind:=19}=true):EncT {XI.zero with kind:=19}:=by
 have he:=enc_open h
 have hx:=rexM_bare {XI.zero with kind:=19} (by show (19:Int)≠14;decide) rfl
 simp [formM,formsL,operandsM,opcodeM,bytesI_zero,XI.zero] at he hx
 rw [hx] at he
 refine ⟨_,he,?_⟩
 have:=tell_ret
 simpa [XI.zero,bytesI_zero] using this
theorem enc_fence(h:validM {XI.zero with kind:=21}=true):EncT {XI.zero with kind:=21}:=by
 have he:=enc_open h
 have hx:=rexM_bare {XI.zero with kind:=21} (by show (21:Int)≠14;decide) rfl
 simp [formM,formsL,operandsM,opcodeM,bytesI_zero,XI.zero] at he hx
 rw [hx] at he
 refine ⟨_,he,?_⟩
 have:=tell_fence
 simpa [XI.zero,bytesI_zero] using this
theorem valid_rest{y:XI}(h:validM y=true):((formM y.kind).alu=1→∃n:Nat,n<8∧y.alu=(n:Int))∧((formM y.kind).alu=2→∃n:Nat,n<8∧y.alu=(n:Int))∧
  ((formM y.kind).alu=0→(formM y.kind).behind=5∨(formM y.kind).behind=6→(y.size=1∨y.size=2∨y.size=4∨y.size=8)∧y.wide=decide (y.size=8))∧
  ((formM y.kind).alu=0→(formM y.kind).behind≠5→(formM y.kind).behind≠6→(y.short=true→-128≤y.rel∧y.rel≤127)∧(y.kind=16→∃c:Nat,c<16∧y.cond=(c:Int))):=by
 have hcond:condsL.contains y.cond=true→∃c:Nat,c<16∧y.cond=(c:Int):=fun hc=>by
  have hm:=List.contains_iff_mem.1 hc
  refine ⟨y.cond.toNat,?_,?_⟩
  ·simp [condsL] at hm;omega
  ·simp [condsL] at hm;omega
 unfold validM at h
 split at h
 ·cases h
 ·simp only at h
  split at h
  ·cases h
  ·split at h
   ·rename_i ha
    refine ⟨fun _=> ?_,fun e=>by omega,fun e=>by omega,fun e=>by omega⟩
    simp only [Bool.or_eq_true,Bool.and_eq_true,decide_eq_true_eq] at h
    exact ⟨y.alu.toNat,by omega,by omega⟩
   ·rename_i ha1
    split at h
    ·rename_i ha2
     refine ⟨fun e=>by omega,fun _=> ?_,fun e=>by omega,fun e=>by omega⟩
     simp only [Bool.or_eq_true,decide_eq_true_eq] at h
     exact ⟨y.alu.toNat,by omega,by omega⟩
    ·rename_i ha2
     split at h
     ·rename_i hb
      refine ⟨fun e=>absurd e ha1,fun e=>absurd e ha2,fun _ _=> ?_,fun _ h5 h6=>by rcases hb with hb|hb;exact absurd hb h5;exact absurd hb h6⟩
      simp only [Bool.and_eq_true,beq_iff_eq] at h
      refine ⟨?_,h.2⟩
      by_cases z1:y.size=1
      ·exact .inl z1
      by_cases z2:y.size=2
      ·exact .inr (.inl z2)
      by_cases z4:y.size=4
      ·exact .inr (.inr (.inl z4))
      by_cases z8:y.size=8
      ·exact .inr (.inr (.inr z8))
      have:=h.1
      unfold loadsM at this
      rw [if_neg z1,if_neg z2,if_neg (fun h=>by rcases h with h|h;exact z4 h;exact z8 h)] at this
      simp at this
     ·rename_i hb
      refine ⟨fun e=>absurd e ha1,fun e=>absurd e ha2,fun _ h56=>absurd h56 hb,fun _ _ _=> ?_⟩
      split at h
      ·rename_i hs
       simp only [Bool.and_eq_true,Bool.or_eq_true,decide_eq_true_eq] at h
       exact ⟨fun _=>h.1,fun hk=>hcond (by rcases h.2 with h2|h2;omega;exact h2)⟩
      ·rename_i hs
       simp only [Bool.or_eq_true,decide_eq_true_eq] at h
       exact ⟨fun e=>absurd e hs,fun hk=>hcond (by rcases h with h2|h2;exact absurd hk h2;exact h2)⟩
theorem valid_enc{y:XI}(h:validM y=true)(hok:y.ok):EncT y:=by
 obtain ⟨k,hk1,hk2,hk,hm⟩:=valid_may h
 obtain ⟨r1,r2,r3,r4⟩:=valid_rest h
 obtain ⟨d,s,hd,hs,ed,es⟩:=hm.regs
 have hu:=hm.used
 have hw:=hm.wide
 have hn:=hm.narrow
 have hnum:=hm.num
 have hrel:=hok.rel
 have hdisp:=hok.disp
 have himm:=hok.imm
 have hk':formM y.kind=formsL.getD k FI.none:=by rw [hk];exact form_at k
 rw [hk'] at hu hw hn hnum r1 r2 r3 r4
 clear hm hk' hok
 obtain ⟨w,ew⟩:∃w,y.wide=w:=⟨_,rfl⟩
 obtain ⟨g,eg⟩:∃g,y.alu=g:=⟨_,rfl⟩
 obtain ⟨v,ev⟩:∃v,y.imm=v:=⟨_,rfl⟩
 obtain ⟨p,ep⟩:∃p,y.disp=p:=⟨_,rfl⟩
 obtain ⟨q,eq⟩:∃q,y.rel=q:=⟨_,rfl⟩
 obtain ⟨z,ez⟩:∃z,y.size=z:=⟨_,rfl⟩
 obtain ⟨b,eb⟩:∃b,y.short=b:=⟨_,rfl⟩
 obtain ⟨c,ec⟩:∃c,y.cond=c:=⟨_,rfl⟩
 rcases (by omega:k=1∨k=2∨k=3∨k=4∨k=5∨k=6∨k=7∨k=8∨k=9∨k=10∨k=11∨k=12∨k=13∨k=14∨k=15∨k=16∨k=17∨k=18∨k=19∨k=20∨k=21) with rfl|rfl|rfl|rfl|rfl|rfl|rfl|rfl|rfl|rfl|rfl|rfl|rfl|rfl|rfl|rfl|rfl|rfl|rfl|rfl|rfl
 all_goals simp only [formsL,List.getD_cons_succ,List.getD_cons_zero] at hu hw hn hnum r1 r2 r3 r4
 all_goals simp [usedM,numberM,hk,ed,es,ew,eg,ev,ep,eq,ez,eb,ec] at hu hw hn hnum r1 r2 r3 r4 hrel hdisp himm
 ·subst hu;exact enc_mov hd hs h
 ·subst hw;subst hu;exact enc_imm hd hnum h
 ·subst hw;subst hu;exact enc_abs hd himm h
 ·obtain ⟨n,hn8,rfl⟩:=r1
  subst hu;exact enc_alu hd hs hn8 h
 ·obtain ⟨n,hn8,rfl⟩:=r1
  subst hu;exact enc_aluimm hd hn8 hnum h
 ·subst hu;exact enc_test hd hs h
 ·subst hu;exact enc_neg hd h
 ·subst hu;exact enc_mul hd h
 ·subst hu;exact enc_div hd h
 ·subst hu;exact enc_imul hd hs h
 ·obtain ⟨n,hn8,rfl⟩:=r2
  subst hu;exact enc_shift hd hn8 (by omega) h
 ·obtain ⟨n,hn8,rfl⟩:=r2
  subst hu;exact enc_shiftcl hd hn8 h
 ·obtain ⟨hz,hwz⟩:=r3
  rcases hz with rfl|rfl|rfl|rfl
  ·subst hwz;subst hu;exact enc_load1 hd hs hdisp h
  ·subst hwz;subst hu;exact enc_load2 hd hs hdisp h
  ·subst hwz;subst hu;exact enc_load4 hd hs hdisp h
  ·subst hwz;subst hu;exact enc_load8 hd hs hdisp h
 ·obtain ⟨hz,hwz⟩:=r3
  rcases hz with rfl|rfl|rfl|rfl
  ·subst hwz;subst hu;exact enc_store1 hd hs hdisp h
  ·subst hwz;subst hu;exact enc_store2 hd hs hdisp h
  ·subst hwz;subst hu;exact enc_store4 hd hs hdisp h
  ·subst hwz;subst hu;exact enc_store8 hd hs hdisp h
 ·subst hn;cases b
  ·subst hu;exact enc_jmpl hrel h
  ·subst hu;exact enc_jmps (r4 rfl) h
 ·subst hn
  obtain ⟨r5,c1,hc1,rfl⟩:=r4
  cases b
  ·subst hu;exact enc_jccl hc1 hrel h
  ·subst hu;exact enc_jccs hc1 (r5 rfl) h
 ·subst hn;subst hu;exact enc_push hd h
 ·subst hn;subst hu;exact enc_pop hd h
 ·subst hn;subst hu;exact enc_ret h
 ·subst hn;subst hu;exact enc_call hrel h
 ·subst hn;subst hu;exact enc_fence h
theorem enc_valid{y:XI}{t:List UInt8}(h:encodeM y=some t):validM y=true:=by
 unfold encodeM at h
 split at h
 ·cases h
 ·rename_i hv;simpa using hv
theorem enc_unique{y z:XI}(hy:y.ok)(hz:z.ok){t u s:List UInt8}(ht:encodeM y=some t)(hu:encodeM z=some u)(pt:t<+:s)(pu:u<+:s):y=z:=by
 obtain ⟨t',h1,h2⟩:=valid_enc (enc_valid ht) hy
 obtain ⟨u',h3,h4⟩:=valid_enc (enc_valid hu) hz
 rw [ht] at h1
 rw [hu] at h3
 obtain rfl:=Option.some.inj h1
 obtain rfl:=Option.some.inj h3
 obtain ⟨r,rfl⟩:=pt
 obtain ⟨q,hq⟩:=pu
 obtain ⟨g1,k1⟩:=h2 r
 obtain ⟨g2,k2⟩:=h4 q
 rw [hq] at g2 k2
 rw [k1] at k2
 rw [←k2,g1] at g2
 exact g2
theorem enc_guess{y:XI}(hy:y.ok){t s:List UInt8}(ht:encodeM y=some t)(pt:t<+:s):guessM s y.kind.toNat=y:=by
 obtain ⟨t',h1,h2⟩:=valid_enc (enc_valid ht) hy
 rw [ht] at h1
 obtain rfl:=Option.some.inj h1
 obtain ⟨r,rfl⟩:=pt
 exact (h2 r).1
end Go.Proofs.YtjcgmhlbkheadaaGreatDoor
