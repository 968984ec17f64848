/- Parts; no condition. -/
import Derived.Test.YteaaapdjplbljaaGreatVc08
import Derived.WideKeyPair
set_option linter.unusedVariables false
set_option linter.unusedSimpArgs false
set_option linter.unnecessarySimpa false
set_option maxRecDepth 100000
set_option maxHeartbeats 8000000
namespace Go.Proofs.YteaaapdjplbljaaGreat
section
open Go Go.Proofs Go.RowKit Go.Shelf Hp Ch
theorem Ny:Gq Tryz.prog 4 (.bool false) 1 1:=⟨by kernel_rfl,rfl,by decide⟩
def Ae5 (E:TypeId) (size n:Nat) (xs:List Value) (w:World) (e:Ending) (w':World):Prop:=
 ∃g cap,e=.returned (.slice (some ⟨g,0,none⟩) n cap)/\w'.ownsRow w.heap.size E size (.slice (some ⟨g,0,none⟩) n cap) n xs/\Below w.heap.size w w'
theorem Ad4 (gone:List Bool) (gb gof cg:Nat) (w:World) (h:Cel w (some ⟨gb,gof,none⟩) (gone.map Ip)) (h0:0<gone.length) (hl:gone.length<=1000000):
  Calls Tryz.prog 230 #[.slice (some ⟨gb,gof,none⟩) gone.length cg] w (Ae5 4 1 gone.length (gone.map Ip) w):=by
 have hlit:(w.alloc (.cells #[] 4)).ownsRow w.heap.size 4 1 (.slice (some ⟨w.heap.size,0,none⟩) 0 0) 0 []:=World.ownsRow_lit (base:=w.heap.size) (e:=4) (size:=1) w #[] 0 (Bi7 _) (by unfold maxLen;omega) rfl;have heq:=Lib.run_eql_slice_nil (P:=Tryz.prog) w 177 4 (some ⟨gb,gof,none⟩) gone.length cg 0 0 Tryz.underlying177;simp only [Option.isNone] at heq;obtain ⟨i0,hi,hz0,hsz,hby⟩:=info_parts Ny.1;have HL:=Bi5 hlit;have HC:=Bi5 (h.go (Below.of_al w (.cells #[] 4)));clear hlit h;unfold Ae5
 go_enter Tryz.func230,Tryz.ntmps230
 go_wp2_with (at_builtin;refine wpList_append_own _ rfl _ _ _ rfl w.heap.size 4 i0 (.bool false) 1 1 Tryz.underlying177 hi hz0 hsz hby rfl (by decide) (.slice (some ⟨w.heap.size,0,none⟩) 0 0) 0 [] rfl HL.out ⟨gb,gof,none⟩ gone.length cg (gone.map Ip) rfl (by simp) (fun j u hj=>by rw [Addr.add_lit];obtain ⟨b',o',e,h⟩:=HC.out j u hj;cases e;exact h) (by intro u hu;obtain ⟨b,_,rfl⟩:=List.mem_map.1 hu;rfl) (by unfold maxLen;omega) (by omega) (by simp) ?_;intro v1 w1 ho1 hg1 hn1)
 have hbl:=(Below.of_al w (.cells #[] 4)).grown hg1 (by simp) (fun k hk=>(HL.out.lt k hk).1);rw [Nat.zero_add,List.nil_append] at ho1;obtain ⟨g,cap,rfl⟩:=Ap ho1 h0
 go_ret
 exact ⟨_,_,rfl,ho1,hbl⟩
def Wd (O:List (List (Int×Int))) (gone:List Bool) (v:Nat) (w:World) (e:Ending) (w':World):Prop:=
 ∃(l:List (Int×Int×Int)) (ao bo:Option Addr) (ca cb:Nat),e=.returned (.tuple #[.slice ao l.length ca,.slice bo l.length cb])/\Cel w' ao (Aq (l.map (·.2)))/\Cel w' bo (l.map (fun y=>.int .i64 y.1))/\
  KeptI O gone v (Ee O gone v O.length) O.length 0 l/\Below w.heap.size w w'/\(∀k,(Value.slice ao l.length ca).ownBlock=some k->w.heap.size<=k)/\(∀k,(Value.slice bo l.length cb).ownBlock=some k->w.heap.size<=k)
theorem Ql {w w':World} {base size n:Nat} {e:TypeId} {u6 u7:Value} {xs:List Value} (h:w.ownsRow base e size u7 n xs) (hg:w.grownBy w' u6.ownBlock) (hs:∀k,u6.ownBlock=some k->u7.ownBlock≠some k):w'.ownsRow base e size u7 n xs:=by
 refine h.kept hg ?_
 cases hv:u7.ownBlock with
 |none=>exact .inl rfl
 |some k=>exact .inr (fun e=>hs k e.symm hv)
theorem Xu (O:List (List (Int×Int))) (gone:List Bool) (vo vg vr:Value) (v settles:Nat) (hops B:Int) (w:World) (hn:NetW w vo vg O gone) (hv:v<O.length) (hO:NetOK O gone B) (hB:0<=B/\B<=288230376151711744) (hse:settles<=1000000) (hlen:O.length<=60000) (hrow:∀l∈O,l.length<=1000000) (hvr:∃a n c,vr=.slice a n c):
  Calls Tryz.prog 167 #[.agg #[vo,vg],.int .i64 v,.agg #[.int .i64 hops,.int .i64 settles,vr]] w (Wd O gone v w):=by
 have HN:=Bi5 hn;obtain ⟨ra,rn,rc,rfl⟩:=hvr;obtain ⟨ao,co,go,cg,rows,rfl,rfl,h3,h4,h5,h6⟩:=hn;have HGL:=Bi5 hO.len;obtain ⟨gb,gof,e1,-⟩:=h5.at (i:=v) (show v<gone.length by have:=HGL.out;omega);subst e1;obtain ⟨ob,oo,hao,-⟩:∃ob oo,ao=some ⟨ob,oo,none⟩/\True:=by
  obtain ⟨ai,ci,k1,_⟩:=h6 v hv;obtain ⟨ob,oo,rfl,_⟩:=h3 v _ k1;exact ⟨ob,oo,rfl,trivial⟩
 subst hao;have HGC:=Bi5 h5;clear h3 h4 h5 h6;unfold Wd;obtain ⟨mm,hmm⟩:∃mm,mm=Ee O gone v O.length:=⟨_,rfl⟩;have HLT:=Bi5 (show Lights O gone v mm by rw [hmm];exact Aa7 O gone ⟨by omega,by omega⟩);rw [<-hmm];have HMM:=Bi5 hmm;clear hmm
 go_enter Tryz.func167,Tryz.ntmps167
 go_upto_region 1 with (fail)
 obtain ⟨W0,hW⟩:∃W,W=(w.alloc (Obj.cells #[.slice (some ⟨ob,oo,none⟩) O.length co,.slice (some ⟨gb,gof,none⟩) gone.length cg] 179)).alloc (Obj.cells #[.int .i64 hops,.int .i64 (settles:Int),.slice ra rn rc] 27):=⟨_,rfl⟩;have hbw:Below w.heap.size w W0:=by rw [hW];exact (Below.of_al _ _).al _
 have HB:=Bi5 hbw;have HNW:=Bi5 (HN.out.go hbw);have HGC0:=Bi5 (HGC.out.go hbw);have HPB:=Bi5 (show PB W0 w.heap.size [.slice (some ⟨ob,oo,none⟩) O.length co,.slice (some ⟨gb,gof,none⟩) gone.length cg] by rw [hW];exact (PB.new2 _ _ _ _).go (Below.of_al _ _));have HPO:=Bi5 (show PB W0 (w.heap.size+1) [.int .i64 hops,.int .i64 (settles:Int),.slice ra rn rc] by
  rw [hW];have:=PB.new3 (w.alloc (Obj.cells #[.slice (some ⟨ob,oo,none⟩) O.length co,.slice (some ⟨gb,gof,none⟩) gone.length cg] 179)) 27 (.int .i64 hops) (.int .i64 (settles:Int)) (.slice ra rn rc)
  rwa [show (w.alloc (Obj.cells #[.slice (some ⟨ob,oo,none⟩) O.length co,.slice (some ⟨gb,gof,none⟩) gone.length cg] 179)).heap.size=w.heap.size+1 by simp] at this)
 have HSZ:=Bi5 (show W0.heap.size=w.heap.size+2 by rw [hW];simp);rw [<-hW];clear hW hbw HGC;obtain ⟨b0,-⟩:=HPB.out 0 _ rfl;obtain ⟨b1,-⟩:=HPB.out 1 _ rfl;have hv0:(0:Int)<=(v:Int):=by omega
 have hv1:(v:Int)<(gone.length:Int):=by have:=HGL.out;omega
 have HLI:=Bi5 (Hv O gone _ _ v B W0 HNW.out hv hO (by omega) hlen hrow);have HCL:=Bi5 (fun W (h:Below W0.heap.size W0 W)=>Ad4 gone gb gof cg W (HGC0.out.go h) (by omega) (by have:=HGL.out;omega));have HO:=Bi5 hO;have HLEN:=Bi5 hlen;have hb0:=hB.1;clear hO;unfold Sd at HLI;rw [<-HMM.out] at HLI;unfold Ae5 at HCL
 go_wp2_with (first
  |(go_at_call 168;refine HLI.out.mono ?_;rintro e w1 ⟨bt,bf,rfl,hmt,hmf,hne,hbt,hbf,hb1⟩;(have HMT:=Bi5 hmt;have HMF:=Bi5 hmf;have HNE:=Bi5 (And.intro hne (And.intro hbt hbf));have HB1:=Bi5 hb1;clear hmt hmf hne hbt hbf);(obtain ⟨c1,-⟩:=(HPB.out.go hb1) 1 _ rfl))
  |(go_at_call 230;refine (HCL.out _ HB1.out).mono ?_;rintro e w2 ⟨g,cap2,rfl,ho2,hb2⟩;(have HG:=Bi5 ho2;have HB2:=Bi5 hb2);(obtain ⟨d1,d1f⟩:=((HPB.out.go HB1.out).go hb2) 1 _ rfl);(have z2:=ho2.frozenAt v);(have s2:=(ho2.cellAt v (by have:=HGL.out;omega)).trans (show (gone.map Ip)[v]? =some (Ip (gone[v]'(by have:=HGL.out;omega))) by rw [Bk4,Bj0];rfl));(have hgN:g≠w.heap.size:=by have:=(ho2.lt g rfl).1;have:=HB1.out.size;have:=HSZ.out;omega);(obtain ⟨d0,-⟩:=((HPB.out.go HB1.out).go hb2) 0 _ rfl);(have HD:=Bi5 (And.intro d0 (And.intro d1 (And.intro s2 hgN))));(have s3:=fun x=>(Bj3 w2 ⟨w.heap.size,1,none⟩ ⟨g,v,none⟩ x (fun e=>hgN (congrArg Addr.block e).symm)).trans s2);(have d3:=fun x y=>((Bj3 (w2.setCell ⟨w.heap.size,1,none⟩ x) ⟨g,v,none⟩ ⟨w.heap.size,0,none⟩ y (fun e=>hgN (congrArg Addr.block e))).trans (Bj3 w2 ⟨w.heap.size,1,none⟩ ⟨w.heap.size,0,none⟩ x (by simp))).trans d0);clear ho2 hb2 hb1))
 obtain ⟨W,hW⟩:∃W,W=(w2.setCell ⟨w.heap.size,1,none⟩ (.slice (some ⟨g,0,none⟩) gone.length cap2)).setCell ⟨g,v,none⟩ (.bool true):=⟨_,rfl⟩;obtain ⟨d0',d1',s2',hgN'⟩:=HD.out;have hg1:=(HG.out.lt g rfl).1;have hz1:=HB1.out.size;have hz0:=HSZ.out;have hoW:OffX (fun k=>k=w.heap.size\/k=g) w2 W:=by rw [hW];exact (OffX.set _ (.inl rfl)).trans (OffX.set _ (.inr rfl))
 have hbW:Below w.heap.size w W:=by rw [hW];exact (((HB.out.st HB1.out).st HB2.out).setCell (p:=⟨w.heap.size,1,none⟩) (Bi7 _) _).setCell (p:=⟨g,v,none⟩) (by show w.heap.size<=g;omega) _
 have hMT:=(HMT.out.go HB2.out).off hoW (by have:=HMT.out.lt;have:=HNE.out.2.1;omega);have hMF:=(HMF.out.go HB2.out).off hoW (by have:=HMF.out.lt;have:=HNE.out.2.2;omega);have hgr:W.ownsRow w1.heap.size 4 1 (.slice (some ⟨g,0,none⟩) gone.length cap2) gone.length ((gone.set v true).map Ip):=by
  rw [hW];have:=((ownsRow_setCell_other (a:=⟨w.heap.size,1,none⟩) HG.out (by simp only [Value.ownBlock];intro e;exact hgN' (Bl4 e)) (.slice (some ⟨g,0,none⟩) gone.length cap2)).stored v (.bool true)).1;rw [List.map_set];exact this
 have hnw:NetW W (.slice (some ⟨ob,oo,none⟩) O.length co) (.slice (some ⟨g,0,none⟩) gone.length cap2) O (gone.set v true):=by
  obtain ⟨ao',co',go',cg',rows,e1,e2,h3,h4,h5,h6⟩:=HN.out.go hbW
  cases e1
  obtain ⟨a',c',e,hc⟩:=Cel.of_owns hgr
  cases e
  exact ⟨_,_,_,_,rows,rfl,by rw [Bj6],h3,h4,hc,h6⟩
 have hn1:W.cell? ⟨w.heap.size,0,none⟩=some (.slice (some ⟨ob,oo,none⟩) O.length co):=by rw [hW];exact d3 _ _
 have hn2:W.cell? ⟨w.heap.size,1,none⟩=some (.slice (some ⟨g,0,none⟩) gone.length cap2):=by
  rw [hW,Bj3 _ _ _ _ (fun e=>hgN' (congrArg Addr.block e))];exact Bj4 w2 ⟨w.heap.size,1,none⟩ _ d1'
 have hpo:PB W (w.heap.size+1) [.int .i64 hops,.int .i64 (settles:Int),.slice ra rn rc]:=(((HPO.out.go HB1.out).go HB2.out).eq (hoW.block _ (by have:=HB2.out.size;omega) (by rintro (e|e)<;>omega)));have HX:=Bi5 (And.intro hn1 (And.intro hn2 (And.intro (hpo 0 _ rfl).1 (hpo 1 _ rfl).1)));have HWB:=Bi5 hbW;have HM1:=Bi5 hMT;have HM2:=Bi5 hMF;have HNX:=Bi5 hnw;rw [<-hW];clear hW d0' d1' s2' hgN' hg1 hz1 hz0 hoW hbW hMT hMF hgr hnw hn2 hpo d3 s3 d1 d1f z2 s2 HD HG HB2 HB1 HMT HMF HNE HCL HLI HPB HPO HNW HGC0 HN HSZ HB b0 b1 c1;clear HMM;have HSEA:=Bi5 (fun W' (s t:Nat) below (h:Below W.heap.size W W') hs ht hb=>Zm O (gone.set v true) _ _ s t settles below hops B W' (HNX.out.go h) hs ht ⟨by rw [Bj6];exact HGL.out,HO.out.arcs⟩ ⟨hB.1,by omega⟩ hb hse hlen hrow);have hb2:2*B<=576460752303423488:=by omega
 have HBB:=Bi5 hb2;have HEL:=Bi5 (fun u x (h:mm.1 u=some x)=>(show 0<=x/\x<=B by
  obtain ⟨⟨p1,_,p2⟩,_⟩:=(HLT.out.to u).1 x h;have:=HO.out.arcs u _ p1 p2;exact ⟨by have:=this.2.1;simp only at this;omega,this.2.2⟩))
 have HEF:=Bi5 (fun u x (h:mm.2 u=some x)=>(show 0<=x/\x<=B by
  obtain ⟨p1,_⟩:=(HLT.out.fr u).1 x h;have:=HO.out.arcs v _ ⟨by omega,by omega⟩ p1;exact ⟨by have:=this.2.1;simp only at this;omega,this.2.2⟩))
 have HMAX:=Bi5 (show O.length*O.length<=60000*60000 from Nat.mul_le_mul hlen hlen);clear hb2 hB hse hrow
 go_loopg [6,7,35] O.length (fun gg v6 v7 v35 wr=>∃(i:Nat) (l:List (Int×Int×Int)),i<=O.length/\O.length-i<=gg/\v35=.int .i64 i/\Aside (KeptI O gone v mm i 0 l)/\Aside (wr.ownsRow W.heap.size 253 2 v6 l.length (Aq (l.map (·.2))))/\Aside (wr.ownsRow W.heap.size 3 1 v7 l.length (l.map fun y=>Value.int .i64 y.1))/\Aside (∀k,v6.ownBlock=some k->v7.ownBlock≠some k)/\Aside (Below W.heap.size W wr))
 case atStart=>exact ⟨0,[],Bi8 _,by omega,rfl,KeptI.begin,World.ownsRow_nil _ _ _ _,World.ownsRow_nil _ _ _ _,fun k h=>(by cases h),Below.refl _ _⟩
 case round=>
  obtain ⟨i,l,hi,hgg,rfl,HK,HR6,HR7,HSP,HWR⟩:=hrel;have x0:=Bi6 HWR.out HX.out.1
  by_cases hlt:i<O.length
  ·have hlt2:(i:Int)<(O.length:Int):=by omega
   have hl6:(O.length:Int)<=60000:=by omega
   have lk:=(HM1.out.go HWR.out).look (u:=(i:Int)) (by constructor<;>omega)
   cases hmi:mm.1 (i:Int) with
   |none=>
    rw [hmi] at lk;simp only [Option.getD,Option.isSome] at lk;have HK2:=Bi5 (HK.out.skipRow hmi);clear hmi
    go_wp2
    go_roundg (O.length-(i+1))
    case measure=>omega
    case rel=>exact ⟨i+1,l,by omega,Bi7 _,by go_num,HK2.out,HR6.out,HR7.out,HSP.out,HWR.out⟩
   |some a=>
    rw [hmi] at lk;simp only [Option.getD,Option.isSome] at lk;have HMI:=Bi5 hmi;have HA:=Bi5 (HEL.out _ _ hmi);clear hmi
    go_wp2
    go_loopg [6,7,49] O.length (fun g2 v6 v7 v49 wr2=>∃(j:Nat) (l:List (Int×Int×Int)),j<=O.length/\O.length-j<=g2/\v49=.int .i64 j/\Aside (KeptI O gone v mm i j l)/\Aside (wr2.ownsRow W.heap.size 253 2 v6 l.length (Aq (l.map (·.2))))/\Aside (wr2.ownsRow W.heap.size 3 1 v7 l.length (l.map fun y=>Value.int .i64 y.1))/\Aside (∀k,v6.ownBlock=some k->v7.ownBlock≠some k)/\Aside (Below W.heap.size W wr2))
    case atStart=>exact ⟨0,l,Bi8 _,by omega,rfl,HK.out,HR6.out,HR7.out,HSP.out,HWR.out⟩
    case round=>
     clear HK HR6 HR7 HSP HWR x0 lk;obtain ⟨j,l,hj,hjg,rfl,HK,HR6,HR7,HSP,HWR⟩:=hrel
     by_cases hjl:j<O.length
     ·have hjl2:(j:Int)<(O.length:Int):=by omega
      have lk:=(HM2.out.go HWR.out).look (u:=(j:Int)) (by constructor<;>omega)
      cases hmj:mm.2 (j:Int) with
      |none=>
       rw [hmj] at lk;simp only [Option.getD,Option.isSome] at lk;have HK2:=Bi5 (HK.out.skip (.inl hmj));clear hmj
       go_wp2
       go_roundg (O.length-(j+1))
       case measure=>omega
       case rel=>exact ⟨j+1,l,by omega,Bi7 _,by go_num,HK2.out,HR6.out,HR7.out,HSP.out,HWR.out⟩
      |some b=>
       rw [hmj] at lk;simp only [Option.getD,Option.isSome] at lk;have HMJ:=Bi5 hmj;have HBJ:=Bi5 (HEF.out _ _ hmj);clear hmj
       by_cases hij:i=j
       ·have HK2:=Bi5 (HK.out.skip (.inr hij))
        subst hij;have hee:((i:Int)==(i:Int))=true:=by simp
        go_wp2
        go_roundg (O.length-(i+1))
        case measure=>omega
        case rel=>exact ⟨i+1,l,by omega,Bi7 _,by go_num,HK2.out,HR6.out,HR7.out,HSP.out,HWR.out⟩
       ·have hee:((i:Int)==(j:Int))=false:=by rw [beq_eq_false_iff_ne];omega
        have HIJ:=Bi5 hij;clear hij;have hab:IntKind.u64.wrap (a+b)=a+b:=by rw [Bn7];have:=HA.out;have:=HBJ.out;have:=HBB.out;omega
        have y0:=Bi6 HWR.out HX.out.1;have y1:=Bi6 HWR.out HX.out.2.1;have y2:=Bi6 HWR.out HX.out.2.2.1;have y3:=Bi6 HWR.out HX.out.2.2.2;have HSE:=Bi5 (HSEA.out wr i j (a+b) HWR.out (by rw [Bj6];have:=HGL.out;omega) (by rw [Bj6];have:=HGL.out;omega) (by have:=HA.out;have:=HBJ.out;have:=HBB.out;omega));unfold Kf at HSE;have HLL:=Bi5 (show l.length<=3600060000 by have:=HK.out.len;have:=Nat.mul_le_mul_right O.length hi;have:=HMAX.out;omega)
        go_wp2_with (first
         |(go_at_call 231;refine HSE.out.mono ?_;rintro e w5 ⟨d,bb,rfl,hway,hb5⟩;(have HWY:=Bi5 hway;have HB5:=Bi5 hb5;clear hway hb5))
         |(at_builtin;refine Ce W.heap.size 253 _ 2 16 Yk Tryz.underlying247 u6 l.length _ ⟨w5.heap.size,0,none⟩ 1 1 [.int .i64 (j:Int),.int .u64 (a+b)] rfl rfl (World.ownsRow.alloc (Af HR6.out HB5.out) _) (Ab0 _ _ _ _ rfl) (Po _ _) ⟨rfl,by decide,(by have:=HLL.out;omega),(by have:=HLL.out;omega),((HWR.out.st HB5.out).al _).size⟩ ?_;intro g6 cap6 w6 hown6 hgrow6 hbl6 hat6 hlt6;(have H6:=Bi5 (And.intro hown6 (And.intro hbl6 (And.intro hat6 hlt6)));have O7:=Bi5 (Ql (World.ownsRow.alloc (Af HR7.out HB5.out) _) hgrow6 HSP.out);clear hown6 hgrow6 hbl6 hat6 hlt6))
         |(at_builtin;refine Ce W.heap.size 3 _ 1 8 Dc Tryz.underlying25 u7 l.length _ ⟨w6.heap.size,0,none⟩ 1 1 [.int .i64 (i:Int)] rfl rfl (World.ownsRow.alloc O7.out _) (cell_one_new _ _ _) (Cr rfl) ⟨rfl,by decide,(by have:=HLL.out;omega),(by have:=HLL.out;omega),(((((HWR.out.st HB5.out).al _).trans H6.out.2.1).al _)).size⟩ ?_;intro g7 cap7 w7 hown7 hgrow7 hbl7 hat7 hlt7;(have H7:=Bi5 (And.intro hown7 (And.intro hbl7 (And.intro hat7 hlt7)));have O6:=Bi5 (And.intro hgrow7 trivial);clear hown7 hgrow7 hbl7 hat7 hlt7)))
        ·obtain ⟨h61,h62,h63,h64⟩:=H6.out
         obtain ⟨h71,h72,h73,h74⟩:=H7.out;have hq7:∀k,u7.ownBlock=some k->k<w5.heap.size:=fun k hk=>((Af HR7.out HB5.out).lt k hk).2;have hg6:∀k,u7.ownBlock=some k->(Value.slice (some ⟨g6,0,none⟩) (l.length+1) cap6).ownBlock≠some k:=by
          intro k hk e;have e2:g6=k:=Bl4 e;subst e2
          rcases h63 with e3|e3
          ·exact HSP.out _ e3 hk
          ·have:=hq7 _ hk
           simp only [World.size_alloc] at e3;omega
         have ho6:=Ql (World.ownsRow.alloc h61 (Obj.cells #[Value.int .i64 (i:Int)] 3)) O6.out.1 hg6;have hk:=HK.out.keep (by omega) (by omega) HIJ.out HMI.out HMJ.out;have e6:Aq ((l++[((i:Int),(j:Int),a+b)]).map (·.2))=Aq (l.map (·.2))++[.int .i64 (j:Int),.int .u64 (a+b)]:=by rw [Bm6,Dy];rfl
         have e7:(l++[((i:Int),(j:Int),a+b)]).map (fun y=>Value.int .i64 y.1)=l.map (fun y=>Value.int .i64 y.1)++[.int .i64 (i:Int)]:=by rw [Bm6];rfl
         have el:(l++[((i:Int),(j:Int),a+b)]).length=l.length+1:=by simp
         go_roundg (O.length-(j+1))
         case measure=>omega
         case rel=>
          refine ⟨j+1,l++[((i:Int),(j:Int),a+b)],by omega,Bi7 _,by go_num,hk,?_,?_,?_,(((((HWR.out.st HB5.out).al _).trans h62).al _).trans h72)⟩
          ·show World.ownsRow _ _ _ _ _ _ _
           rw [el,e6];exact ho6
          ·show World.ownsRow _ _ _ _ _ _ _
           rw [el,e7];exact h71
          ·intro k hk6 hk7
           have e1:g6=k:=Bl4 hk6;have e2:g7=k:=Bl4 hk7;subst e1
           rcases h73 with e3|e3
           ·exact hg6 g7 e3 (by rw [e2];rfl)
           ·simp only [World.size_alloc] at e3
            omega
        ·rename_i hbb
         have hbt:bb=true:=by simpa using hbb
         obtain ⟨hw0,hwd⟩:=HWY.out hbt;have hway:Ch.Way (NR O (gone.set v true)) Any (i:Int) (j:Int) d:=by
          rcases hw0 with ⟨e1,_⟩|h
          ·exact absurd e1 (by have:=HIJ.out;omega)
          ·exact h
         have hk:=HK.out.lighter HMI.out HMJ.out (by rw [show ((v:Int)).toNat=v from rfl];exact hway) hwd
         go_roundg (O.length-(j+1))
         case measure=>omega
         case rel=>exact ⟨j+1,l,by omega,Bi7 _,by go_num,hk,Af HR6.out HB5.out,Af HR7.out HB5.out,HSP.out,HWR.out.st HB5.out⟩
     ·obtain rfl:j=O.length:=by omega
      go_wp2
      go_roundg (O.length-(i+1))
      case measure=>omega
      case rel=>exact ⟨i+1,l,by omega,Bi7 _,by go_num,HK.out.row,HR6.out,HR7.out,HSP.out,HWR.out⟩
  ·obtain rfl:i=O.length:=by omega
   obtain ⟨ax,cx,rfl,hcx⟩:=Cel.of_owns HR6.out;obtain ⟨ay,cy,rfl,hcy⟩:=Cel.of_owns HR7.out
   go_wp2
   refine bodyPost_ret (v:=.tuple #[.slice ax l.length cx,.slice ay l.length cy]) (by simp [results,Tryz.results167,go_sem];try rfl) rfl ?_;exact ⟨l,ax,ay,cx,cy,rfl,hcx,hcy,HK.out,HWB.out.st HWR.out,fun k hk=>Bi9 HWB.out.size (HR6.out.lt k hk).1,fun k hk=>Bi9 HWB.out.size (HR7.out.lt k hk).1⟩
end
section
open Go Go.Proofs Go.RowKit Go.Shelf Ch
theorem mq_arr:Go.WideMaps.ArrKey Tryz.prog 254 3 2:=⟨Tryz.underlying254,by kernel_rfl,by kernel_rfl,by kernel_rfl⟩
theorem mq_keyed:Maps.Keyed Tryz.prog 254:=Maps.Keyed.of_law mq_arr.law
theorem Qr:Tryz.prog.underlying 180=some (.map 254 3):=Tryz.underlying180
def Qj (u v:Int):Lit:=.string (keyBytes [.int .i64 u,.int .i64 v])
theorem Jb {u v:Int} (hu:In6 u) (hv:In6 v):keyOf Tryz.prog 254 (.agg #[.int .i64 u,.int .i64 v])=some (Qj u v):=
 Go.WideMaps.keyOf_pair mq_arr Tryz.underlying3 ⟨Tryz.prog.types.size-1,by kernel_rfl⟩ (Rc hu) (Rc hv)
theorem Tl {u v u' v':Int} (hu:In6 u) (hv:In6 v) (hu':In6 u') (hv':In6 v') (h:Qj u v=Qj u' v'):u=u'/\v=v':=by
 have:=mq_keyed.inj (Jb hu hv) (by rw [h];exact Jb hu' hv');simp at this;exact this
def Ik (o:Option Nat):Int:=o.elim 0 (fun i=>(i:Int))
def MapP (w:World) (b n:Nat) (p:Int->Int->Option Nat):Prop:=
 ∃D:DataW Unit,w.ownsMap Tryz.prog 254 (plainElem Tryz.prog 3) b n D/\∀u v,In6 u->In6 v->Maps.has D (Qj u v)=(p u v).isSome/\D.atKey (Qj u v) (.lit (.int .i64 0))=.lit (.int .i64 (Ik (p u v)))
variable {w w':World} {b n:Nat} {p:Int->Int->Option Nat}
theorem MapP.lt (h:MapP w b n p):b<w.heap.size:=let ⟨_,k,_⟩:=h;k.lt
theorem MapP.mono (h:MapP w b n p) {n':Nat} (hn:n<=n'):MapP w b n' p:=let ⟨D,k,r⟩:=h;⟨D,k.mono hn,r⟩
theorem MapP.eq (h:MapP w b n p) (he:w'.heap[b]? =w.heap[b]?):MapP w' b n p:=by
 obtain ⟨D,⟨es,clock,hb,r⟩,q⟩:=h;exact ⟨D,⟨es,clock,he.trans hb,r⟩,q⟩
theorem MapP.go (h:MapP w b n p) (hb:Below w.heap.size w w'):MapP w' b n p:=h.eq (hb.block b h.lt)
theorem MapP.off {X:Nat->Prop} (h:MapP w b n p) (ho:OffX X w w') (hn:¬X b):MapP w' b n p:=h.eq (ho.block b h.lt hn)
theorem MapP.new (w:World):MapP (w.alloc (.map #[] 0)) w.heap.size 0 (fun _ _=>none):=
 ⟨.map [],World.ownsMap_made w _ _ _,fun u _ _ _=>⟨rfl,rfl⟩⟩
theorem Af8 (w:World):(zeroValue 3).run Tryz.prog w=.ok (.int .i64 0) w:=by kernel_rfl
theorem MapP.look (h:MapP w b n p) {u v:Int} (hu:In6 u) (hv:In6 v):(Instr.lookup 180 (.map (some b)) (.agg #[.int .i64 u,.int .i64 v]) true).run Tryz.prog w=.ok (.tuple #[.int .i64 (Ik (p u v)),.bool (p u v).isSome]) w:=by
 obtain ⟨D,k,q⟩:=h;obtain ⟨x,ps,h1,h2⟩:=k.look_ok mq_keyed Qr (Af8 w) (zd:=.lit (.int .i64 0)) (zp:=[]) (plainElem_int Tryz.underlying3 (by decide)) (Jb hu hv);obtain ⟨q1,q2⟩:=q u v hu hv;rw [q2] at h2;obtain ⟨c,rfl,hc,_⟩:=plainElem_int_inv Tryz.underlying3 h2;simp only [Prod.mk.injEq,DataW.lit.injEq,Lit.int.injEq,true_and] at hc;rw [h1,q1,hc.1]
theorem MapP.get (h:MapP w b n p) {u v:Int} (hu:In6 u) (hv:In6 v):(Instr.lookup 180 (.map (some b)) (.agg #[.int .i64 u,.int .i64 v]) false).run Tryz.prog w=.ok (.int .i64 (Ik (p u v))) w:=by
 obtain ⟨D,k,q⟩:=h;obtain ⟨x,ps,h1,h2⟩:=k.lookup mq_keyed Qr (Af8 w) (zd:=.lit (.int .i64 0)) (zp:=[]) (plainElem_int Tryz.underlying3 (by decide)) (Jb hu hv);obtain ⟨q1,q2⟩:=q u v hu hv;rw [q2] at h2;obtain ⟨c,rfl,hc,_⟩:=plainElem_int_inv Tryz.underlying3 h2;simp only [Prod.mk.injEq,DataW.lit.injEq,Lit.int.injEq,true_and] at hc;rw [h1,hc.1]
theorem MapP.put (h:MapP w b n p) (hn:n<1000000000000000000) {u v:Int} {i:Nat} (hu:In6 u) (hv:In6 v) (hi:i<1000000000000000000):
  ∃w',(Instr.mapUpdate 180 (.map (some b)) (.agg #[.int .i64 u,.int .i64 v]) (.int .i64 (i:Int))).run Tryz.prog w=.ok () w'/\MapP w' b (n+1) (fun a c=>if a=u/\c=v then some i else p a c)/\OffX (· =b) w w'/\w'.heap.size=w.heap.size/\∀a,w'.frozen? a=w.frozen? a:=by
 obtain ⟨D,k,q⟩:=h;obtain ⟨w',h1,h2,h3⟩:=k.store (H:=Unit) mq_keyed Qr (by unfold maxLen;omega) (val:=.int .i64 (i:Int)) (d:=.lit (.int .i64 (i:Int))) (ps:=[]) (Jb hu hv) (plainElem_int Tryz.underlying3 (Rc (by constructor<;>omega)));have hg:=h3.grown;have hz:w'.heap.size=w.heap.size:=by
  obtain ⟨es,clock,es',clock',hb,rfl⟩:=h3;simp [ChangeMaps.setBlock]
 refine ⟨w',h1,⟨_,h2,fun a c ha hc=>?_⟩,⟨hg.os,hg.tape,hg.output,hg.size,fun j hj hjb=>hg.block j hj (fun e=>hjb (Bl4 e))⟩,hz,h3.frozen⟩;obtain ⟨q1,q2⟩:=q a c ha hc
 show _=(if a=u/\c=v then some i else p a c).isSome/\_=DataW.lit (Lit.int IntKind.i64 (Ik (if a=u/\c=v then some i else p a c)))
 by_cases e:a=u/\c=v
 ·obtain ⟨rfl,rfl⟩:=e
  rw [if_pos ⟨rfl,rfl⟩,Maps.has_put_same k.isMap (k:=Qj a c) trivial,Maps.atKey_put_same k.isMap (k:=Qj a c) trivial];exact ⟨rfl,rfl⟩
 ·rw [if_neg e,Maps.has_put_other (fun h=>e (Tl ha hc hu hv h)),Maps.atKey_put_other (fun h=>e (Tl ha hc hu hv h))]
  exact ⟨q1,q2⟩
end
section
open Go Go.Proofs Go.RowKit Go.Shelf Hp Ch
def Cw (x:SC):List Value:=[.int .i64 x.f,.int .i64 x.t,.int .u64 x.w,.int .i64 x.e,.int .i64 x.a,.int .i64 x.b]
def Be:List SC->List Value
 |[]=>[]
 |x::l=>Cw x++Be l
theorem Ud:∀l,(Be l).length=l.length*6
 |[]=>rfl
 |x::l=>by rw [Be];simp [Ud l,Cw];omega
theorem Mk:∀(l m:List SC),Be (l++m)=Be l++Be m
 |[],m=>rfl
 |x::l,m=>by rw [List.cons_append,Be,Be,Mk l m,Bm8]
theorem Jz:∀(l:List SC) (k:Nat) (h:k<l.length) (j:Nat),j<6->(Be l)[k*6+j]? =(Cw l[k])[j]?
 |x::l,0,_,j,hj=>by
  rw [Be,Bm4 (by simp [Cw];omega)];simp
 |x::l,k+1,h,j,hj=>by
  have:=Jz l k (by simpa using h) j hj;rw [Be,Bm3 (by simp [Cw];omega)];rw [show (k+1)*6+j-(Cw x).length=k*6+j by simp [Cw];omega];exact this
structure CS where
 cb:Nat
 ob:Nat
 gb:Nat
 mb:Nat
 db:Nat
 cO:Nat
 cG:Nat
 cD:Nat
 hops:Int
 settles:Int
 vr:Value
 vS:Value
 rows:List Value
 c:CoreD
 gone:List Bool
 dep:List Int
 nb:Nat
abbrev Bk:Value:=.slice none 0 0
def CS.blk (s:CS):Nat->Option Nat
 |0=>some s.cb
 |1=>some s.ob
 |2=>some s.gb
 |3=>some s.mb
 |4=>some s.db
 |5=>s.vS.ownBlock
 |i+6=>(s.rows.getD i Bk).ownBlock
def CS.X (s:CS) (k:Nat):Prop:=∃i,s.blk i=some k
abbrev CS.n (s:CS):Nat:=s.c.O.length
def CS.cells (s:CS):List Value:=[.slice (some ⟨s.ob,0,none⟩) s.n s.cO,.slice (some ⟨s.gb,0,none⟩) s.n s.cG,.map (some s.mb),s.vS,.int .i64 s.hops,.int .i64 s.settles,s.vr,.slice (some ⟨s.db,0,none⟩) s.n s.cD]
structure CoreW (w:World) (base:Nat) (s:CS):Prop where
 re:PB w s.cb s.cells
 out:w.ownsRow base 247 1 (.slice (some ⟨s.ob,0,none⟩) s.n s.cO) s.n s.rows
 gon:w.ownsRow base 4 1 (.slice (some ⟨s.gb,0,none⟩) s.n s.cG) s.n (s.gone.map Ip)
 dp:w.ownsRow base 3 1 (.slice (some ⟨s.db,0,none⟩) s.n s.cD) s.n (s.dep.map Aj)
 mp:MapP w s.mb s.nb s.c.p
 ss:w.ownsRow base 187 6 s.vS s.c.S.length (Be s.c.S)
 row:∀u,w.ownsRow base 253 2 (s.rows.getD u Bk) (s.c.O.getD u []).length (Aq (s.c.O.getD u []))
 ge:∀i k,s.blk i=some k->base<=k/\k<w.heap.size
 sep:∀i j k,i≠j->s.blk i=some k->s.blk j≠some k
variable {w w':World} {base:Nat} {s:CS}
theorem CoreW.lens (h:CoreW w base s):s.rows.length=s.n/\s.gone.length=s.n/\s.dep.length=s.n:=by
 have h1:=h.out.1;have h2:=h.gon.1;have h3:=h.dp.1;simp at h1 h2 h3;exact ⟨h1,h2,h3⟩
theorem Ai {w w':World} {base size n:Nat} {e:TypeId} {v:Value} {xs:List Value} (h:w.ownsRow base e size v n xs) (he:∀k,v.ownBlock=some k->w'.heap[k]? =w.heap[k]?):w'.ownsRow base e size v n xs:=by
 refine ⟨h.1,?_⟩
 rcases h.2 with h2|⟨g,cap,cur,hv,hb,hg,r⟩
 ·exact .inl h2
 ·exact .inr ⟨g,cap,cur,hv,hb,(he g (by rw [hv];rfl)).trans hg,r⟩
theorem CoreW.off {X:Nat->Prop} (h:CoreW w base s) (ho:OffX X w w') (hX:∀k,s.X k->¬X k):CoreW w' base s:=by
 have hk:∀i k,s.blk i=some k->w'.heap[k]? =w.heap[k]?:=fun i k hi=>ho.block k (h.ge i k hi).2 (hX k ⟨i,hi⟩);exact ⟨h.re.eq (hk 0 _ rfl),Ai h.out (fun k e=>hk 1 k e),Ai h.gon (fun k e=>hk 2 k e),Ai h.dp (fun k e=>hk 4 k e),h.mp.eq (hk 3 _ rfl),Ai h.ss (fun k e=>hk 5 k e),fun u=>Ai (h.row u) (fun k e=>hk (u+6) k e),
  fun i k hi=>⟨(h.ge i k hi).1,by have:=(h.ge i k hi).2;have:=ho.size;omega⟩,h.sep⟩
theorem CoreW.go (h:CoreW w base s) (hb:Below w.heap.size w w'):CoreW w' base s:=h.off (X:=fun _=>False) (.of_below hb) (fun _ _ h=>h)
theorem CoreW.map (h:CoreW w base s) {p:Int->Int->Option Nat} {nb:Nat} (hm:MapP w' s.mb nb p) (ho:OffX (· =s.mb) w w'):CoreW w' base { s with c:=⟨s.c.O,p,s.c.S⟩,nb:=nb }:=by
 have hk:∀i k,i≠3->s.blk i=some k->w'.heap[k]? =w.heap[k]?:=fun i k hi hb=>ho.block k (h.ge i k hb).2 (fun e=>h.sep i 3 k hi hb (by rw [e];rfl));exact ⟨h.re.eq (hk 0 _ (by omega) rfl),Ai h.out (fun k e=>hk 1 k (by omega) e),Ai h.gon (fun k e=>hk 2 k (by omega) e),Ai h.dp (fun k e=>hk 4 k (by omega) e),hm,Ai h.ss (fun k e=>hk 5 k (by omega) e),fun u=>Ai (h.row u) (fun k e=>hk (u+6) k (by omega) e),
  fun i k hi=>⟨(h.ge i k hi).1,by have:=(h.ge i k hi).2;have:=ho.size;omega⟩,h.sep⟩
theorem Af0 {f f':Nat->Option Nat} {i0 N:Nat} (hsep:∀i j k,i≠j->f i=some k->f j≠some k) (hlt:∀i k,f i=some k->k<N) (hne:∀i,i≠i0->f' i=f i) (hi0:f' i0=f i0\/∃g,f' i0=some g/\N<=g):
  ∀i j k,i≠j->f' i=some k->f' j≠some k:=by
 intro i j k hij hi hj
 by_cases e1:i=i0
 ·subst e1
  rw [hne j (Ne.symm hij)] at hj
  rcases hi0 with e|⟨g,e,hg⟩
  ·rw [e] at hi
   exact hsep i j k hij hi hj
  ·rw [e] at hi
   cases hi
   have:=hlt _ _ hj;omega
 ·rw [hne i e1] at hi
  by_cases e2:j=i0
  ·subst e2
   rcases hi0 with e|⟨g,e,hg⟩
   ·rw [e] at hj
    exact hsep i j k hij hi hj
   ·rw [e] at hj
    cases hj
    have:=hlt _ _ hi;omega
  ·rw [hne j e2] at hj
   exact hsep i j k hij hi hj
theorem Fq {W:World} {a:Addr} {v:Value} {k:Nat} (h:k≠a.block):(W.setCell a v).heap[k]? =W.heap[k]?:=Below.heap_setCell _ _ _ _ h
theorem CoreW.sapp (h:CoreW w base s) {v':Value} {S':List SC} (hown:w'.ownsRow base 187 6 v' S'.length (Be S')) (ho:OffX (fun k=>s.vS.ownBlock=some k) w w') (hb:v'.ownBlock=s.vS.ownBlock\/∃g,v'.ownBlock=some g/\w.heap.size<=g):
  CoreW (w'.setCell ⟨s.cb,3,none⟩ v') base { s with vS:=v',c:=⟨s.c.O,s.c.p,S'⟩ }:=by
 have hk:∀i k,i≠5->s.blk i=some k->w'.heap[k]? =w.heap[k]?:=fun i k hi hb=>ho.block k (h.ge i k hb).2 (fun e=>h.sep i 5 k hi hb e);have hk2:∀i k,i≠5->i≠0->s.blk i=some k->(w'.setCell ⟨s.cb,3,none⟩ v').heap[k]? =w.heap[k]?:=fun i k hi h0 hb=>(Fq (fun e=>h.sep 0 i k (Ne.symm h0) (by rw [show k=s.cb from e];rfl) hb)).trans (hk i k hi hb);have hne:∀i,i≠5->CS.blk { s with vS:=v',c:=⟨s.c.O,s.c.p,S'⟩ } i=s.blk i:=by
  intro i hi
  match i with
  |0|1|2|3|4=>rfl
  |5=>exact absurd rfl hi
  |i+6=>rfl
 have hvc:∀k,v'.ownBlock=some k->k≠s.cb:=by
  rintro k hk3 rfl
  rcases hb with e|⟨g,e,hg⟩
  ·exact h.sep 0 5 s.cb (by omega) rfl (by show s.vS.ownBlock=_;rw [<-e];exact hk3)
  ·rw [e] at hk3
   cases hk3
   have:=(h.ge 0 s.cb rfl).2;omega
 refine ⟨?_,Ai h.out (fun k e=>hk2 1 k (by omega) (by omega) e),Ai h.gon (fun k e=>hk2 2 k (by omega) (by omega) e),Ai h.dp (fun k e=>hk2 4 k (by omega) (by omega) e),h.mp.eq (hk2 3 _ (by omega) (by omega) rfl),Ai hown (fun k e=>Fq (hvc k e)),
  fun u=>Ai (h.row u) (fun k e=>hk2 (u+6) k (by omega) (by omega) e),?_,Af0 h.sep (fun i k hi=>(h.ge i k hi).2) hne hb⟩
 ·exact (h.re.eq (hk 0 _ (by omega) rfl)).set 3 v'
 ·intro i k hi
  by_cases e:i=5
  ·subst e
   have:=hown.lt k hi;exact ⟨this.1,by rw [World.size_setCell];exact this.2⟩
  ·rw [hne i e] at hi
   have:=h.ge i k hi;exact ⟨this.1,by rw [World.size_setCell];have:=ho.size;omega⟩
theorem CoreW.rset (h:CoreW w base s) {v':Value} {u:Nat} {r':List (Int×Int)} (hu:u<s.n) (hown:w'.ownsRow base 253 2 v' r'.length (Aq r')) (ho:OffX (fun k=>(s.rows.getD u Bk).ownBlock=some k) w w')
  (hb:v'.ownBlock=(s.rows.getD u Bk).ownBlock\/∃g,v'.ownBlock=some g/\w.heap.size<=g):
  CoreW (w'.setCell ⟨s.ob,u,none⟩ v') base { s with rows:=s.rows.set u v',c:=⟨s.c.O.set u r',s.c.p,s.c.S⟩ }:=by
 obtain ⟨l1,l2,l3⟩:=h.lens;have hn:CS.n { s with rows:=s.rows.set u v',c:=⟨s.c.O.set u r',s.c.p,s.c.S⟩ }=s.n:=Bj6;have hk:∀i k,i≠u+6->s.blk i=some k->w'.heap[k]? =w.heap[k]?:=fun i k hi hb=>ho.block k (h.ge i k hb).2 (fun e=>h.sep i (u+6) k hi hb e);have hk2:∀i k,i≠u+6->i≠1->s.blk i=some k->(w'.setCell ⟨s.ob,u,none⟩ v').heap[k]? =w.heap[k]?:=fun i k hi h0 hb=>(Fq (fun e=>h.sep 1 i k (Ne.symm h0) (by rw [show k=s.ob from e];rfl) hb)).trans (hk i k hi hb);have hgd:∀i,(s.rows.set u v').getD i Bk=if i=u then v' else s.rows.getD i Bk:=fun i=>Dw _ _ _ _ _ (by omega)
 have hgO:∀i,(s.c.O.set u r').getD i []=if i=u then r' else s.c.O.getD i []:=fun i=>Dw _ _ _ _ _ hu
 have hne:∀i,i≠u+6->CS.blk { s with rows:=s.rows.set u v',c:=⟨s.c.O.set u r',s.c.p,s.c.S⟩ } i=s.blk i:=by
  intro i hi
  match i with
  |0|1|2|3|4|5=>rfl
  |i+6=>
   show ((s.rows.set u v').getD i Bk).ownBlock=(s.rows.getD i Bk).ownBlock
   rw [hgd,if_neg (by omega)]
 have hu6:CS.blk { s with rows:=s.rows.set u v',c:=⟨s.c.O.set u r',s.c.p,s.c.S⟩ } (u+6)=v'.ownBlock:=by
  show ((s.rows.set u v').getD u Bk).ownBlock=_
  rw [hgd,if_pos rfl]
 have hvc:∀k,v'.ownBlock=some k->k≠s.ob:=by
  rintro k hk3 rfl
  rcases hb with e|⟨g,e,hg⟩
  ·exact h.sep 1 (u+6) s.ob (by omega) rfl (by show (s.rows.getD u Bk).ownBlock=_;rw [<-e];exact hk3)
  ·rw [e] at hk3
   cases hk3
   have:=(h.ge 1 s.ob rfl).2;omega
 refine ⟨?_,?_,?_,?_,h.mp.eq (hk2 3 _ (by omega) (by omega) rfl),Ai h.ss (fun k e=>hk2 5 k (by omega) (by omega) e),?_,?_,Af0 h.sep (fun i k hi=>(h.ge i k hi).2) hne (by rw [hu6];exact hb)⟩
 ·have:=h.re.eq (hk2 0 _ (by omega) (by omega) rfl)
  unfold CS.cells at this ⊢;rw [hn];exact this
 ·rw [hn]
  exact (((Ai h.out (fun k e=>hk 1 k (by omega) e):w'.ownsRow base _ 1 _ _ s.rows)).stored u v').1
 ·rw [hn]
  exact Ai h.gon (fun k e=>hk2 2 k (by omega) (by omega) e)
 ·rw [hn]
  exact Ai h.dp (fun k e=>hk2 4 k (by omega) (by omega) e)
 ·intro i
  show World.ownsRow _ base _ 2 ((s.rows.set u v').getD i Bk) ((s.c.O.set u r').getD i []).length (Aq ((s.c.O.set u r').getD i []))
  rw [hgd,hgO]
  by_cases e:i=u
  ·rw [if_pos e,if_pos e]
   exact Ai hown (fun k e=>Fq (hvc k e))
  ·rw [if_neg e,if_neg e]
   exact Ai (h.row i) (fun k e2=>hk2 (i+6) k (by omega) (by omega) e2)
 ·intro i k hi
  by_cases e:i=u+6
  ·subst e
   rw [hu6] at hi;have:=hown.lt k hi;exact ⟨this.1,by rw [World.size_setCell];exact this.2⟩
  ·rw [hne i e] at hi
   have:=h.ge i k hi;exact ⟨this.1,by rw [World.size_setCell];have:=ho.size;omega⟩
theorem CoreW.gset (h:CoreW w base s) (u:Nat) (b:Bool):CoreW (w.setCell ⟨s.gb,u,none⟩ (.bool b)) base { s with gone:=s.gone.set u b }:=by
 have hk2:∀i k,i≠2->s.blk i=some k->(w.setCell ⟨s.gb,u,none⟩ (.bool b)).heap[k]? =w.heap[k]?:=fun i k h0 hb=>Fq (fun e=>h.sep 2 i k (Ne.symm h0) (by rw [show k=s.gb from e];rfl) hb);refine ⟨h.re.eq (hk2 0 _ (by omega) rfl),Ai h.out (fun k e=>hk2 1 k (by omega) e),?_,Ai h.dp (fun k e=>hk2 4 k (by omega) e),h.mp.eq (hk2 3 _ (by omega) rfl),Ai h.ss (fun k e=>hk2 5 k (by omega) e),fun u=>Ai (h.row u) (fun k e=>hk2 (u+6) k (by omega) e),
  fun i k hi=>by rw [World.size_setCell];exact h.ge i k hi,h.sep⟩
 have:=(h.gon.stored u (.bool b)).1
 show World.ownsRow _ _ _ _ _ _ ((s.gone.set u b).map Ip)
 rw [List.map_set];exact this
theorem CoreW.dset (h:CoreW w base s) (u:Nat) (x:Int):CoreW (w.setCell ⟨s.db,u,none⟩ (.int .i64 x)) base { s with dep:=s.dep.set u x }:=by
 have hk2:∀i k,i≠4->s.blk i=some k->(w.setCell ⟨s.db,u,none⟩ (.int .i64 x)).heap[k]? =w.heap[k]?:=fun i k h0 hb=>Fq (fun e=>h.sep 4 i k (Ne.symm h0) (by rw [show k=s.db from e];rfl) hb);refine ⟨h.re.eq (hk2 0 _ (by omega) rfl),Ai h.out (fun k e=>hk2 1 k (by omega) e),Ai h.gon (fun k e=>hk2 2 k (by omega) e),?_,h.mp.eq (hk2 3 _ (by omega) rfl),Ai h.ss (fun k e=>hk2 5 k (by omega) e),fun u=>Ai (h.row u) (fun k e=>hk2 (u+6) k (by omega) e),
  fun i k hi=>by rw [World.size_setCell];exact h.ge i k hi,h.sep⟩
 have:=(h.dp.stored u (.int .i64 x)).1
 show World.ownsRow _ _ _ _ _ _ ((s.dep.set u x).map Aj)
 rw [List.map_set];exact this
theorem CoreW.net (h:CoreW w base s):NetW w (.slice (some ⟨s.ob,0,none⟩) s.n s.cO) (.slice (some ⟨s.gb,0,none⟩) s.n s.cG) s.c.O s.gone:=by
 obtain ⟨l1,l2,l3⟩:=h.lens;obtain ⟨a1,c1,e1,k1⟩:=Cel.of_owns h.out;obtain ⟨a2,c2,e2,k2⟩:=Cel.of_owns h.gon
 cases e1
 cases e2
 refine ⟨_,_,_,_,s.rows,rfl,by rw [l2],k1,l1,k2,?_⟩;intro i hi;have hr:=h.row i;have hi2:i<s.rows.length:=by rw [l1];exact hi
 have eO:s.c.O.getD i []=s.c.O[i]:=by rw [Bj1,Bj0 hi];rfl
 have eR:s.rows.getD i Bk=s.rows[i]:=by rw [Bj1,Bj0 hi2];rfl
 rw [eO,eR] at hr;obtain ⟨a,c,e,k⟩:=Cel.of_owns hr;exact ⟨a,c,by rw [Bj0 hi2,e],k⟩
end
end Go.Proofs.YteaaapdjplbljaaGreat
