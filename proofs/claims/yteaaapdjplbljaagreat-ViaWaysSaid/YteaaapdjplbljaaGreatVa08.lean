/- Parts; no condition. -/
import Derived.Test.YteaaapdjplbljaaGreatVa07
set_option linter.unusedVariables false
set_option linter.unusedSimpArgs false
set_option linter.unnecessarySimpa false
set_option maxRecDepth 100000
set_option maxHeartbeats 8000000
namespace Go.Proofs.YteaaapdjplbljaaGreat
section
open Go Go.Proofs Go.RowKit Go.Shelf Hp Ch
theorem Op:Gl Tryz.prog 4 (.bool false) 1 1:=⟨by kernel_rfl,rfl,by decide⟩
def Ag4 (E:TypeId) (size n:Nat) (xs:List Value) (w:World) (e:Ending) (w':World):Prop:=
 ∃g cap,e=.returned (.slice (some ⟨g,0,none⟩) n cap)/\w'.ownsRow w.heap.size E size (.slice (some ⟨g,0,none⟩) n cap) n xs/\Below w.heap.size w w'
theorem Af3 (gone:List Bool) (gb gof cg:Nat) (w:World) (h:Cel w (some ⟨gb,gof,none⟩) (gone.map Jb)) (h0:0<gone.length) (hl:gone.length<=1000000):
  Calls Tryz.prog 230 #[.slice (some ⟨gb,gof,none⟩) gone.length cg] w (Ag4 4 1 gone.length (gone.map Jb) w):=by
 have hlit:(w.alloc (.cells #[] 4)).ownsRow w.heap.size 4 1 (.slice (some ⟨w.heap.size,0,none⟩) 0 0) 0 []:=World.ownsRow_lit (base:=w.heap.size) (e:=4) (size:=1) w #[] 0 (Bj5 _) (by unfold maxLen;omega) rfl;have heq:=Lib.run_eql_slice_nil (P:=Tryz.prog) w 177 4 (some ⟨gb,gof,none⟩) gone.length cg 0 0 Tryz.underlying177;simp only [Option.isNone] at heq;obtain ⟨i0,hi,hz0,hsz,hby⟩:=info_parts Op.1;have HL:=Bj3 hlit;have HC:=Bj3 (h.go (Below.of_al w (.cells #[] 4)));clear hlit h;unfold Ag4
 go_enter Tryz.func230,Tryz.ntmps230
 go_wp2_with (at_builtin;refine wpList_append_own _ rfl _ _ _ rfl w.heap.size 4 i0 (.bool false) 1 1 Tryz.underlying177 hi hz0 hsz hby rfl (by decide) (.slice (some ⟨w.heap.size,0,none⟩) 0 0) 0 [] rfl HL.out ⟨gb,gof,none⟩ gone.length cg (gone.map Jb) rfl (by simp) (fun j u hj=>by rw [Addr.add_lit];obtain ⟨b',o',e,h⟩:=HC.out j u hj;cases e;exact h) (by intro u hu;obtain ⟨b,_,rfl⟩:=List.mem_map.1 hu;rfl) (by unfold maxLen;omega) (by omega) (by simp) ?_;intro v1 w1 ho1 hg1 hn1)
 have hbl:=(Below.of_al w (.cells #[] 4)).grown hg1 (by simp) (fun k hk=>(HL.out.lt k hk).1);rw [Nat.zero_add,List.nil_append] at ho1;obtain ⟨g,cap,rfl⟩:=Ap ho1 h0
 go_ret
 exact ⟨_,_,rfl,ho1,hbl⟩
def Xf (O:List (List (Int×Int))) (gone:List Bool) (v:Nat) (w:World) (e:Ending) (w':World):Prop:=
 ∃(l:List (Int×Int×Int)) (ao bo:Option Addr) (ca cb:Nat),e=.returned (.tuple #[.slice ao l.length ca,.slice bo l.length cb])/\Cel w' ao (Aq (l.map (·.2)))/\Cel w' bo (l.map (fun y=>.int .i64 y.1))/\
  KeptI O gone v (Eo O gone v O.length) O.length 0 l/\Below w.heap.size w w'/\(∀k,(Value.slice ao l.length ca).ownBlock=some k->w.heap.size<=k)/\(∀k,(Value.slice bo l.length cb).ownBlock=some k->w.heap.size<=k)
theorem Rg {w w':World} {base size n:Nat} {e:TypeId} {u6 u7:Value} {xs:List Value} (h:w.ownsRow base e size u7 n xs) (hg:w.grownBy w' u6.ownBlock) (hs:∀k,u6.ownBlock=some k->u7.ownBlock≠some k):w'.ownsRow base e size u7 n xs:=by
 refine h.kept hg ?_
 cases hv:u7.ownBlock with
 |none=>exact .inl rfl
 |some k=>exact .inr (fun e=>hs k e.symm hv)
theorem Yy (O:List (List (Int×Int))) (gone:List Bool) (vo vg vr:Value) (v settles:Nat) (hops B:Int) (w:World) (hn:NetW w vo vg O gone) (hv:v<O.length) (hO:NetOK O gone B) (hB:0<=B/\B<=288230376151711744) (hse:settles<=1000000) (hlen:O.length<=60000) (hrow:∀l∈O,l.length<=1000000) (hvr:∃a n c,vr=.slice a n c):
  Calls Tryz.prog 167 #[.agg #[vo,vg],.int .i64 v,.agg #[.int .i64 hops,.int .i64 settles,vr]] w (Xf O gone v w):=by
 have HN:=Bj3 hn;obtain ⟨ra,rn,rc,rfl⟩:=hvr;obtain ⟨ao,co,go,cg,rows,rfl,rfl,h3,h4,h5,h6⟩:=hn;have HGL:=Bj3 hO.len;obtain ⟨gb,gof,e1,-⟩:=h5.at (i:=v) (show v<gone.length by have:=HGL.out;omega);subst e1;obtain ⟨ob,oo,hao,-⟩:∃ob oo,ao=some ⟨ob,oo,none⟩/\True:=by
  obtain ⟨ai,ci,k1,_⟩:=h6 v hv;obtain ⟨ob,oo,rfl,_⟩:=h3 v _ k1;exact ⟨ob,oo,rfl,trivial⟩
 subst hao;have HGC:=Bj3 h5;clear h3 h4 h5 h6;unfold Xf;obtain ⟨mm,hmm⟩:∃mm,mm=Eo O gone v O.length:=⟨_,rfl⟩;have HLT:=Bj3 (show Lights O gone v mm by rw [hmm];exact Ad0 O gone ⟨by omega,by omega⟩);rw [<-hmm];have HMM:=Bj3 hmm;clear hmm
 go_enter Tryz.func167,Tryz.ntmps167
 go_upto_region 1 with (fail)
 obtain ⟨W0,hW⟩:∃W,W=(w.alloc (Obj.cells #[.slice (some ⟨ob,oo,none⟩) O.length co,.slice (some ⟨gb,gof,none⟩) gone.length cg] 179)).alloc (Obj.cells #[.int .i64 hops,.int .i64 (settles:Int),.slice ra rn rc] 27):=⟨_,rfl⟩;have hbw:Below w.heap.size w W0:=by rw [hW];exact (Below.of_al _ _).al _
 have HB:=Bj3 hbw;have HNW:=Bj3 (HN.out.go hbw);have HGC0:=Bj3 (HGC.out.go hbw);have HPB:=Bj3 (show PB W0 w.heap.size [.slice (some ⟨ob,oo,none⟩) O.length co,.slice (some ⟨gb,gof,none⟩) gone.length cg] by rw [hW];exact (PB.new2 _ _ _ _).go (Below.of_al _ _));have HPO:=Bj3 (show PB W0 (w.heap.size+1) [.int .i64 hops,.int .i64 (settles:Int),.slice ra rn rc] by
  rw [hW];have:=PB.new3 (w.alloc (Obj.cells #[.slice (some ⟨ob,oo,none⟩) O.length co,.slice (some ⟨gb,gof,none⟩) gone.length cg] 179)) 27 (.int .i64 hops) (.int .i64 (settles:Int)) (.slice ra rn rc)
  rwa [show (w.alloc (Obj.cells #[.slice (some ⟨ob,oo,none⟩) O.length co,.slice (some ⟨gb,gof,none⟩) gone.length cg] 179)).heap.size=w.heap.size+1 by simp] at this)
 have HSZ:=Bj3 (show W0.heap.size=w.heap.size+2 by rw [hW];simp);rw [<-hW];clear hW hbw HGC;obtain ⟨b0,-⟩:=HPB.out 0 _ rfl;obtain ⟨b1,-⟩:=HPB.out 1 _ rfl;have hv0:(0:Int)<=(v:Int):=by omega
 have hv1:(v:Int)<(gone.length:Int):=by have:=HGL.out;omega
 have HLI:=Bj3 (Ie O gone _ _ v B W0 HNW.out hv hO (by omega) hlen hrow);have HCL:=Bj3 (fun W (h:Below W0.heap.size W0 W)=>Af3 gone gb gof cg W (HGC0.out.go h) (by omega) (by have:=HGL.out;omega));have HO:=Bj3 hO;have HLEN:=Bj3 hlen;have hb0:=hB.1;clear hO;unfold Tb at HLI;rw [<-HMM.out] at HLI;unfold Ag4 at HCL
 go_wp2_with (first
  |(go_at_call 168;refine HLI.out.mono ?_;rintro e w1 ⟨bt,bf,rfl,hmt,hmf,hne,hbt,hbf,hb1⟩;(have HMT:=Bj3 hmt;have HMF:=Bj3 hmf;have HNE:=Bj3 (And.intro hne (And.intro hbt hbf));have HB1:=Bj3 hb1;clear hmt hmf hne hbt hbf);(obtain ⟨c1,-⟩:=(HPB.out.go hb1) 1 _ rfl))
  |(go_at_call 230;refine (HCL.out _ HB1.out).mono ?_;rintro e w2 ⟨g,cap2,rfl,ho2,hb2⟩;(have HG:=Bj3 ho2;have HB2:=Bj3 hb2);(obtain ⟨d1,d1f⟩:=((HPB.out.go HB1.out).go hb2) 1 _ rfl);(have z2:=ho2.frozenAt v);(have s2:=(ho2.cellAt v (by have:=HGL.out;omega)).trans (show (gone.map Jb)[v]? =some (Jb (gone[v]'(by have:=HGL.out;omega))) by rw [Bl2,Bj8];rfl));(have hgN:g≠w.heap.size:=by have:=(ho2.lt g rfl).1;have:=HB1.out.size;have:=HSZ.out;omega);(obtain ⟨d0,-⟩:=((HPB.out.go HB1.out).go hb2) 0 _ rfl);(have HD:=Bj3 (And.intro d0 (And.intro d1 (And.intro s2 hgN))));(have s3:=fun x=>(Bk1 w2 ⟨w.heap.size,1,none⟩ ⟨g,v,none⟩ x (fun e=>hgN (congrArg Addr.block e).symm)).trans s2);(have d3:=fun x y=>((Bk1 (w2.setCell ⟨w.heap.size,1,none⟩ x) ⟨g,v,none⟩ ⟨w.heap.size,0,none⟩ y (fun e=>hgN (congrArg Addr.block e))).trans (Bk1 w2 ⟨w.heap.size,1,none⟩ ⟨w.heap.size,0,none⟩ x (by simp))).trans d0);clear ho2 hb2 hb1))
 obtain ⟨W,hW⟩:∃W,W=(w2.setCell ⟨w.heap.size,1,none⟩ (.slice (some ⟨g,0,none⟩) gone.length cap2)).setCell ⟨g,v,none⟩ (.bool true):=⟨_,rfl⟩;obtain ⟨d0',d1',s2',hgN'⟩:=HD.out;have hg1:=(HG.out.lt g rfl).1;have hz1:=HB1.out.size;have hz0:=HSZ.out;have hoW:OffX (fun k=>k=w.heap.size\/k=g) w2 W:=by rw [hW];exact (OffX.set _ (.inl rfl)).trans (OffX.set _ (.inr rfl))
 have hbW:Below w.heap.size w W:=by rw [hW];exact (((HB.out.st HB1.out).st HB2.out).setCell (p:=⟨w.heap.size,1,none⟩) (Bj5 _) _).setCell (p:=⟨g,v,none⟩) (by show w.heap.size<=g;omega) _
 have hMT:=(HMT.out.go HB2.out).off hoW (by have:=HMT.out.lt;have:=HNE.out.2.1;omega);have hMF:=(HMF.out.go HB2.out).off hoW (by have:=HMF.out.lt;have:=HNE.out.2.2;omega);have hgr:W.ownsRow w1.heap.size 4 1 (.slice (some ⟨g,0,none⟩) gone.length cap2) gone.length ((gone.set v true).map Jb):=by
  rw [hW];have:=((ownsRow_setCell_other (a:=⟨w.heap.size,1,none⟩) HG.out (by simp only [Value.ownBlock];intro e;exact hgN' (Bm2 e)) (.slice (some ⟨g,0,none⟩) gone.length cap2)).stored v (.bool true)).1;rw [List.map_set];exact this
 have hnw:NetW W (.slice (some ⟨ob,oo,none⟩) O.length co) (.slice (some ⟨g,0,none⟩) gone.length cap2) O (gone.set v true):=by
  obtain ⟨ao',co',go',cg',rows,e1,e2,h3,h4,h5,h6⟩:=HN.out.go hbW
  cases e1
  obtain ⟨a',c',e,hc⟩:=Cel.of_owns hgr
  cases e
  exact ⟨_,_,_,_,rows,rfl,by rw [Bk4],h3,h4,hc,h6⟩
 have hn1:W.cell? ⟨w.heap.size,0,none⟩=some (.slice (some ⟨ob,oo,none⟩) O.length co):=by rw [hW];exact d3 _ _
 have hn2:W.cell? ⟨w.heap.size,1,none⟩=some (.slice (some ⟨g,0,none⟩) gone.length cap2):=by
  rw [hW,Bk1 _ _ _ _ (fun e=>hgN' (congrArg Addr.block e))];exact Bk2 w2 ⟨w.heap.size,1,none⟩ _ d1'
 have hpo:PB W (w.heap.size+1) [.int .i64 hops,.int .i64 (settles:Int),.slice ra rn rc]:=(((HPO.out.go HB1.out).go HB2.out).eq (hoW.block _ (by have:=HB2.out.size;omega) (by rintro (e|e)<;>omega)));have HX:=Bj3 (And.intro hn1 (And.intro hn2 (And.intro (hpo 0 _ rfl).1 (hpo 1 _ rfl).1)));have HWB:=Bj3 hbW;have HM1:=Bj3 hMT;have HM2:=Bj3 hMF;have HNX:=Bj3 hnw;rw [<-hW];clear hW d0' d1' s2' hgN' hg1 hz1 hz0 hoW hbW hMT hMF hgr hnw hn2 hpo d3 s3 d1 d1f z2 s2 HD HG HB2 HB1 HMT HMF HNE HCL HLI HPB HPO HNW HGC0 HN HSZ HB b0 b1 c1;clear HMM;have HSEA:=Bj3 (fun W' (s t:Nat) below (h:Below W.heap.size W W') hs ht hb=>Ab1 O (gone.set v true) _ _ s t settles below hops B W' (HNX.out.go h) hs ht ⟨by rw [Bk4];exact HGL.out,HO.out.arcs⟩ ⟨hB.1,by omega⟩ hb hse hlen hrow);have hb2:2*B<=576460752303423488:=by omega
 have HBB:=Bj3 hb2;have HEL:=Bj3 (fun u x (h:mm.1 u=some x)=>(show 0<=x/\x<=B by
  obtain ⟨⟨p1,_,p2⟩,_⟩:=(HLT.out.to u).1 x h;have:=HO.out.arcs u _ p1 p2;exact ⟨by have:=this.2.1;simp only at this;omega,this.2.2⟩))
 have HEF:=Bj3 (fun u x (h:mm.2 u=some x)=>(show 0<=x/\x<=B by
  obtain ⟨p1,_⟩:=(HLT.out.fr u).1 x h;have:=HO.out.arcs v _ ⟨by omega,by omega⟩ p1;exact ⟨by have:=this.2.1;simp only at this;omega,this.2.2⟩))
 have HMAX:=Bj3 (show O.length*O.length<=60000*60000 from Nat.mul_le_mul hlen hlen);clear hb2 hB hse hrow
 go_loopg [6,7,35] O.length (fun gg v6 v7 v35 wr=>∃(i:Nat) (l:List (Int×Int×Int)),i<=O.length/\O.length-i<=gg/\v35=.int .i64 i/\Aside (KeptI O gone v mm i 0 l)/\Aside (wr.ownsRow W.heap.size 253 2 v6 l.length (Aq (l.map (·.2))))/\Aside (wr.ownsRow W.heap.size 3 1 v7 l.length (l.map fun y=>Value.int .i64 y.1))/\Aside (∀k,v6.ownBlock=some k->v7.ownBlock≠some k)/\Aside (Below W.heap.size W wr))
 case atStart=>exact ⟨0,[],Bj6 _,by omega,rfl,KeptI.begin,World.ownsRow_nil _ _ _ _,World.ownsRow_nil _ _ _ _,fun k h=>(by cases h),Below.refl _ _⟩
 case round=>
  obtain ⟨i,l,hi,hgg,rfl,HK,HR6,HR7,HSP,HWR⟩:=hrel;have x0:=Bj4 HWR.out HX.out.1
  by_cases hlt:i<O.length
  ·have hlt2:(i:Int)<(O.length:Int):=by omega
   have hl6:(O.length:Int)<=60000:=by omega
   have lk:=(HM1.out.go HWR.out).look (u:=(i:Int)) (by constructor<;>omega)
   cases hmi:mm.1 (i:Int) with
   |none=>
    rw [hmi] at lk;simp only [Option.getD,Option.isSome] at lk;have HK2:=Bj3 (HK.out.skipRow hmi);clear hmi
    go_wp2
    go_roundg (O.length-(i+1))
    case measure=>omega
    case rel=>exact ⟨i+1,l,by omega,Bj5 _,by go_num,HK2.out,HR6.out,HR7.out,HSP.out,HWR.out⟩
   |some a=>
    rw [hmi] at lk;simp only [Option.getD,Option.isSome] at lk;have HMI:=Bj3 hmi;have HA:=Bj3 (HEL.out _ _ hmi);clear hmi
    go_wp2
    go_loopg [6,7,49] O.length (fun g2 v6 v7 v49 wr2=>∃(j:Nat) (l:List (Int×Int×Int)),j<=O.length/\O.length-j<=g2/\v49=.int .i64 j/\Aside (KeptI O gone v mm i j l)/\Aside (wr2.ownsRow W.heap.size 253 2 v6 l.length (Aq (l.map (·.2))))/\Aside (wr2.ownsRow W.heap.size 3 1 v7 l.length (l.map fun y=>Value.int .i64 y.1))/\Aside (∀k,v6.ownBlock=some k->v7.ownBlock≠some k)/\Aside (Below W.heap.size W wr2))
    case atStart=>exact ⟨0,l,Bj6 _,by omega,rfl,HK.out,HR6.out,HR7.out,HSP.out,HWR.out⟩
    case round=>
     clear HK HR6 HR7 HSP HWR x0 lk;obtain ⟨j,l,hj,hjg,rfl,HK,HR6,HR7,HSP,HWR⟩:=hrel
     by_cases hjl:j<O.length
     ·have hjl2:(j:Int)<(O.length:Int):=by omega
      have lk:=(HM2.out.go HWR.out).look (u:=(j:Int)) (by constructor<;>omega)
      cases hmj:mm.2 (j:Int) with
      |none=>
       rw [hmj] at lk;simp only [Option.getD,Option.isSome] at lk;have HK2:=Bj3 (HK.out.skip (.inl hmj));clear hmj
       go_wp2
       go_roundg (O.length-(j+1))
       case measure=>omega
       case rel=>exact ⟨j+1,l,by omega,Bj5 _,by go_num,HK2.out,HR6.out,HR7.out,HSP.out,HWR.out⟩
      |some b=>
       rw [hmj] at lk;simp only [Option.getD,Option.isSome] at lk;have HMJ:=Bj3 hmj;have HBJ:=Bj3 (HEF.out _ _ hmj);clear hmj
       by_cases hij:i=j
       ·have HK2:=Bj3 (HK.out.skip (.inr hij))
        subst hij;have hee:((i:Int)==(i:Int))=true:=by simp
        go_wp2
        go_roundg (O.length-(i+1))
        case measure=>omega
        case rel=>exact ⟨i+1,l,by omega,Bj5 _,by go_num,HK2.out,HR6.out,HR7.out,HSP.out,HWR.out⟩
       ·have hee:((i:Int)==(j:Int))=false:=by rw [beq_eq_false_iff_ne];omega
        have HIJ:=Bj3 hij;clear hij;have hab:IntKind.u64.wrap (a+b)=a+b:=by rw [Bo5];have:=HA.out;have:=HBJ.out;have:=HBB.out;omega
        have y0:=Bj4 HWR.out HX.out.1;have y1:=Bj4 HWR.out HX.out.2.1;have y2:=Bj4 HWR.out HX.out.2.2.1;have y3:=Bj4 HWR.out HX.out.2.2.2;have HSE:=Bj3 (HSEA.out wr i j (a+b) HWR.out (by rw [Bk4];have:=HGL.out;omega) (by rw [Bk4];have:=HGL.out;omega) (by have:=HA.out;have:=HBJ.out;have:=HBB.out;omega));unfold Kt at HSE;have HLL:=Bj3 (show l.length<=3600060000 by have:=HK.out.len;have:=Nat.mul_le_mul_right O.length hi;have:=HMAX.out;omega)
        go_wp2_with (first
         |(go_at_call 231;refine HSE.out.mono ?_;rintro e w5 ⟨d,bb,rfl,hway,hb5⟩;(have HWY:=Bj3 hway;have HB5:=Bj3 hb5;clear hway hb5))
         |(at_builtin;refine Du W.heap.size 253 _ 2 16 Zl Tryz.underlying247 u6 l.length _ ⟨w5.heap.size,0,none⟩ 1 1 [.int .i64 (j:Int),.int .u64 (a+b)] rfl rfl (World.ownsRow.alloc (Ag HR6.out HB5.out) _) (Ad3 _ _ _ _ rfl) (Qb _ _) ⟨rfl,by decide,(by have:=HLL.out;omega),(by have:=HLL.out;omega),((HWR.out.st HB5.out).al _).size⟩ ?_;intro g6 cap6 w6 hown6 hgrow6 hbl6 hat6 hlt6;(have H6:=Bj3 (And.intro hown6 (And.intro hbl6 (And.intro hat6 hlt6)));have O7:=Bj3 (Rg (World.ownsRow.alloc (Ag HR7.out HB5.out) _) hgrow6 HSP.out);clear hown6 hgrow6 hbl6 hat6 hlt6))
         |(at_builtin;refine Du W.heap.size 3 _ 1 8 Cr Tryz.underlying25 u7 l.length _ ⟨w6.heap.size,0,none⟩ 1 1 [.int .i64 (i:Int)] rfl rfl (World.ownsRow.alloc O7.out _) (cell_one_new _ _ _) (Cv rfl) ⟨rfl,by decide,(by have:=HLL.out;omega),(by have:=HLL.out;omega),(((((HWR.out.st HB5.out).al _).trans H6.out.2.1).al _)).size⟩ ?_;intro g7 cap7 w7 hown7 hgrow7 hbl7 hat7 hlt7;(have H7:=Bj3 (And.intro hown7 (And.intro hbl7 (And.intro hat7 hlt7)));have O6:=Bj3 (And.intro hgrow7 trivial);clear hown7 hgrow7 hbl7 hat7 hlt7)))
        ·obtain ⟨h61,h62,h63,h64⟩:=H6.out
         obtain ⟨h71,h72,h73,h74⟩:=H7.out;have hq7:∀k,u7.ownBlock=some k->k<w5.heap.size:=fun k hk=>((Ag HR7.out HB5.out).lt k hk).2;have hg6:∀k,u7.ownBlock=some k->(Value.slice (some ⟨g6,0,none⟩) (l.length+1) cap6).ownBlock≠some k:=by
          intro k hk e;have e2:g6=k:=Bm2 e;subst e2
          rcases h63 with e3|e3
          ·exact HSP.out _ e3 hk
          ·have:=hq7 _ hk
           simp only [World.size_alloc] at e3;omega
         have ho6:=Rg (World.ownsRow.alloc h61 (Obj.cells #[Value.int .i64 (i:Int)] 3)) O6.out.1 hg6;have hk:=HK.out.keep (by omega) (by omega) HIJ.out HMI.out HMJ.out;have e6:Aq ((l++[((i:Int),(j:Int),a+b)]).map (·.2))=Aq (l.map (·.2))++[.int .i64 (j:Int),.int .u64 (a+b)]:=by rw [Bn4,Ei];rfl
         have e7:(l++[((i:Int),(j:Int),a+b)]).map (fun y=>Value.int .i64 y.1)=l.map (fun y=>Value.int .i64 y.1)++[.int .i64 (i:Int)]:=by rw [Bn4];rfl
         have el:(l++[((i:Int),(j:Int),a+b)]).length=l.length+1:=by simp
         go_roundg (O.length-(j+1))
         case measure=>omega
         case rel=>
          refine ⟨j+1,l++[((i:Int),(j:Int),a+b)],by omega,Bj5 _,by go_num,hk,?_,?_,?_,(((((HWR.out.st HB5.out).al _).trans h62).al _).trans h72)⟩
          ·show World.ownsRow _ _ _ _ _ _ _
           rw [el,e6];exact ho6
          ·show World.ownsRow _ _ _ _ _ _ _
           rw [el,e7];exact h71
          ·intro k hk6 hk7
           have e1:g6=k:=Bm2 hk6;have e2:g7=k:=Bm2 hk7;subst e1
           rcases h73 with e3|e3
           ·exact hg6 g7 e3 (by rw [e2];rfl)
           ·simp only [World.size_alloc] at e3
            omega
        ·rename_i hbb
         have hbt:bb=true:=by simpa using hbb
         obtain ⟨hw0,hwd⟩:=HWY.out hbt;have hway:Ch.Way (NR O (gone.set v true)) Any (i:Int) (j:Int) d:=by
          rcases hw0 with ⟨e1,_⟩|h
          ·exact absurd e1 (by have:=HIJ.out;omega)
          ·exact h
         have hk:=HK.out.lighter HMI.out HMJ.out (by rw [show ((v:Int)).toNat=v from rfl];exact hway) hwd
         go_roundg (O.length-(j+1))
         case measure=>omega
         case rel=>exact ⟨j+1,l,by omega,Bj5 _,by go_num,hk,Ag HR6.out HB5.out,Ag HR7.out HB5.out,HSP.out,HWR.out.st HB5.out⟩
     ·obtain rfl:j=O.length:=by omega
      go_wp2
      go_roundg (O.length-(i+1))
      case measure=>omega
      case rel=>exact ⟨i+1,l,by omega,Bj5 _,by go_num,HK.out.row,HR6.out,HR7.out,HSP.out,HWR.out⟩
  ·obtain rfl:i=O.length:=by omega
   obtain ⟨ax,cx,rfl,hcx⟩:=Cel.of_owns HR6.out;obtain ⟨ay,cy,rfl,hcy⟩:=Cel.of_owns HR7.out
   go_wp2
   refine bodyPost_ret (v:=.tuple #[.slice ax l.length cx,.slice ay l.length cy]) (by simp [results,Tryz.results167,go_sem];try rfl) rfl ?_;exact ⟨l,ax,ay,cx,cy,rfl,hcx,hcy,HK.out,HWB.out.st HWR.out,fun k hk=>Bj7 HWB.out.size (HR6.out.lt k hk).1,fun k hk=>Bj7 HWB.out.size (HR7.out.lt k hk).1⟩
end
section
open Go.Proofs Go.RowKit Go.Shelf
def La (n:Nat):List Int:=(List.range n).map Int.ofNat
theorem Dy (n:Nat):(La n).length=n:=by simp [La]
theorem Cp {n:Nat} {x:Int}:x∈La n↔0<=x/\x<n:=by
 unfold La;rw [List.mem_map];constructor
 ·rintro ⟨a,ha,rfl⟩
  have:=Bm7.1 ha;exact ⟨Int.natCast_nonneg _,by show (a:Int)<n;omega⟩
 ·rintro ⟨h0,h1⟩
  exact ⟨x.toNat,Bm7.2 (by omega),by show ((x.toNat:Nat):Int)=x;omega⟩
theorem Lv (n:Nat):(La n).Nodup:=by
 unfold La;refine List.Pairwise.map _ ?_ List.nodup_range;intro a b hab h;exact hab (Int.ofNat.inj h)
theorem De:∀(a b:List Int),a.Nodup->(∀x∈a,x∈b)->a.length<=b.length
 |[],_,_,_=>by simp
 |x::r,b,hn,hs=>by
  have hx:=hs x (by simp);obtain ⟨h1,h2⟩:=List.nodup_cons.1 hn;have h3:=De r (b.erase x) h2 (fun y hy=>(List.mem_erase_of_ne (by rintro rfl;exact h1 hy)).2 (hs y (by simp [hy])));have h4:=List.length_erase_of_mem hx;have h5:=List.length_pos_of_mem hx;rw [Bk8];omega
def Be (l:List Int):Bool:=(List.range l.length).all fun i=>l.contains (i:Int)
theorem Lo {l:List Int} (h:∀x∈La l.length,x∈l):Be l=true:=by
 unfold Be;rw [List.all_eq_true];intro i hi;rw [List.contains_iff_mem];exact h _ (Cp.2 ⟨by omega,by have:=Bm7.1 hi;omega⟩)
theorem Ke {l:List Int} (h:Be l=true):∀x∈La l.length,x∈l:=by
 intro x hx;obtain ⟨h0,h1⟩:=Cp.1 hx;unfold Be at h;rw [List.all_eq_true] at h;have:=h x.toNat (Bm7.2 (by omega));rw [List.contains_iff_mem] at this
 rwa [Bo0 h0] at this
def Pj (l:List Int) (k:Nat):Prop:=∀i (h:i<l.length),i<k->0<=l[i]/\l[i]<l.length/\∀j (h2:j<i),l[j]≠l[i]
theorem Ac0 (l:List Int):Pj l 0:=fun _ _ h=>absurd h (Nat.not_lt_zero _)
theorem Ac1 {l:List Int} {k:Nat} (h:Pj l k) (hk:k<l.length) (h0:0<=l[k]) (h1:l[k]<l.length) (h2:∀j (hj:j<k),l[j]≠l[k]):Pj l (k+1):=by
 intro i hi hik
 by_cases e:i=k
 ·subst e;exact ⟨h0,h1,h2⟩
 ·exact h i hi (by omega)
theorem Jq {l:List Int} (h:Pj l l.length):l.Nodup:=by
 unfold List.Nodup;rw [List.pairwise_iff_getElem];intro i j hi hj hij;exact (h j hj hj).2.2 i hij
theorem At8 {l:List Int} (h:Pj l l.length):Be l=true:=by
 refine Lo fun x hx=>?_
 by_cases hm:x∈l
 ·exact hm
 ·have h1:=De (x::l) (La l.length) (List.nodup_cons.2 ⟨hm,Jq h⟩) (fun y hy=>by
   rcases Bm5.1 hy with rfl|hy
   ·exact hx
   ·obtain ⟨i,hi,rfl⟩:=Bn7.1 hy
    have:=h i hi hi;exact Cp.2 ⟨this.1,this.2.1⟩)
  rw [Dy] at h1;simp at h1;omega
theorem Fb {l:List Int} (h:Be l=true):∀x∈l,0<=x/\x<l.length:=by
 intro x hx
 by_cases hr:x∈La l.length
 ·exact Cp.1 hr
 ·have h1:=De (La l.length) (l.erase x) (Lv _) (fun y hy=>(List.mem_erase_of_ne (by rintro rfl;exact hr hy)).2 (Ke h y hy))
  rw [Dy,List.length_erase_of_mem hx] at h1;have:=List.length_pos_of_mem hx;omega
theorem Al9 {l:List Int} {x:Int} (hx:x∈l) (h:x<0\/(l.length:Int)<=x):Be l=false:=by
 cases e:Be l with
 |false=>rfl
 |true=>have:=Fb e x hx;omega
theorem Ug {l:List Int} {j k:Nat} (hk:k<l.length) (hj:j<k) (h:l[j]=l[k]):Be l=false:=by
 cases e:Be l with
 |false=>rfl
 |true=>
  have h1:=De (La l.length) (l.eraseIdx k) (Lv _) (fun y hy=>by
   obtain ⟨i,hi,rfl⟩:=Bn7.1 (Ke e y hy);rw [List.mem_eraseIdx_iff_getElem]
   by_cases c:i=k
   ·subst c;exact ⟨j,by omega,by omega,h⟩
   ·exact ⟨i,hi,c,rfl⟩)
  rw [Dy,List.length_eraseIdx_of_lt hk] at h1;omega
theorem Jm {l:List Int} (h:Be l=true):Pj l l.length:=by
 intro i hi _;have h1:=Fb h l[i] (Bk5 hi);refine ⟨h1.1,h1.2,fun j hj e=>?_⟩;rw [Ug hi hj e] at h
 cases h
def Rn (l:List Int) (k:Nat):List Bool:=(List.range l.length).map fun v=>(l.take k).contains ((v:Nat):Int)
theorem Js (l:List Int) (k:Nat):(Rn l k).length=l.length:=by simp [Rn]
theorem Am8 (l:List Int):Rn l 0=List.replicate l.length false:=by
 unfold Rn
 apply List.ext_getElem
 ·simp
 ·intro i h1 h2
  simp
theorem Rm {l:List Int} {k v:Nat} (hv:v<l.length):(Rn l k)[v]? =some ((l.take k).contains (v:Int)):=by
 unfold Rn;rw [Bl2,List.getElem?_range hv];rfl
theorem Av4 {l:List Int} {k v:Nat} (hk:k<l.length) (hv:l[k]=(v:Int)) (hl:v<l.length):(Rn l k).set v true=Rn l (k+1):=by
 apply List.ext_getElem?
 intro i;rw [List.getElem?_set]
 by_cases hi:i<l.length
 ·rw [Rm hi,Rm hi,Bl1 hk]
  by_cases e:v=i
  ·subst e
   simp [Js,hl,hv]
  ·rw [if_neg e]
   congr 1
   rw [List.contains_eq_mem,List.contains_eq_mem]
   congr 1
   rw [Bm6,Bl0,hv];simp;omega
 ·rw [if_neg (by omega),Bn0 (by rw [Js];omega),Bn0 (by rw [Js];omega)]
theorem Bc3 {l:List Int} {k v:Nat} (hk:k<l.length) (hv:l[k]=(v:Int)) (h:(l.take k).contains (v:Int)=false):∀j (hj:j<k),l[j]≠l[k]:=by
 intro j hj e;have:(v:Int)∈l.take k:=by
  rw [<-hv,<-e];rw [List.mem_take_iff_getElem];exact ⟨j,by omega,rfl⟩
 rw [List.contains_eq_mem] at h;simp [this] at h
theorem Av3 {l:List Int} {k v:Nat} (hk:k<l.length) (hv:l[k]=(v:Int)) (h:(l.take k).contains (v:Int)=true):Be l=false:=by
 rw [List.contains_iff_mem,List.mem_take_iff_getElem] at h;obtain ⟨j,hj,e⟩:=h;exact Ug hk (j:=j) (by omega) (by rw [hv];exact e)
def Oh (l:List Int):Nat->List Int
 |0=>List.replicate l.length 0
 |k+1=>(Oh l k).set (l.getD k 0).toNat k
theorem Gs (l:List Int):∀k,(Oh l k).length=l.length
 |0=>by simp [Oh]
 |k+1=>by simp [Oh,Gs l k]
def Fq (l:List Int):List Int:=if Be l then Oh l l.length else []
theorem Ho:Gl Tryz.prog 3 (.int .i64 0) 1 8:=⟨by kernel_rfl,rfl,by decide⟩
theorem Jk (l:List Int) (ao:Option Addr) (cap:Nat) (w:World) (hl:l.length<=1000000) (hc:Cel w ao (l.map Ai)):
  Calls Tryz.prog 160 #[.slice ao l.length cap] w fun e w'=>e=.returned (.bool (Be l))/\Below w.heap.size w w':=by
 have HC:=Bj3 hc;clear hc;have HOK:=Bj3 (@At8 l);have HOUT:=Bj3 (fun k (hk:k<l.length) (h:l[k]<0\/(l.length:Int)<=l[k])=>Al9 (Bk5 hk) h);have HYES:=Bj3 (fun (k v:Nat) (hk:k<l.length) h1 h2=>@Av3 l k v hk h1 h2);generalize Be l=r at*
 go_enter Tryz.func160,Tryz.ntmps160
 go_wp2_with (at_make;go_must ((with_reducible refine Dx w.heap.size 4 _ 1 1 Op Tryz.underlying177 l.length ?_ ?_ ?_ ?_ ?_ ?_ ?_ ?_);rotate_left 4;(· rfl);(· rfl);(· exact ⟨by simp,by simp,by omega,by omega,by simp⟩);intro wm hown hbl hszm;(have Hmo:=Bj3 hown;have Hmb:=Bj3 hbl;clear hown hbl)))
 have HZ0:=Bj3 (show (madeCells (Value.bool false).cells (l.length*1)).toList=(Rn l 0).map Jb by
  show (madeCells #[Value.bool false] (l.length*1)).toList=_
  rw [Nat.mul_one,toList_madeCells_one,Am8,List.map_replicate])
 go_loopg [11] l.length (fun gg i wr=>∃k:Nat,k<=l.length/\l.length-k<=gg/\i=.int .i64 k/\Aside (Pj l k)/\Aside (w.heap.size<wr.heap.size)/\
  Aside (wr.ownsRow w.heap.size 4 1 (.slice (some ⟨w.heap.size,0,none⟩) l.length l.length) l.length ((Rn l k).map Jb))/\Aside (Below w.heap.size w wr))
 case atStart=>exact ⟨0,Bj6 _,by omega,rfl,Ac0 l,hszm,by have:=Hmo.out;rw [HZ0.out] at this;exact this,Hmb.out⟩
 case round=>
  obtain ⟨k,hk,hg,rfl,HP,HZ,HO,HB⟩:=hrel;clear HZ0
  by_cases hlt:k<l.length
  ·obtain ⟨b,o,hao,hcell⟩:=(HC.out.go HB.out).at hlt
   subst hao;have hlt3:(k:Int)<(l.length:Int):=by omega
   have hk0:(0:Int)<=(k:Int):=by omega
   have HOUT2:=Bj3 (HOUT.out k hlt);have HYES2:=Bj3 (fun v h1 h2=>HYES.out k v hlt h1 h2);have HPS:=Bj3 (fun h0 h1 h2=>Ac1 HP.out hlt h0 h1 h2);have HNO:=Bj3 (fun v h1 h2=>@Bc3 l k v hlt h1 h2);have HST:=Bj3 (fun v h1 h2=>@Av4 l k v hlt h1 h2);have HGT:=Bj3 (fun v h=>@Rm l k v h);generalize hx:l[k]=x at*
   by_cases h0:x<0
   ·have HR:=Bj3 (HOUT2.out (.inl h0))
    go_wp2
    go_ret
    exact ⟨by rw [HR.out];rfl,by have:=HB.out;repeat (first|exact Below.refl _ _|refine Below.al ?_ _|refine Below.dr ?_ _|refine Below.drew ?_|assumption|(refine Below.st ?_ (by assumption)))⟩
   ·by_cases h1:(l.length:Int)<=x
    ·have HR:=Bj3 (HOUT2.out (.inr h1))
     go_wp2
     go_ret
     exact ⟨by rw [HR.out];rfl,by have:=HB.out;repeat (first|exact Below.refl _ _|refine Below.al ?_ _|refine Below.dr ?_ _|refine Below.drew ?_|assumption|(refine Below.st ?_ (by assumption)))⟩
    ·obtain ⟨v,rfl⟩:∃v:Nat,x=(v:Int):=⟨x.toNat,by omega⟩
     have hv:v<l.length:=by omega
     have hv3:(v:Int)<(l.length:Int):=by omega
     have hv0:(0:Int)<=(v:Int):=by omega
     have j4:wr.cell? ⟨w.heap.size,v,none⟩=some (.bool ((l.take k).contains (v:Int))):=by
      rw [HO.out.cellAt v (by omega),Bl2,HGT.out v hv];rfl
     have j6:=HO.out.frozenAt v
     cases hq:(l.take k).contains (v:Int) with
     |true=>
      have HR:=Bj3 (HYES2.out v rfl hq);rw [hq] at j4;clear hq
      go_wp2
      go_ret
      exact ⟨by rw [HR.out];rfl,by have:=HB.out;repeat (first|exact Below.refl _ _|refine Below.al ?_ _|refine Below.dr ?_ _|refine Below.drew ?_|assumption|(refine Below.st ?_ (by assumption)))⟩
     |false=>
      have HPS2:=Bj3 (HPS.out hv0 hv3 (HNO.out v rfl hq));have HO2:=Bj3 (show (wr.setCell ⟨w.heap.size,v,none⟩ (Jb true)).ownsRow w.heap.size 4 1 (.slice (some ⟨w.heap.size,0,none⟩) l.length l.length) l.length ((Rn l (k+1)).map Jb) by
       have:=(HO.out.stored v (Jb true)).1;rw [<-List.map_set,HST.out v rfl hv] at this;exact this)
      rw [hq] at j4;clear hq hx
      go_wp2
      go_roundg (l.length-(k+1))
      case measure=>omega
      case rel=>exact ⟨k+1,by omega,by omega,by go_num,HPS2.out,(show w.heap.size<(wr.setCell ⟨w.heap.size,v,none⟩ (Jb true)).heap.size by have:=HZ.out;simpa [World.setCell] using this),HO2.out,HB.out.setCell (Bj5 _) _⟩
  ·obtain rfl:k=l.length:=by omega
   have HR:=Bj3 (HOK.out HP.out)
   go_wp2
   go_ret
   exact ⟨by rw [HR.out];rfl,HB.out⟩
def Ni (w:World) (r:List Int) (e:Ending) (w':World):Prop:=
 ∃ao cap,e=.returned (.slice ao r.length cap)/\Cel w' ao (r.map Ai)/\Below w.heap.size w w'/\∀k,(Value.slice ao r.length cap).ownBlock=some k->w.heap.size<=k
theorem Gw (l:List Int) (ao:Option Addr) (cap:Nat) (w:World) (hl:l.length<=1000000) (hc:Cel w ao (l.map Ai)):
  Calls Tryz.prog 108 #[.slice ao l.length cap] w (Ni w (Fq l)):=by
 have HC:=Bj3 hc;have HR:=Bj3 (fun W h=>Jk l ao cap W hl h);clear hc
 cases hr:Be l with
 |false=>
  have HV:=Bj3 (show Fq l=[] by unfold Fq;rw [hr];rfl);generalize Fq l=r at*;rw [hr] at HR;clear hr
  go_enter Tryz.func108,Tryz.ntmps108
  go_wp2_with (go_at_call 160;refine (HR.out _ HC.out).mono ?_;rintro e w1 ⟨rfl,hb1⟩)
  go_ret
  exact ⟨none,0,by rw [HV.out];rfl,by rw [HV.out];exact Cel.nil _ _,hb1,fun k hk=>by cases hk⟩
 |true=>
  have HV:=Bj3 (show Fq l=Oh l l.length by unfold Fq;rw [hr];rfl);have HIN:=Bj3 (fun k (hk:k<l.length)=>Fb hr l[k] (Bk5 hk));have HS:=Bj3 (fun k (hk:k<l.length)=>(show Oh l (k+1)=(Oh l k).set l[k].toNat k by simp [Oh,List.getD,hk]));have HLN:=Bj3 (Gs l);have HZ:=Bj3 (show Oh l 0=List.replicate l.length 0 from rfl);generalize Fq l=r at*;generalize Oh l=I at*;rw [hr] at HR;clear hr
  go_enter Tryz.func108,Tryz.ntmps108
  go_wp2_with fail
  refine (HR.out _ HC.out).mono ?_;rintro e w1 ⟨rfl,hb1⟩;have HB1:=Bj3 hb1;have HC1:=Bj3 (HC.out.go hb1);clear hb1
  go_wp2_with (at_make;go_must ((with_reducible refine Dx w1.heap.size 3 _ 1 8 Ho Tryz.underlying25 l.length ?_ ?_ ?_ ?_ ?_ ?_ ?_ ?_);rotate_left 4;(· rfl);(· rfl);(· exact ⟨by simp,by simp,by omega,by omega,by simp⟩);intro wm hown hbl hszm;(have Hmo:=Bj3 hown;have Hmb:=Bj3 hbl;clear hown hbl)))
  have HZ0:=Bj3 (show (madeCells (Value.int .i64 0).cells (l.length*1)).toList=(I 0).map Ai by
   show (madeCells #[Value.int .i64 0] (l.length*1)).toList=_
   rw [Nat.mul_one,toList_madeCells_one,HZ.out,List.map_replicate])
  go_loopg [14] l.length (fun gg i wr=>∃k:Nat,k<=l.length/\l.length-k<=gg/\i=.int .i64 k/\Aside (w1.heap.size<wr.heap.size)/\
   Aside (wr.ownsRow w1.heap.size 3 1 (.slice (some ⟨w1.heap.size,0,none⟩) l.length l.length) l.length ((I k).map Ai))/\Aside (Below w1.heap.size w1 wr))
  case atStart=>exact ⟨0,Bj6 _,by omega,rfl,hszm,by have:=Hmo.out;rw [HZ0.out] at this;exact this,Hmb.out⟩
  case round=>
   obtain ⟨k,hk,hg,rfl,HZ2,HO,HB⟩:=hrel;clear HZ0
   by_cases hlt:k<l.length
   ·obtain ⟨b,o,hao,hcell⟩:=(HC1.out.go HB.out).at hlt
    subst hao;have hlt3:(k:Int)<(l.length:Int):=by omega
    have hk0:(0:Int)<=(k:Int):=by omega
    have hin:=HIN.out k hlt;have HS2:=Bj3 (HS.out k hlt);generalize l[k]=x at*;obtain ⟨v,rfl⟩:∃v:Nat,x=(v:Int):=⟨x.toNat,by omega⟩;have hv:v<l.length:=by omega
    obtain ⟨u,j4⟩:∃u,wr.cell? ⟨w1.heap.size,v,none⟩=some u:=by
     rw [HO.out.cellAt v (by omega),Bl2,Bj8 (by rw [HLN.out];omega)];exact ⟨_,rfl⟩
    have j6:=HO.out.frozenAt v;have HO2:=Bj3 (show (wr.setCell ⟨w1.heap.size,v,none⟩ (Ai k)).ownsRow w1.heap.size 3 1 (.slice (some ⟨w1.heap.size,0,none⟩) l.length l.length) l.length ((I (k+1)).map Ai) by
     have:=(HO.out.stored v (Ai k)).1;rw [<-List.map_set] at this;rw [HS2.out];exact this)
    go_wp2
    go_roundg (l.length-(k+1))
    case measure=>omega
    case rel=>exact ⟨k+1,by omega,by omega,by go_num,(show w1.heap.size<(wr.setCell ⟨w1.heap.size,v,none⟩ (Ai k)).heap.size by have:=HZ2.out;simpa [World.setCell] using this),HO2.out,HB.out.setCell (Bj5 _) _⟩
   ·obtain rfl:k=l.length:=by omega
    obtain ⟨ao8,cap8,e8,hc8⟩:=Cel.of_owns HO.out
    cases e8
    have HC8:=Bj3 hc8;have HRL:=Bj3 (show r.length=l.length by rw [HV.out];exact HLN.out _);clear hc8
    go_wp2
    go_ret
    exact ⟨_,l.length,by rw [HRL.out];rfl,by rw [HV.out];exact HC8.out,HB1.out.st HB.out,fun k hk=>by cases hk;exact HB1.out.size⟩
end
end Go.Proofs.YteaaapdjplbljaaGreat
