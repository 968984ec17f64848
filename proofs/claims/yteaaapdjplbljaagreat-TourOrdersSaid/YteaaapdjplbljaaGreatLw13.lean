/- Walk of package contract: the ways by a node that are kept. -/
import Derived.Test.YteaaapdjplbljaaGreatProg
import Derived.Test.YteaaapdjplbljaaGreatLw12
import Derived.WalkSpells
set_option linter.unusedVariables false
set_option linter.unusedSimpArgs false
set_option linter.unnecessarySimpa false
namespace Go.Proofs.YteaaapdjplbljaaGreat
open Go Go.Proofs Go.RowKit Go.Shelf Go.Proofs.YteaaapdjplbljaaGreat.Hp Go.Proofs.YteaaapdjplbljaaGreat.Ch
theorem elem_bool:Elem Tryz.prog 4 (.bool false) 1 1:=⟨by kernel_rfl,rfl,by decide⟩
def ClPost (E:TypeId) (size n:Nat) (xs:List Value) (w:World) (e:Ending) (w':World):Prop:=
 ∃g cap,e=.returned (.slice (some ⟨g,0,none⟩) n cap)∧w'.ownsRow w.heap.size E size (.slice (some ⟨g,0,none⟩) n cap) n xs∧Below w.heap.size w w'
set_option maxRecDepth 100000 in
set_option maxHeartbeats 1000000 in
theorem cloneB_any (gone:List Bool) (gb gof cg:Nat) (w:World) (h:Cel w (some ⟨gb,gof,none⟩) (gone.map encB)) (h0:0<gone.length) (hl:gone.length≤1000000):
  Calls Tryz.prog 230 #[.slice (some ⟨gb,gof,none⟩) gone.length cg] w (ClPost 4 1 gone.length (gone.map encB) w):=by
 have hlit:(w.alloc (.cells #[] 4)).ownsRow w.heap.size 4 1 (.slice (some ⟨w.heap.size,0,none⟩) 0 0) 0 []:=World.ownsRow_lit (base:=w.heap.size) (e:=4) (size:=1) w #[] 0 (Nat.le_refl _) (by unfold maxLen;omega) rfl
 have heq:=Lib.run_eql_slice_nil (P:=Tryz.prog) w 177 4 (some ⟨gb,gof,none⟩) gone.length cg 0 0 Tryz.underlying177
 simp only [Option.isNone] at heq
 obtain ⟨i0,hi,hz0,hsz,hby⟩:=info_parts elem_bool.1
 have HL:=Lib.hid hlit
 have HC:=Lib.hid (h.go (Below.of_al w (.cells #[] 4)))
 clear hlit h
 unfold ClPost
 go_enter Tryz.func230,Tryz.ntmps230
 go_wp2_with (at_builtin;refine wpList_append_own _ rfl _ _ _ rfl w.heap.size 4 i0 (.bool false) 1 1 Tryz.underlying177 hi hz0 hsz hby rfl (by decide) (.slice (some ⟨w.heap.size,0,none⟩) 0 0) 0 [] rfl HL.out ⟨gb,gof,none⟩ gone.length cg (gone.map encB) rfl (by simp) (fun j u hj=>by rw [Addr.add_lit];obtain ⟨b',o',e,h⟩:=HC.out j u hj;cases e;exact h) (by intro u hu;obtain ⟨b,_,rfl⟩:=List.mem_map.1 hu;rfl) (by unfold maxLen;omega) (by omega) (by simp) ?_;intro v1 w1 ho1 hg1 hn1)
 have hbl:=(Below.of_al w (.cells #[] 4)).grown hg1 (by simp) (fun k hk=>(HL.out.lt k hk).1)
 rw [Nat.zero_add,List.nil_append] at ho1
 obtain ⟨g,cap,rfl⟩:=own_form ho1 h0
 go_ret
 exact ⟨_,_,rfl,ho1,hbl⟩
def KpPost (O:List (List (Int×Int))) (gone:List Bool) (v:Nat) (w:World) (e:Ending) (w':World):Prop:=
 ∃(l:List (Int×Int×Int)) (ao bo:Option Addr) (ca cb:Nat),e=.returned (.tuple #[.slice ao l.length ca,.slice bo l.length cb])∧Cel w' ao (flatI (l.map (·.2)))∧Cel w' bo (l.map (fun y=>.int .i64 y.1))∧
  KeptI O gone v (lrows O gone v O.length) O.length 0 l∧Below w.heap.size w w'∧(∀k,(Value.slice ao l.length ca).ownBlock=some k→w.heap.size≤k)∧(∀k,(Value.slice bo l.length cb).ownBlock=some k→w.heap.size≤k)
theorem owns_kept2 {w w':World} {base size n:Nat} {e:TypeId} {u6 u7:Value} {xs:List Value} (h:w.ownsRow base e size u7 n xs) (hg:w.grownBy w' u6.ownBlock) (hs:∀k,u6.ownBlock=some k→u7.ownBlock≠some k):w'.ownsRow base e size u7 n xs:=by
 refine h.kept hg ?_
 cases hv:u7.ownBlock with
 |none=>exact .inl rfl
 |some k=>exact .inr (fun e=>hs k e.symm hv)
set_option maxRecDepth 100000 in
set_option maxHeartbeats 8000000 in
theorem kept_any (O:List (List (Int×Int))) (gone:List Bool) (vo vg vr:Value) (v settles:Nat) (hops B:Int) (w:World) (hn:NetW w vo vg O gone) (hv:v<O.length) (hO:NetOK O gone B) (hB:0≤B∧B≤288230376151711744) (hse:settles≤1000000) (hlen:O.length≤60000) (hrow:∀l∈O,l.length≤1000000) (hvr:∃a n c,vr=.slice a n c):
  Calls Tryz.prog 167 #[.agg #[vo,vg],.int .i64 v,.agg #[.int .i64 hops,.int .i64 settles,vr]] w (KpPost O gone v w):=by
 have HN:=Lib.hid hn
 obtain ⟨ra,rn,rc,rfl⟩:=hvr
 obtain ⟨ao,co,go,cg,rows,rfl,rfl,h3,h4,h5,h6⟩:=hn
 have HGL:=Lib.hid hO.len
 obtain ⟨gb,gof,e1,-⟩:=h5.at (i:=v) (show v<gone.length by have:=HGL.out;omega)
 subst e1
 obtain ⟨ob,oo,hao,-⟩:∃ob oo,ao=some ⟨ob,oo,none⟩∧True:=by
  obtain ⟨ai,ci,k1,_⟩:=h6 v hv
  obtain ⟨ob,oo,rfl,_⟩:=h3 v _ k1
  exact ⟨ob,oo,rfl,trivial⟩
 subst hao
 have HGC:=Lib.hid h5
 clear h3 h4 h5 h6
 unfold KpPost
 obtain ⟨mm,hmm⟩:∃mm,mm=lrows O gone v O.length:=⟨_,rfl⟩
 have HLT:=Lib.hid (show Lights O gone v mm by rw [hmm];exact lights O gone ⟨by omega,by omega⟩)
 rw [←hmm]
 have HMM:=Lib.hid hmm
 clear hmm
 go_enter Tryz.func167,Tryz.ntmps167
 go_upto_region 1 with (fail)
 obtain ⟨W0,hW⟩:∃W,W=(w.alloc (Obj.cells #[.slice (some ⟨ob,oo,none⟩) O.length co,.slice (some ⟨gb,gof,none⟩) gone.length cg] 179)).alloc (Obj.cells #[.int .i64 hops,.int .i64 (settles:Int),.slice ra rn rc] 27):=⟨_,rfl⟩
 have hbw:Below w.heap.size w W0:=by rw [hW];exact (Below.of_al _ _).al _
 have HB:=Lib.hid hbw
 have HNW:=Lib.hid (HN.out.go hbw)
 have HGC0:=Lib.hid (HGC.out.go hbw)
 have HPB:=Lib.hid (show PB W0 w.heap.size [.slice (some ⟨ob,oo,none⟩) O.length co,.slice (some ⟨gb,gof,none⟩) gone.length cg] by rw [hW];exact (PB.new2 _ _ _ _).go (Below.of_al _ _))
 have HPO:=Lib.hid (show PB W0 (w.heap.size+1) [.int .i64 hops,.int .i64 (settles:Int),.slice ra rn rc] by
  rw [hW]
  have:=PB.new3 (w.alloc (Obj.cells #[.slice (some ⟨ob,oo,none⟩) O.length co,.slice (some ⟨gb,gof,none⟩) gone.length cg] 179)) 27 (.int .i64 hops) (.int .i64 (settles:Int)) (.slice ra rn rc)
  rwa [show (w.alloc (Obj.cells #[.slice (some ⟨ob,oo,none⟩) O.length co,.slice (some ⟨gb,gof,none⟩) gone.length cg] 179)).heap.size=w.heap.size+1 by simp] at this)
 have HSZ:=Lib.hid (show W0.heap.size=w.heap.size+2 by rw [hW];simp)
 rw [←hW]
 clear hW hbw HGC
 obtain ⟨b0,-⟩:=HPB.out 0 _ rfl
 obtain ⟨b1,-⟩:=HPB.out 1 _ rfl
 have hv0:(0:Int)≤(v:Int):=by omega
 have hv1:(v:Int)<(gone.length:Int):=by have:=HGL.out;omega
 have HLI:=Lib.hid (lightest_any O gone _ _ v B W0 HNW.out hv hO (by omega) hlen hrow)
 have HCL:=Lib.hid (fun W (h:Below W0.heap.size W0 W)=>cloneB_any gone gb gof cg W (HGC0.out.go h) (by omega) (by have:=HGL.out;omega))
 have HO:=Lib.hid hO
 have HLEN:=Lib.hid hlen
 have hb0:=hB.1
 clear hO
 unfold LiPost at HLI
 rw [←HMM.out] at HLI
 unfold ClPost at HCL
 go_wp2_with (first
  |(go_at_call 168;refine HLI.out.mono ?_;rintro e w1 ⟨bt,bf,rfl,hmt,hmf,hne,hbt,hbf,hb1⟩;(have HMT:=Lib.hid hmt;have HMF:=Lib.hid hmf;have HNE:=Lib.hid (And.intro hne (And.intro hbt hbf));have HB1:=Lib.hid hb1;clear hmt hmf hne hbt hbf);(obtain ⟨c1,-⟩:=(HPB.out.go hb1) 1 _ rfl))
  |(go_at_call 230;refine (HCL.out _ HB1.out).mono ?_;rintro e w2 ⟨g,cap2,rfl,ho2,hb2⟩;(have HG:=Lib.hid ho2;have HB2:=Lib.hid hb2);(obtain ⟨d1,d1f⟩:=((HPB.out.go HB1.out).go hb2) 1 _ rfl);(have z2:=ho2.frozenAt v);(have s2:=(ho2.cellAt v (by have:=HGL.out;omega)).trans (show (gone.map encB)[v]? =some (encB (gone[v]'(by have:=HGL.out;omega))) by rw [List.getElem?_map,List.getElem?_eq_getElem];rfl));(have hgN:g≠w.heap.size:=by have:=(ho2.lt g rfl).1;have:=HB1.out.size;have:=HSZ.out;omega);(obtain ⟨d0,-⟩:=((HPB.out.go HB1.out).go hb2) 0 _ rfl);(have HD:=Lib.hid (And.intro d0 (And.intro d1 (And.intro s2 hgN))));(have s3:=fun x=>(World.cell?_setCell_other w2 ⟨w.heap.size,1,none⟩ ⟨g,v,none⟩ x (fun e=>hgN (congrArg Addr.block e).symm)).trans s2);(have d3:=fun x y=>((World.cell?_setCell_other (w2.setCell ⟨w.heap.size,1,none⟩ x) ⟨g,v,none⟩ ⟨w.heap.size,0,none⟩ y (fun e=>hgN (congrArg Addr.block e))).trans (World.cell?_setCell_other w2 ⟨w.heap.size,1,none⟩ ⟨w.heap.size,0,none⟩ x (by simp))).trans d0);clear ho2 hb2 hb1))
 obtain ⟨W,hW⟩:∃W,W=(w2.setCell ⟨w.heap.size,1,none⟩ (.slice (some ⟨g,0,none⟩) gone.length cap2)).setCell ⟨g,v,none⟩ (.bool true):=⟨_,rfl⟩
 obtain ⟨d0',d1',s2',hgN'⟩:=HD.out
 have hg1:=(HG.out.lt g rfl).1
 have hz1:=HB1.out.size
 have hz0:=HSZ.out
 have hoW:OffX (fun k=>k=w.heap.size∨k=g) w2 W:=by rw [hW];exact (OffX.set _ (.inl rfl)).trans (OffX.set _ (.inr rfl))
 have hbW:Below w.heap.size w W:=by rw [hW];exact (((HB.out.st HB1.out).st HB2.out).setCell (p:=⟨w.heap.size,1,none⟩) (Nat.le_refl _) _).setCell (p:=⟨g,v,none⟩) (by show w.heap.size≤g;omega) _
 have hMT:=(HMT.out.go HB2.out).off hoW (by have:=HMT.out.lt;have:=HNE.out.2.1;omega)
 have hMF:=(HMF.out.go HB2.out).off hoW (by have:=HMF.out.lt;have:=HNE.out.2.2;omega)
 have hgr:W.ownsRow w1.heap.size 4 1 (.slice (some ⟨g,0,none⟩) gone.length cap2) gone.length ((gone.set v true).map encB):=by
  rw [hW]
  have:=((ownsRow_setCell_other (a:=⟨w.heap.size,1,none⟩) HG.out (by simp only [Value.ownBlock];intro e;exact hgN' (Option.some.inj e)) (.slice (some ⟨g,0,none⟩) gone.length cap2)).stored v (.bool true)).1
  rw [List.map_set]
  exact this
 have hnw:NetW W (.slice (some ⟨ob,oo,none⟩) O.length co) (.slice (some ⟨g,0,none⟩) gone.length cap2) O (gone.set v true):=by
  obtain ⟨ao',co',go',cg',rows,e1,e2,h3,h4,h5,h6⟩:=HN.out.go hbW
  cases e1
  obtain ⟨a',c',e,hc⟩:=Cel.of_owns hgr
  cases e
  exact ⟨_,_,_,_,rows,rfl,by rw [List.length_set],h3,h4,hc,h6⟩
 have hn1:W.cell? ⟨w.heap.size,0,none⟩=some (.slice (some ⟨ob,oo,none⟩) O.length co):=by rw [hW];exact d3 _ _
 have hn2:W.cell? ⟨w.heap.size,1,none⟩=some (.slice (some ⟨g,0,none⟩) gone.length cap2):=by
  rw [hW,World.cell?_setCell_other _ _ _ _ (fun e=>hgN' (congrArg Addr.block e))]
  exact World.cell?_setCell_same w2 ⟨w.heap.size,1,none⟩ _ d1'
 have hpo:PB W (w.heap.size+1) [.int .i64 hops,.int .i64 (settles:Int),.slice ra rn rc]:=(((HPO.out.go HB1.out).go HB2.out).eq (hoW.block _ (by have:=HB2.out.size;omega) (by rintro (e|e)<;>omega)))
 have HX:=Lib.hid (And.intro hn1 (And.intro hn2 (And.intro (hpo 0 _ rfl).1 (hpo 1 _ rfl).1)))
 have HWB:=Lib.hid hbW
 have HM1:=Lib.hid hMT
 have HM2:=Lib.hid hMF
 have HNX:=Lib.hid hnw
 rw [←hW]
 clear hW d0' d1' s2' hgN' hg1 hz1 hz0 hoW hbW hMT hMF hgr hnw hn2 hpo d3 s3 d1 d1f z2 s2 HD HG HB2 HB1 HMT HMF HNE HCL HLI HPB HPO HNW HGC0 HN HSZ HB b0 b1 c1
 clear HMM
 have HSEA:=Lib.hid (fun W' (s t:Nat) below (h:Below W.heap.size W W') hs ht hb=>search_any O (gone.set v true) _ _ s t settles below hops B W' (HNX.out.go h) hs ht ⟨by rw [List.length_set];exact HGL.out,HO.out.arcs⟩ ⟨hB.1,by omega⟩ hb hse hlen hrow)
 have hb2:2*B≤576460752303423488:=by omega
 have HBB:=Lib.hid hb2
 have HEL:=Lib.hid (fun u x (h:mm.1 u=some x)=>(show 0≤x∧x≤B by
  obtain ⟨⟨p1,_,p2⟩,_⟩:=(HLT.out.to u).1 x h
  have:=HO.out.arcs u _ p1 p2
  exact ⟨by have:=this.2.1;simp only at this;omega,this.2.2⟩))
 have HEF:=Lib.hid (fun u x (h:mm.2 u=some x)=>(show 0≤x∧x≤B by
  obtain ⟨p1,_⟩:=(HLT.out.fr u).1 x h
  have:=HO.out.arcs v _ ⟨by omega,by omega⟩ p1
  exact ⟨by have:=this.2.1;simp only at this;omega,this.2.2⟩))
 have HMAX:=Lib.hid (show O.length*O.length≤60000*60000 from Nat.mul_le_mul hlen hlen)
 clear hb2 hB hse hrow
 go_loopg [6,7,35] O.length (fun gg v6 v7 v35 wr=>∃(i:Nat) (l:List (Int×Int×Int)),i≤O.length∧O.length-i≤gg∧v35=.int .i64 i∧Aside (KeptI O gone v mm i 0 l)∧Aside (wr.ownsRow W.heap.size 253 2 v6 l.length (flatI (l.map (·.2))))∧Aside (wr.ownsRow W.heap.size 3 1 v7 l.length (l.map fun y=>Value.int .i64 y.1))∧Aside (∀k,v6.ownBlock=some k→v7.ownBlock≠some k)∧Aside (Below W.heap.size W wr))
 case atStart=>exact ⟨0,[],Nat.zero_le _,by omega,rfl,KeptI.begin,World.ownsRow_nil _ _ _ _,World.ownsRow_nil _ _ _ _,fun k h=>(by cases h),Below.refl _ _⟩
 case round=>
  obtain ⟨i,l,hi,hgg,rfl,HK,HR6,HR7,HSP,HWR⟩:=hrel
  have x0:=cell_later HWR.out HX.out.1
  by_cases hlt:i<O.length
  ·have hlt2:(i:Int)<(O.length:Int):=by omega
   have hl6:(O.length:Int)≤60000:=by omega
   have lk:=(HM1.out.go HWR.out).look (u:=(i:Int)) (by constructor<;>omega)
   cases hmi:mm.1 (i:Int) with
   |none=>
    rw [hmi] at lk
    simp only [Option.getD,Option.isSome] at lk
    have HK2:=Lib.hid (HK.out.skipRow hmi)
    clear hmi
    go_wp2
    go_roundg (O.length-(i+1))
    case measure=>omega
    case rel=>exact ⟨i+1,l,by omega,Nat.le_refl _,by go_num,HK2.out,HR6.out,HR7.out,HSP.out,HWR.out⟩
   |some a=>
    rw [hmi] at lk
    simp only [Option.getD,Option.isSome] at lk
    have HMI:=Lib.hid hmi
    have HA:=Lib.hid (HEL.out _ _ hmi)
    clear hmi
    go_wp2
    go_loopg [6,7,49] O.length (fun g2 v6 v7 v49 wr2=>∃(j:Nat) (l:List (Int×Int×Int)),j≤O.length∧O.length-j≤g2∧v49=.int .i64 j∧Aside (KeptI O gone v mm i j l)∧Aside (wr2.ownsRow W.heap.size 253 2 v6 l.length (flatI (l.map (·.2))))∧Aside (wr2.ownsRow W.heap.size 3 1 v7 l.length (l.map fun y=>Value.int .i64 y.1))∧Aside (∀k,v6.ownBlock=some k→v7.ownBlock≠some k)∧Aside (Below W.heap.size W wr2))
    case atStart=>exact ⟨0,l,Nat.zero_le _,by omega,rfl,HK.out,HR6.out,HR7.out,HSP.out,HWR.out⟩
    case round=>
     clear HK HR6 HR7 HSP HWR x0 lk
     obtain ⟨j,l,hj,hjg,rfl,HK,HR6,HR7,HSP,HWR⟩:=hrel
     by_cases hjl:j<O.length
     ·have hjl2:(j:Int)<(O.length:Int):=by omega
      have lk:=(HM2.out.go HWR.out).look (u:=(j:Int)) (by constructor<;>omega)
      cases hmj:mm.2 (j:Int) with
      |none=>
       rw [hmj] at lk
       simp only [Option.getD,Option.isSome] at lk
       have HK2:=Lib.hid (HK.out.skip (.inl hmj))
       clear hmj
       go_wp2
       go_roundg (O.length-(j+1))
       case measure=>omega
       case rel=>exact ⟨j+1,l,by omega,Nat.le_refl _,by go_num,HK2.out,HR6.out,HR7.out,HSP.out,HWR.out⟩
      |some b=>
       rw [hmj] at lk
       simp only [Option.getD,Option.isSome] at lk
       have HMJ:=Lib.hid hmj
       have HBJ:=Lib.hid (HEF.out _ _ hmj)
       clear hmj
       by_cases hij:i=j
       ·have HK2:=Lib.hid (HK.out.skip (.inr hij))
        subst hij
        have hee:((i:Int)==(i:Int))=true:=by simp
        go_wp2
        go_roundg (O.length-(i+1))
        case measure=>omega
        case rel=>exact ⟨i+1,l,by omega,Nat.le_refl _,by go_num,HK2.out,HR6.out,HR7.out,HSP.out,HWR.out⟩
       ·have hee:((i:Int)==(j:Int))=false:=by rw [beq_eq_false_iff_ne];omega
        have HIJ:=Lib.hid hij
        clear hij
        have hab:IntKind.u64.wrap (a+b)=a+b:=by rw [IntKind.wrap_u64];have:=HA.out;have:=HBJ.out;have:=HBB.out;omega
        have y0:=cell_later HWR.out HX.out.1
        have y1:=cell_later HWR.out HX.out.2.1
        have y2:=cell_later HWR.out HX.out.2.2.1
        have y3:=cell_later HWR.out HX.out.2.2.2
        have HSE:=Lib.hid (HSEA.out wr i j (a+b) HWR.out (by rw [List.length_set];have:=HGL.out;omega) (by rw [List.length_set];have:=HGL.out;omega) (by have:=HA.out;have:=HBJ.out;have:=HBB.out;omega))
        unfold SeaPost at HSE
        have HLL:=Lib.hid (show l.length≤3600060000 by have:=HK.out.len;have:=Nat.mul_le_mul_right O.length hi;have:=HMAX.out;omega)
        go_wp2_with (first
         |(go_at_call 231;refine HSE.out.mono ?_;rintro e w5 ⟨d,bb,rfl,hway,hb5⟩;(have HWY:=Lib.hid hway;have HB5:=Lib.hid hb5;clear hway hb5))
         |(at_builtin;refine wpList_app W.heap.size 253 _ 2 16 elem_arc Tryz.underlying247 u6 l.length _ ⟨w5.heap.size,0,none⟩ 1 1 [.int .i64 (j:Int),.int .u64 (a+b)] rfl rfl (World.ownsRow.alloc (hp_owns_go HR6.out HB5.out) _) (hp_two _ _ _ _ rfl) (hp_onet _ _) ⟨rfl,by decide,(by have:=HLL.out;omega),(by have:=HLL.out;omega),((HWR.out.st HB5.out).al _).size⟩ ?_;intro g6 cap6 w6 hown6 hgrow6 hbl6 hat6 hlt6;(have H6:=Lib.hid (And.intro hown6 (And.intro hbl6 (And.intro hat6 hlt6)));have O7:=Lib.hid (owns_kept2 (World.ownsRow.alloc (hp_owns_go HR7.out HB5.out) _) hgrow6 HSP.out);clear hown6 hgrow6 hbl6 hat6 hlt6))
         |(at_builtin;refine wpList_app W.heap.size 3 _ 1 8 hp_elemi Tryz.underlying25 u7 l.length _ ⟨w6.heap.size,0,none⟩ 1 1 [.int .i64 (i:Int)] rfl rfl (World.ownsRow.alloc O7.out _) (cell_one_new _ _ _) (one_cells rfl) ⟨rfl,by decide,(by have:=HLL.out;omega),(by have:=HLL.out;omega),(((((HWR.out.st HB5.out).al _).trans H6.out.2.1).al _)).size⟩ ?_;intro g7 cap7 w7 hown7 hgrow7 hbl7 hat7 hlt7;(have H7:=Lib.hid (And.intro hown7 (And.intro hbl7 (And.intro hat7 hlt7)));have O6:=Lib.hid (And.intro hgrow7 trivial);clear hown7 hgrow7 hbl7 hat7 hlt7)))
        ·obtain ⟨h61,h62,h63,h64⟩:=H6.out
         obtain ⟨h71,h72,h73,h74⟩:=H7.out
         have hq7:∀k,u7.ownBlock=some k→k<w5.heap.size:=fun k hk=>((hp_owns_go HR7.out HB5.out).lt k hk).2
         have hg6:∀k,u7.ownBlock=some k→(Value.slice (some ⟨g6,0,none⟩) (l.length+1) cap6).ownBlock≠some k:=by
          intro k hk e
          have e2:g6=k:=Option.some.inj e
          subst e2
          rcases h63 with e3|e3
          ·exact HSP.out _ e3 hk
          ·have:=hq7 _ hk
           simp only [World.size_alloc] at e3
           omega
         have ho6:=owns_kept2 (World.ownsRow.alloc h61 (Obj.cells #[Value.int .i64 (i:Int)] 3)) O6.out.1 hg6
         have hk:=HK.out.keep (by omega) (by omega) HIJ.out HMI.out HMJ.out
         have e6:flatI ((l++[((i:Int),(j:Int),a+b)]).map (·.2))=flatI (l.map (·.2))++[.int .i64 (j:Int),.int .u64 (a+b)]:=by rw [List.map_append,flatI_append];rfl
         have e7:(l++[((i:Int),(j:Int),a+b)]).map (fun y=>Value.int .i64 y.1)=l.map (fun y=>Value.int .i64 y.1)++[.int .i64 (i:Int)]:=by rw [List.map_append];rfl
         have el:(l++[((i:Int),(j:Int),a+b)]).length=l.length+1:=by simp
         go_roundg (O.length-(j+1))
         case measure=>omega
         case rel=>
          refine ⟨j+1,l++[((i:Int),(j:Int),a+b)],by omega,Nat.le_refl _,by go_num,hk,?_,?_,?_,(((((HWR.out.st HB5.out).al _).trans h62).al _).trans h72)⟩
          ·show World.ownsRow _ _ _ _ _ _ _
           rw [el,e6]
           exact ho6
          ·show World.ownsRow _ _ _ _ _ _ _
           rw [el,e7]
           exact h71
          ·intro k hk6 hk7
           have e1:g6=k:=Option.some.inj hk6
           have e2:g7=k:=Option.some.inj hk7
           subst e1
           rcases h73 with e3|e3
           ·exact hg6 g7 e3 (by rw [e2];rfl)
           ·simp only [World.size_alloc] at e3
            omega
        ·rename_i hbb
         have hbt:bb=true:=by simpa using hbb
         obtain ⟨hw0,hwd⟩:=HWY.out hbt
         have hway:Ch.Way (NR O (gone.set v true)) Any (i:Int) (j:Int) d:=by
          rcases hw0 with ⟨e1,_⟩|h
          ·exact absurd e1 (by have:=HIJ.out;omega)
          ·exact h
         have hk:=HK.out.lighter HMI.out HMJ.out (by rw [show ((v:Int)).toNat=v from rfl];exact hway) hwd
         go_roundg (O.length-(j+1))
         case measure=>omega
         case rel=>exact ⟨j+1,l,by omega,Nat.le_refl _,by go_num,hk,hp_owns_go HR6.out HB5.out,hp_owns_go HR7.out HB5.out,HSP.out,HWR.out.st HB5.out⟩
     ·obtain rfl:j=O.length:=by omega
      go_wp2
      go_roundg (O.length-(i+1))
      case measure=>omega
      case rel=>exact ⟨i+1,l,by omega,Nat.le_refl _,by go_num,HK.out.row,HR6.out,HR7.out,HSP.out,HWR.out⟩
  ·obtain rfl:i=O.length:=by omega
   obtain ⟨ax,cx,rfl,hcx⟩:=Cel.of_owns HR6.out
   obtain ⟨ay,cy,rfl,hcy⟩:=Cel.of_owns HR7.out
   go_wp2
   refine bodyPost_ret (v:=.tuple #[.slice ax l.length cx,.slice ay l.length cy]) (by simp [results,Tryz.results167,go_sem];try rfl) rfl ?_
   exact ⟨l,ax,ay,cx,cy,rfl,hcx,hcy,HK.out,HWB.out.st HWR.out,fun k hk=>Nat.le_trans HWB.out.size (HR6.out.lt k hk).1,fun k hk=>Nat.le_trans HWB.out.size (HR7.out.lt k hk).1⟩
end Go.Proofs.YteaaapdjplbljaaGreat
