/- Walk: unpack.Route. -/
import Derived.Test.YteaaapdjplbljaaGreatProg
import Derived.Test.YteaaapdjplbljaaGreatLw41
import Derived.Sort.LoopGhostIn
import Derived.RangeFuncNested
import Derived.RangeFuncBound
import Derived.Shelf.Abstract
import Derived.Shelf.AbstractIn
import Derived.WalkKit
import Derived.OwnWalkIn
import Derived.TacticsInMore
import Derived.LoopNIn
import Derived.LoopIn
set_option linter.unusedVariables false
set_option linter.unusedSimpArgs false
set_option linter.unnecessarySimpa false
namespace Go.Proofs.YteaaapdjplbljaaGreat.Ro
open Go Go.Proofs Go.RowKit Go.Shelf Go.Proofs.YteaaapdjplbljaaGreat Go.Proofs.YteaaapdjplbljaaGreat.Hp Go.Proofs.YteaaapdjplbljaaGreat.Ch Go.Proofs.YteaaapdjplbljaaGreat.Ad
attribute [local go_sem] Oper.semAt_some
def litD (n:Nat) (u:Nat→Value) (Ds:List Nat):Act:=⟨((List.range n).map u).toArray,marksL Ds⟩
theorem litD_of (n:Nat) (a:Act) (Ds:List Nat) (h:a.tmps.size=n) (hd:a.defers=marksL Ds):a=litD n (fun i=>a.tmps.getD i undef) Ds:=by
 cases a with
 |mk t d=>
  simp only at h hd
  subst hd
  unfold litD
  congr 1
  apply Array.ext
  ·simp [h]
  ·intro i h1 h2
   simp [h1]
def RouteIs (n:Nat) (es:List EdgeD) (s t:Int) (l:List Int) (x k:Int):Prop:=
 (k=0∧nodeN n s∧nodeN n t∧Dist (arcG es) s t x∧x≤1152921504606846976∧∃D,ToD es n t D∧RP es D s l)∨(k≠0∧l=[]∧x=0∧DistIs n (arcG es) s t 0 k)
def RoutePost (n:Nat) (es:List EdgeD) (s t:Int) (w:World) (e:Ending) (w':World):Prop:=
 ∃(la:Option Addr) (l:List Int) (lc:Nat) (x k:Int),e=.returned (.tuple #[.agg #[.slice la l.length lc,.int .u64 x],.int .i64 k])∧Cel w' la (l.map encI)∧Below w.heap.size w w'∧RouteIs n es s t l x k∧∀y,la=some y→w.heap.size≤y.block
def RtJ (w0:World) (hb n t:Nat) (es:List EdgeD) (S:List SC) (ro:List Int) (D:Int→Int) (s:Int) (mm l0:Nat) (a:Act) (wr:World):Prop:=
 l0=0∧∃(K:RtK) (u:Nat→Value) (Ds:List Nat),a=litD 86 u Ds∧u 4=.pointer (some ⟨K.b4,0,none⟩)∧u 6=.pointer (some ⟨K.b6,0,none⟩)∧u 11=.pointer (some ⟨K.ab,0,none⟩)∧u 15=.pointer (some ⟨K.b15,0,none⟩)∧u 16=.pointer (some ⟨K.b16,0,none⟩)∧u 17=.pointer (some ⟨K.b17,0,none⟩)∧
  Aside (∃lb Z v l la lc asked,K.OK w0 Z∧ToSp es S ro t n lb∧RtS K w0 wr hb n t es lb D s Ds Z v l la lc asked∧(D (v:Int)).toNat≤mm)
theorem rt_keys {w:World} {a b:Nat} {x:Int} {y:Addr} (h:w.cell? ⟨a,0,none⟩=some (.int .i64 x)) (k:w.cell? ⟨b,0,none⟩=some (.pointer (some y))):b≠a:=fun e=>by
 subst e
 rw [h] at k
 cases k
theorem rt_keys2 {w:World} {a b c n:Nat} {x:Option Addr} {y:Addr} (h:w.cell? ⟨a,0,none⟩=some (.slice x n c)) (k:w.cell? ⟨b,0,none⟩=some (.pointer (some y))):b≠a:=fun e=>by
 subst e
 rw [h] at k
 cases k
theorem map_cell {w:World} {b n:Nat} {f:Int→Option Int} {a j:Nat} {u:Value} (h:MapW w b n f) (k:w.cell? ⟨a,j,none⟩=some u):b≠a:=fun e=>by
 subst e
 obtain ⟨D,⟨es,clock,hb,_⟩,_⟩:=h
 unfold World.cell? at k
 rw [hb] at k
 simp at k
set_option maxHeartbeats 4000000 in
set_option maxRecDepth 100000 in
theorem route_any (hb n:Nat) (es:List EdgeD) (R:List Int) (S:List SC) (ro:List Int) (s t:Int) (w:World) (h:BH w hb n es R S ro) (hg:rightG ⟨(n:Int),es⟩=0) (hel:es.length≤40) (hA:∀u v w,arcG es u v w→nodeN n u∧nodeN n v∧1≤w∧w≤4294967296):
  Calls Tryz.prog 61 #[.pointer (some ⟨hb,0,none⟩),.int .i64 s,.int .i64 t] w (RoutePost n es s t w):=by
 obtain ⟨W,hW⟩:∃W,W=(w.alloc (Obj.cells #[.int .i64 s] 3)).alloc (Obj.cells #[.slice none 0 0,.int .u64 0] 39):=⟨_,rfl⟩
 have hbw:Below w.heap.size w W:=by rw [hW];exact (Below.of_al _ _).al _
 have c4:W.cell? ⟨w.heap.size,0,none⟩=some (.int .i64 s):=by rw [hW];go_simp
 have z4:W.frozen? ⟨w.heap.size,0,none⟩=false:=by rw [hW];go_simp
 have c60:W.cell? ⟨w.heap.size+1,0,none⟩=some (.slice none 0 0):=by rw [hW];go_simp
 have c61:W.cell? ⟨w.heap.size+1,1,none⟩=some (.int .u64 0):=by rw [hW];go_simp
 have z60:W.frozen? ⟨w.heap.size+1,0,none⟩=false:=by rw [hW];go_simp
 have z61:W.frozen? ⟨w.heap.size+1,1,none⟩=false:=by rw [hW];go_simp
 have hsz:W.heap.size=w.heap.size+2:=by rw [hW];simp
 have HDI:=Lib.hid (dist_any hb n es R S ro s t W (h.go hbw))
 have HH:=Lib.hid h
 have HB:=Lib.hid hbw
 have HW:=Lib.hid hW
 have HA:=Lib.hid hA
 have HG:=Lib.hid hg
 have HSZ:=Lib.hid hsz
 unfold DistPost at HDI
 clear hW hbw h hg hA hsz
 refine (callsIn_wide (n:=4)).1 (callsIn_of_wp_marks Tryz.func61 rfl trivial (wpIn_wide.2 ?_) rfl)
 simp only [Tryz.ntmps61,List.size_toArray,List.length_cons,List.length_nil,Nat.reduceAdd,Nat.reduceSub,Array.replicate_succ,Array.replicate_zero,List.push_toArray,List.append_toArray,List.nil_append,List.cons_append]
 repeat go_step
 obtain ⟨D,hD⟩:∃D:Int→Int,nodeN n t→ToD es n t D:=by
  by_cases ht:nodeN n t
  ·obtain ⟨D,hD⟩:=toD_some HA.out ht HH.out.le hel
   exact ⟨D,fun _=>hD⟩
  ·exact ⟨fun _=>0,fun h=>absurd h ht⟩
 have HD:=Lib.hid hD
 clear hD
 refine wp_scope_into 0 (D s).toNat (fun mm l0 a wr=>nodeN n s∧nodeN n t∧D s≤1152921504606846976∧Dist (arcG es) s t (D s)∧RtJ w hb n t.toNat es S ro D s mm l0 a wr) rfl ?_ ?_ ?_ ?_
 ·rintro m m' l a w' hle ⟨h1,h2,h3,h4,h5,K,u,Ds,e1,e2,e3,e4,e5,e6,e7,h6⟩
  obtain ⟨lb,Z,v,l',la,lc,asked,q1,q2,q3,q4⟩:=h6
  exact ⟨h1,h2,h3,h4,h5,K,u,Ds,e1,e2,e3,e4,e5,e6,e7,lb,Z,v,l',la,lc,asked,q1,q2,q3,Nat.le_trans q4 hle⟩
 ·intro hcont
  have HCONT:=Lib.hid hcont
  clear hcont
  rw [←HW.out]
  go_wp2_with fail
  refine HDI.out.mono ?_
  rintro e w1 ⟨⟨d,k,rfl,hdi⟩,hb1⟩
  have x4:=cell_later hb1 c4
  have x60:=cell_later hb1 c60
  have x61:=cell_later hb1 c61
  have y4:=(hb1.frozen (p:=⟨w.heap.size,0,none⟩) (World.block_lt_of_cell? _ _ c4)).trans z4
  have y60:=(hb1.frozen (p:=⟨w.heap.size+1,0,none⟩) (World.block_lt_of_cell? _ _ c60)).trans z60
  have y61:=(hb1.frozen (p:=⟨w.heap.size+1,1,none⟩) (World.block_lt_of_cell? _ _ c61)).trans z61
  have HB1:=Lib.hid (HB.out.st hb1)
  have HDX:=Lib.hid hdi
  have HZ1:=Lib.hid (show w.heap.size+2≤w1.heap.size by have:=hb1.size;have:=HSZ.out;omega)
  clear c4 c60 c61 z4 z60 z61 hb1 HDI
  by_cases hk0:k=0
  ·subst hk0
   obtain ⟨hsn,htn,hdd,hd60⟩:nodeN n s∧nodeN n t∧Dist (arcG es) s t d∧d≤1152921504606846976:=by
    rcases HDX.out with ⟨_,h⟩|⟨h1,_⟩|⟨h1,_⟩
    ·exact h
    ·cases h1
    ·cases h1
   obtain ⟨sN,rfl⟩:∃q:Nat,s=(q:Int):=⟨s.toNat,by have:=hsn.1;omega⟩
   obtain ⟨tN,rfl⟩:∃q:Nat,t=(q:Int):=⟨t.toNat,by have:=htn.1;omega⟩
   have htD:=HD.out htn
   have hDs:D (sN:Int)=d:=by
    rcases htD _ hsn with ⟨k1,_⟩|⟨_,k2⟩
    ·exact k1.uniq hdd
    ·exact absurd hdd.1 (k2 _)
   subst hDs
   have hsN:sN<n:=by have:=hsn.2;omega
   have htN:tN<n:=by have:=htn.2;omega
   have HS:=Lib.hid (And.intro hsn (And.intro htn (And.intro hd60 hdd)))
   have HGA:=Lib.hid (hgraph_any hb n es R S _ _ w1 (HH.out.go HB1.out).mem)
   have HAN:=Lib.hid (fun a c W' (ha:Cel W' a (flat es))=>new_any n es a c W' HG.out (by have:=HH.out.le;omega) (by omega) ha (fun e he=>by have:=HA.out _ _ _ ⟨e,he,rfl,rfl,rfl⟩;exact ⟨this.1,this.2.1⟩))
   have HTO:=Lib.hid (fun W' (hz:Below w.heap.size w W')=>to_any hb n tN es R S ro W' (HH.out.go hz) htN)
   have HNF:=Lib.hid (fun (fn:Fn) (first cap:Array Value) (w:World)=>(show (Instr.makeFunc fn first cap).run Tryz.prog w=.ok (.func fn first cap) w from rfl))
   unfold CGPost at HGA
   unfold AdjPost at HAN
   unfold ToPost at HTO
   unfold gV at HAN
   have hnf:=HNF.out
   clear hdi hsn htn hdd hd60 HDX
   go_wp2_with fail
   refine HGA.out.mono ?_
   rintro e w2 ⟨ga,gc,rfl,g1,g2,g3⟩
   have HB2:=Lib.hid (HB1.out.st g2)
   have HC2:=Lib.hid g1
   have u4:=cell_later g2 x4
   have u60:=cell_later g2 x60
   have u61:=cell_later g2 x61
   have v4:=(g2.frozen (p:=⟨w.heap.size,0,none⟩) (World.block_lt_of_cell? _ _ x4)).trans y4
   have v60:=(g2.frozen (p:=⟨w.heap.size+1,0,none⟩) (World.block_lt_of_cell? _ _ x60)).trans y60
   have v61:=(g2.frozen (p:=⟨w.heap.size+1,1,none⟩) (World.block_lt_of_cell? _ _ x61)).trans y61
   have HZ2:=Lib.hid (show w.heap.size+2≤w2.heap.size by have:=g2.size;have:=HZ1.out;omega)
   clear x4 x60 x61 y4 y60 y61 g1 g2 g3 HGA
   go_wp2_with fail
   obtain ⟨W3,hW3⟩:∃W3,W3=w2.alloc (Obj.cells #[.int .i64 (n:Int),.slice ga es.length gc] 24):=⟨_,rfl⟩
   have h23:Below w2.heap.size w2 W3:=by rw [hW3];exact Below.of_al _ _
   have hz3:W3.heap.size=w2.heap.size+1:=by rw [hW3];simp
   rw [←hW3]
   refine (HAN.out ga gc W3 (HC2.out.go h23)).mono ?_
   rintro e w4 ⟨ab,rfl,g1,g2⟩
   have HB4:=Lib.hid ((HB2.out.st h23).st g2)
   have HA4:=Lib.hid g1
   have t4:=cell_later g2 (cell_later h23 u4)
   have t60:=cell_later g2 (cell_later h23 u60)
   have t61:=cell_later g2 (cell_later h23 u61)
   have s4:=((h23.st g2).frozen (p:=⟨w.heap.size,0,none⟩) (World.block_lt_of_cell? _ _ u4)).trans v4
   have s60:=((h23.st g2).frozen (p:=⟨w.heap.size+1,0,none⟩) (World.block_lt_of_cell? _ _ u60)).trans v60
   have s61:=((h23.st g2).frozen (p:=⟨w.heap.size+1,1,none⟩) (World.block_lt_of_cell? _ _ u61)).trans v61
   have HZ3:=Lib.hid (show w.heap.size+2<W3.heap.size∧W3.heap.size≤w4.heap.size by have:=g2.size;have:=HZ2.out;omega)
   clear hW3 h23 hz3 g1 g2 u4 u60 u61 v4 v60 v61 HC2 HAN
   go_wp2_with fail
   refine (HTO.out w4 HB4.out).mono ?_
   rintro e w5 ⟨ob,sb,kb,lb,rfl,g1,g2,g3,g4,g5⟩
   have HB5:=Lib.hid (HB4.out.st g3)
   have HO5:=Lib.hid g1
   have HT5:=Lib.hid g2
   have HKB:=Lib.hid (And.intro g4 g5)
   have HA5:=Lib.hid (HA4.out.go g3 (Nat.le_refl _))
   have q4:=cell_later g3 t4
   have q60:=cell_later g3 t60
   have q61:=cell_later g3 t61
   have r4:=(g3.frozen (p:=⟨w.heap.size,0,none⟩) (World.block_lt_of_cell? _ _ t4)).trans s4
   have r60:=(g3.frozen (p:=⟨w.heap.size+1,0,none⟩) (World.block_lt_of_cell? _ _ t60)).trans s60
   have r61:=(g3.frozen (p:=⟨w.heap.size+1,1,none⟩) (World.block_lt_of_cell? _ _ t61)).trans s61
   have HZ5:=Lib.hid g3.size
   clear g1 g2 g3 g4 g5 t4 t60 t61 s4 s60 s61 HTO HA4
   go_wp2
   obtain ⟨W6,hW6⟩:∃W6,W6=((w5.alloc (Obj.cells #[.func (.func 115) #[.pointer (some ⟨ob,0,none⟩)] #[]] 194)).alloc (Obj.cells #[.slice none 0 0,.int .u64 0] 39)).alloc (Obj.cells #[.int .u64 (D (sN:Int))] 37):=⟨_,rfl⟩
   rw [←hW6]
   have hb6:Below w5.heap.size w5 W6:=by rw [hW6];exact ((Below.of_al _ _).al _).al _
   have hz6:W6.heap.size=w5.heap.size+3:=by rw [hW6];simp
   have ho5:=HO5.out
   obtain ⟨o1,o2,o3⟩:=ho5.lt
   have hsb:sb≠w.heap.size∧sb≠w.heap.size+1:=⟨map_cell ho5.sp q4,map_cell ho5.sp q60⟩
   have hob:ob≠w.heap.size∧ob≠w.heap.size+1:=⟨rt_keys q4 ho5.c0,rt_keys2 q60 ho5.c0⟩
   have HST:=Lib.hid (show RtS ⟨w.heap.size,w.heap.size+1,w5.heap.size,w5.heap.size+1,w5.heap.size+1+1,W3.heap.size,w4.heap.size,ab,ob,sb,kb⟩ w W6 hb n tN es lb D (sN:Int) [] W6.heap.size sN [] none 0 [] from by
    refine ⟨⟨cell_later hb6 q4,(hb6.frozen (p:=⟨w.heap.size,0,none⟩) (World.block_lt_of_cell? _ _ q4)).trans r4⟩,⟨cell_later hb6 q60,cell_later hb6 q61,(hb6.frozen (p:=⟨w.heap.size+1,0,none⟩) (World.block_lt_of_cell? _ _ q60)).trans r60,(hb6.frozen (p:=⟨w.heap.size+1,1,none⟩) (World.block_lt_of_cell? _ _ q61)).trans r61⟩,
     by rw [hW6];go_simp,⟨by rw [hW6];go_simp,?_,by rw [hW6];go_simp,by rw [hW6];go_simp⟩,⟨by rw [hW6];go_simp,by rw [hW6];go_simp⟩,Cel.nil _ _,(fun x hx=>by cases hx),HA5.out.go hb6 HZ5.out,ho5.go hb6,⟨List.nodup_nil,fun x hx=>by cases hx⟩,(fun E hE=>by cases hE),List.nodup_nil,HB5.out.st hb6,Nat.le_refl _,hsN,Seg.start _,⟨Int.le_refl _,HS.out.2.2.1⟩,[],rfl,List.nodup_nil,fun x hx=>nomatch hx⟩
    rw [Int.sub_self,hW6]
    go_simp)
   have HOK:=Lib.hid (show RtK.OK ⟨w.heap.size,w.heap.size+1,w5.heap.size,w5.heap.size+1,w5.heap.size+1+1,W3.heap.size,w4.heap.size,ab,ob,sb,kb⟩ w W6.heap.size from by
    have a1:=HZ3.out
    have a2:=HZ5.out
    have a3:=HKB.out
    exact ⟨Nat.le_refl _,Nat.lt_succ_self _,by show w.heap.size+1<W3.heap.size;omega,a1.2,a2,Nat.lt_succ_self _,Nat.lt_succ_self _,by show w5.heap.size+1+1<W6.heap.size;omega,⟨hob.1,hob.2,o1⟩,⟨hsb.1,hsb.2,o2⟩,a3,ho5.ne⟩)
   clear hW6 hb6 hz6 ho5 o1 o2 o3 hsb hob q4 q60 q61 r4 r60 r61
   go_step3
   first
    |refine HCONT.out _ _ ?_
    |(go_step;refine HCONT.out _ _ ?_)
    |(go_step;go_step;refine HCONT.out _ _ ?_)
    |(go_step;go_step;go_step;refine HCONT.out _ _ ?_)
   exact ⟨HS.out.1,HS.out.2.1,HS.out.2.2.1,HS.out.2.2.2,rfl,⟨w.heap.size,w.heap.size+1,w5.heap.size,w5.heap.size+1,w5.heap.size+1+1,W3.heap.size,w4.heap.size,ab,ob,sb,kb⟩,_,[],litD_of 86 _ [] rfl rfl,rfl,rfl,rfl,rfl,rfl,rfl,lb,_,sN,[],none,0,[],HOK.out,HT5.out,HST.out,Nat.le_refl _⟩
  ·have hk1:(k != 0)=true:=by simpa using hk0
   have HK0:=Lib.hid hk0
   clear hdi hk0
   go_wp2
   simp only [jumps_ret]
   refine leavesK_all [] _ List.nodup_nil (fun _ h=>nomatch h) (fun W9 ho9=>⟨.tuple #[.agg #[.slice none 0 0,.int .u64 0],.int .i64 k],?_,?_⟩)
   ·have r0:W9.cell? ⟨w.heap.size+1,0,none⟩=some (.slice none 0 0):=ho9.cell (by
     rw [World.cell?_setCell_other _ _ _ _ (by simp)]
     exact World.cell?_setCell_same _ _ _ x60) (fun h=>nomatch h)
    have r1:W9.cell? ⟨w.heap.size+1,1,none⟩=some (.int .u64 0):=ho9.cell (World.cell?_setCell_same (u:=.int .u64 0) _ _ _ (by rw [World.cell?_setCell_other _ _ _ _ (by simp)];exact x61)) (fun h=>nomatch h)
    simp [results,Tryz.results61,go_sem,r0,r1]
    try rfl
   ·refine ⟨none,[],0,0,k,rfl,Cel.nil _ _,?_,.inr ⟨HK0.out,rfl,rfl,?_⟩,fun y hy=>by cases hy⟩
    ·exact ((HB1.out.setCell (p:=⟨w.heap.size+1,0,none⟩) (Nat.le_succ _) _).setCell (p:=⟨w.heap.size+1,1,none⟩) (Nat.le_succ _) _).trans (ho9.below (by simp [World.setCell];have:=HZ1.out;omega) (fun _ h=>nomatch h))
    ·rcases HDX.out with ⟨h1,_⟩|⟨h1,h2,h3⟩|⟨h1,h2,h3⟩
     ·exact absurd h1 HK0.out
     ·exact .inr (.inl ⟨h1,rfl,h3⟩)
     ·exact .inr (.inr ⟨h1,rfl,h3⟩)
 ·rintro m a wr ⟨hsn,htn,hd60,hdd,-,K,u,Ds,rfl,e4,e6,e11,e15,e16,e17,hst⟩
  obtain ⟨lb,Z,v,l,la,lc,asked,hOK,hTS,hRS,hmm⟩:=hst
  obtain ⟨sN,rfl⟩:∃q:Nat,s=(q:Int):=⟨s.toNat,by have:=hsn.1;omega⟩
  obtain ⟨tN,rfl⟩:∃q:Nat,t=(q:Int):=⟨t.toNat,by have:=htn.1;omega⟩
  rw [Int.toNat_natCast] at hTS hRS
  have HS:=Lib.hid (And.intro hsn (And.intro htn (And.intro hd60 hdd)))
  have HTD:=Lib.hid (HD.out htn)
  have HOK:=Lib.hid hOK
  have HTS:=Lib.hid hTS
  have HRS:=Lib.hid hRS
  have HMM:=Lib.hid hmm
  have htN:tN<n:=by have:=htn.2;omega
  simp only [litD,List.range,List.range.loop,List.map_cons,List.map_nil,e4,e6,e11,e15,e16,e17]
  have c4:=hRS.c4.1
  have HEA:=Lib.hid (fun W=>Ad.each_any K.ab (v:Int) W)
  clear c60 c61 z4 z60 z61 HDI hOK hTS hRS hmm e4 e6 e11 e15 e16 e17 hsn htn hd60 hdd
  go_wp2_with fail
  refine (HEA.out _).mono ?_
  rintro e w7 ⟨rfl,hb7,hz7,b0,b1,b2⟩
  have HR7:=Lib.hid (HRS.out.go HOK.out hb7)
  have hvn:=HRS.out.vn
  have hn12:=HH.out.le
  have HZW:=Lib.hid (HRS.out.sz)
  have HZ7:=Lib.hid hz7
  have HLA:=Lib.hid (show ∀x,la=some x→l≠[]→x.block<wr.heap.size from fun x hx hl=>by
   obtain ⟨y,r,rfl⟩:=List.exists_cons_of_ne_nil hl
   obtain ⟨b,o,e,h9⟩:=HRS.out.cl 0 _ rfl
   rw [hx] at e
   cases e
   exact World.block_lt_of_cell? _ _ h9)
  have hhi:K.hi≤wr.heap.size:=by
   have:=HOK.out.o15
   have:=HOK.out.o16
   have:=HOK.out.o17
   have:=HOK.out.oZ
   have:=HZW.out
   omega
  have hesn:∀e∈es,nodeN n e.f:=fun e he=>(HA.out _ _ _ ⟨e,he,rfl,rfl,rfl⟩).1
  have HSEQ:=Lib.hid (Ad.each_gives 3 (by decide) K.lo K.hi K.ab n es v wr.heap.size w7 HR7.out.adj hvn (by omega) (by omega) hesn (by omega) (by omega) b0 b1 b2)
  have HKB:=Lib.hid (show ∀k,KpA K.lo K.hi wr.heap.size k→k<w7.heap.size from fun k hk=>by
   rcases hk with h|h<;>omega)
  have HOW:=Lib.hid (show ∀k,K.own k→k<wr.heap.size from fun k hk=>by
   have f1:=HOK.out.s46
   have f2:=HOK.out.s6
   have f3:=HOK.out.lh
   have f5:=HOK.out.o15
   have f6:=HOK.out.o16
   have f7:=HOK.out.o17
   have f8:=HOK.out.oZ
   have f9:=HOK.out.kb
   have f10:=HOK.out.ob
   have f11:=HOK.out.sb
   have f12:=HZW.out
   rcases hk with h|h|h|h|h|h|h|h|h<;>omega)
  have HOW2:=Lib.hid (show K.b6<Z by
   have:=HOK.out.s6
   have:=HOK.out.lh
   have:=HOK.out.o15
   have:=HOK.out.o16
   have:=HOK.out.o17
   have:=HOK.out.oZ
   omega)
  have HMK:=Lib.hid (show ∀E∈Ds,E<wr.heap.size from fun E hE=>(Array.getElem?_eq_some_iff.1 (HRS.out.mks E hE).1).1)
  have HTN:=Lib.hid (show ∀(Wx Wy:World) (v':Nat) (l':List Int) (la':Option Addr) (lc':Nat) (as':List Int),RtS K w Wx hb n tN es lb D (sN:Int) Ds Z v' l' la' lc' as'→(∀x,la'=some x→l'≠[]→x.block≠w7.heap.size+1)→OffX (TurnK w7.heap.size) Wx Wy→RtS K w Wy hb n tN es lb D (sN:Int) Ds Z v' l' la' lc' as' from
   fun Wx Wy v' l' la' lc' as' h hl ho=>h.off HOK.out ho (fun k e hk=>by have:=HOW.out k hk;have e':k=w7.heap.size+1:=e;omega) (fun x hx hl' e=>hl x hx hl' e) (fun E hE e=>by have:=HMK.out E hE;have e':E=w7.heap.size+1:=e;omega) (fun k e=>by have e':k=w7.heap.size+1:=e;have:=HRS.out.bel.size;omega))
  clear hb7 b0 b1 b2 hesn hhi c4
  go_wp2
  refine (wpIn_wide (n:=4)).1 (wpIn_rangeK rfl (by decide) (gf:=177) rfl trivial (enters_of Tryz.func177 (by kernel_rfl) rfl) HSEQ.out HKB.out (fun _=>rfl)
   (fun pre Wx=>∃as',RtS K w Wx hb n tN es lb D (sN:Int) Ds Z v l la lc as'∧(∀x∈pre,¬goodE D x.2)∧w7.heap.size≤Wx.heap.size)
   (fun c pre Wx=>c=.goto 0∧∃(i v':Nat) (la':Option Addr) (lc':Nat) (as':List Int),D (v':Int)<D (v:Int)∧0≤D (v':Int)∧RtS K w Wx hb n tN es lb D (sN:Int) Ds Z v' (l++[(i:Int)]) la' lc' as'∧∀x,la'=some x→w7.heap.size+2≤x.block)
   (fun pre Wx Wy h ho=>by obtain ⟨as',h1,h2,h3⟩:=h;exact ⟨as',HTN.out _ _ _ _ _ _ _ h1 (fun x hx hl=>by have:=HLA.out x hx hl;omega) ho,h2,Nat.le_trans h3 ho.size⟩)
   (fun c pre Wx Wy h ho=>by obtain ⟨h0,i,v',la',lc',as',h1,h2,h3,h4⟩:=h;exact ⟨h0,i,v',la',lc',as',h1,h2,HTN.out _ _ _ _ _ _ _ h3 (fun x hx _=>by have:=h4 x hx;omega) ho,h4⟩)
   ⟨asked,HR7.out,(fun x hx=>nomatch hx),Nat.le_refl _⟩
   ?a1 (fun x Wx=>Wx.alloc (Obj.cells #[.int .i64 x.2.f,.int .i64 x.2.t,.int .u64 x.2.w] 109)) (fun x Wx=>Below.of_al _ _) ?assign ?body ?done ?stop)
  case assign=>
   intro l x Wx K hK
   dsimp only [encSE,encE]
   gi_wp2
   exact hK
  case stop=>
   rintro D' c pre Wx rfl hpp ⟨rfl,i,v',la',lc',as',h1,h2,h3,h4⟩ hK9
   refine wpIn_wide.2 ?_
   dsimp only
   go_step3
   repeat go_step
   rw [jumps_goto]
   have hZw:=HZW.out
   have hm:=HMM.out
   exact ⟨(D (v':Int)).toNat,by omega,HS.out.1,HS.out.2.1,HS.out.2.2.1,HS.out.2.2.2,rfl,K,_,w7.heap.size::Ds,litD_of 86 _ _ rfl rfl,rfl,rfl,rfl,rfl,rfl,rfl,lb,Z,v',l++[(i:Int)],la',lc',as',HOK.out,by rw [Int.toNat_natCast];exact HTS.out,
    by rw [Int.toNat_natCast];exact h3.mark hK9 (by omega) (fun hm=>by have:=HMK.out _ hm;omega) (fun x hx=>by have:=h4 x hx;omega),Nat.le_refl _⟩
  case done=>
   rintro D' Wx rfl ⟨as',h1,h2,h3⟩ hK9
   have hv0:D (v:Int)=0:=Classical.byContradiction fun hne=>by
    have hvn2:nodeN n (v:Int):=⟨by omega,by omega⟩
    have hlt:D (v:Int)<4611686018427387904:=by
     have:=HRS.out.dlt
     omega
    refine none_of (v:=v) (fun j hj=>?_) (next_some (fun a b c h=>⟨(HA.out a b c h).1,(HA.out a b c h).2.1,(HA.out a b c h).2.2.1⟩) HTD.out hvn2 hne hlt)
    exact h2 (stepE es (j:Int)) (List.mem_map.2 ⟨(j:Int),hj,rfl⟩)
   have HR9:=Lib.hid h1
   have x4:=h1.c16.1
   have x5:=h1.c16.2.1
   have x6:=h1.c6.1
   have x7:=h1.c6.2.1
   have z6:=h1.c6.2.2.1
   have z7:=h1.c6.2.2.2
   have HK9:=Lib.hid hK9
   rw [hv0,Int.sub_zero] at x5
   clear h1 h2 hK9
   dsimp only
   rename_i q2 q3 q4
   show q3 _ _
   refine q4 _ _ ?_
   clear HSEQ HKB HTN h3
   go_wp2
   simp only [jumps_ret]
   have r0:((Wx.setCell ⟨K.b6,0,none⟩ (.slice la l.length lc)).setCell ⟨K.b6,1,none⟩ (.int .u64 (D (sN:Int)))).cell? ⟨K.b6,0,none⟩=some (.slice la l.length lc):=by
    rw [World.cell?_setCell_other _ _ _ _ (by simp)]
    exact World.cell?_setCell_same _ _ _ x6
   have r1:((Wx.setCell ⟨K.b6,0,none⟩ (.slice la l.length lc)).setCell ⟨K.b6,1,none⟩ (.int .u64 (D (sN:Int)))).cell? ⟨K.b6,1,none⟩=some (.int .u64 (D (sN:Int))):=
    World.cell?_setCell_same (u:=.int .u64 0) _ _ _ (by rw [World.cell?_setCell_other _ _ _ _ (by simp)];exact x7)
   have h9:=HR9.out
   have hoZ:K.b6<Z:=HOW2.out
   have hZw:=HZW.out
   refine leavesK_all (w7.heap.size::Ds) _ (List.nodup_cons.2 ⟨fun hm=>by have:=HMK.out _ hm;omega,h9.nod⟩) (fun E hE=>?_) (fun W9 ho9=>⟨.tuple #[.agg #[.slice la l.length lc,.int .u64 (D (sN:Int))],.int .i64 0],?_,?_⟩)
   ·have hne:E≠K.b6:=by
     rcases List.mem_cons.1 hE with rfl|e
     ·omega
     ·have:=(h9.mks E e).2
      omega
    rw [Below.heap_setCell _ _ _ _ hne,Below.heap_setCell _ _ _ _ hne]
    rcases List.mem_cons.1 hE with rfl|e
    ·exact HK9.out
    ·exact (h9.mks E e).1
   ·have hn6:¬K.b6∈w7.heap.size::Ds:=fun hm=>by
     rcases List.mem_cons.1 hm with e|e
     ·omega
     ·have:=(h9.mks _ e).2
      omega
    have s0:=ho9.cell r0 hn6
    have s1:=ho9.cell r1 hn6
    simp [results,Tryz.results61,go_sem,s0,s1]
    try rfl
   ·refine ⟨la,l,lc,D (sN:Int),0,rfl,fun i u hu=>?_,?_,.inl ⟨rfl,HS.out.1,HS.out.2.1,HS.out.2.2.2,HS.out.2.2.1,D,HTD.out,h9.seg.stop hv0⟩,fun y hy=>by have:=(h9.la y hy).1;have:=HOK.out.ge;have:=HOK.out.s46;omega⟩
    ·obtain ⟨b,o,e,h8⟩:=h9.cl i u hu
     have hl2:=h9.la _ e
     simp only at hl2
     have hlb:=HLA.out _ e (fun e9=>by rw [e9] at hu;simp at hu)
     simp only at hlb
     refine ⟨b,o,e,ho9.cell ?_ (fun hm=>?_)⟩
     ·rw [World.cell?_setCell_far _ _ _ _ (by simp;omega),World.cell?_setCell_far _ _ _ _ (by simp;omega)]
      exact h8
     ·rcases List.mem_cons.1 hm with e2|e2
      ·have e3:b=w7.heap.size:=e2
       omega
      ·exact hl2.2 e2
    ·have h6g:w.heap.size≤K.b6:=by have:=HOK.out.ge;have:=HOK.out.s46;omega
     exact ((h9.bel.setCell (p:=⟨K.b6,0,none⟩) h6g _).setCell (p:=⟨K.b6,1,none⟩) h6g _).trans (ho9.below (by simp [World.setCell];exact h9.bel.size) (fun k hk=>by
      have:=HRS.out.bel.size
      rcases List.mem_cons.1 hk with rfl|e
      ·omega
      ·have:=(h9.mks k e).2
       have:=HOK.out.oZ
       have:=HOK.out.o17
       have:=HOK.out.o16
       have:=HOK.out.o15
       have:=HOK.out.lh
       have:=HOK.out.s6
       omega))
  case body=>
   rintro l' pre ⟨xi,xf,xt,xw⟩ W0 Wx ⟨as',h1,h2,h3⟩ hpx hsz ho
   have hDz:w7.heap.size+1≠W0.heap.size:=by omega
   have y1:=ho.cell (p:=⟨W0.heap.size,1,none⟩) (v:=.int .i64 xt) (by go_simp) (fun e=>hDz (by unfold TurnK at e;exact e.symm))
   have y2:=ho.cell (p:=⟨W0.heap.size,2,none⟩) (v:=.int .u64 xw) (by go_simp) (fun e=>hDz (by unfold TurnK at e;exact e.symm))
   have hWx:W0.heap.size+1≤Wx.heap.size:=by have h9:=ho.size;rwa [World.size_alloc] at h9
   obtain ⟨suf,hsuf⟩:=hpx
   obtain ⟨i,hi,hix,hspl⟩:∃i:Nat,∃hi:i<es.length,((xi,(⟨xf,xt,xw⟩:EdgeD))=((i:Int),es[i]))∧∃p q,outI es v=p++(i:Int)::q∧∀j:Nat,(j:Int)∈p→stepE es (j:Int)∈pre:=by
    unfold stepsE at hsuf
    rw [List.append_assoc] at hsuf
    obtain ⟨p,q,e1,e2,e3⟩:=List.map_eq_append_iff.1 hsuf.symm
    obtain ⟨z,q',rfl,e4,e5⟩:=List.map_eq_cons_iff.1 e3
    have hz:z∈outI es v:=by rw [e1];simp
    obtain ⟨i,rfl,hi,_⟩:=idxN_mem.1 hz
    refine ⟨i,hi,?_,p,q',e1,fun j hj=>by rw [←e2];exact List.mem_map.2 ⟨_,hj,rfl⟩⟩
    rw [←e4]
    unfold stepE
    rw [Int.toNat_natCast,List.getD_eq_getElem?_getD,List.getElem?_eq_getElem hi]
    rfl
   obtain ⟨hxi,hes⟩:=Prod.mk.inj hix
   subst hxi
   have hesm:(⟨xf,xt,xw⟩:EdgeD)∈es:=by rw [hes];exact List.getElem_mem hi
   obtain ⟨hnf,hnt,hw1,hw2⟩:=HA.out xf xt xw ⟨_,hesm,rfl,rfl,rfl⟩
   obtain ⟨tx,rfl⟩:∃q:Nat,xt=(q:Int):=⟨xt.toNat,by have:=hnt.1;omega⟩
   have htx:tx<n:=by have:=hnt.2;omega
   have hgd:es.getD i edZ=⟨xf,(tx:Int),xw⟩:=by rw [hes];simp [List.getD,hi]
   have hff:xf=(v:Int):=by
    obtain ⟨p,q,e1,_⟩:=hspl
    obtain ⟨i',e2,hi',hk'⟩:=idxN_mem.1 (show (i:Int)∈outI es v by rw [e1];simp)
    have:i'=i:=by omega
    subst this
    have h9:(es.getD i' edZ).f.toNat=v:=hk'
    rw [hgd] at h9
    have:=hnf.1
    simp only at h9
    omega
   subst hff
   have HFI:=Lib.hid (fun hg:goodE D ⟨(v:Int),(tx:Int),xw⟩=>(show FirstE es D (v:Int) i from by
    obtain ⟨p,q,e1,e2⟩:=hspl
    exact first_of (pre:=p) (suf:=q) (fun e he=>(HA.out _ _ _ ⟨e,he,rfl,rfl,rfl⟩).1.1) e1 (by rw [hgd];exact hg) (fun j hj=>h2 _ (e2 j hj))))
   have HGD:=Lib.hid hgd
   have hfv:=HTD.out (tx:Int) hnt
   have hfin:=hfv.in
   have HFR:=Lib.hid (from_any K.ob hb K.sb K.kb n tN tx es R S ro lb as' Wx h1.orc (HH.out.go h1.bel) HTS.out htx htN (by have:=nodes_le h1.ask.2 h1.ask.1;omega))
   have HFV:=Lib.hid hfv
   have HX1:=Lib.hid h1
   have HX2:=Lib.hid h2
   have HASK:=Lib.hid (show (if (tx:Int)∈as' then as' else as'++[(tx:Int)]).Nodup∧∀x∈(if (tx:Int)∈as' then as' else as'++[(tx:Int)]),nodeN n x from by
    split
    ·exact h1.ask
    ·rename_i hni
     refine ⟨List.nodup_append.2 ⟨h1.ask.1,by simp,fun a ha b hb'=>by obtain rfl:=List.mem_singleton.1 hb';intro e;subst e;exact hni ha⟩,fun x hx=>?_⟩
     rcases List.mem_append.1 hx with hx|hx
     ·exact h1.ask.2 x hx
     ·obtain rfl:=List.mem_singleton.1 hx
      exact hnt)
   have x15:=h1.c15
   have x17:=h1.c17.1
   have hdl:=h1.dlt
   unfold FromPost at HFR
   clear hix hes hesm hspl hsuf hgd h1 h2 ho hnf hfv
   have HKX:=Lib.hid (show ∀(Wy:World),OffX (· =K.kb) Wx Wy→KeepX (BodyK (KpA K.lo K.hi wr.heap.size) w7.heap.size) Wx Wy from fun Wy ho=>⟨ho.size,fun k hk=>by
    have f1:=HOW.out K.kb (.inr (.inr (.inr (.inr (.inr (.inr (.inr (.inr rfl))))))))
    have f2:=HOK.out.kb
    refine ho.block k ?_ (fun e=>?_)
    ·rcases hk with (h|h)|h|h<;>omega
    ·have e':k=K.kb:=e
     rcases hk with (h|h)|h|h<;>omega⟩)
   have hbe:W0.heap.size≠K.kb:=by have:=HOW.out K.kb (.inr (.inr (.inr (.inr (.inr (.inr (.inr (.inr rfl))))))));omega
   have hdn:=(HTD.out (v:Int) ⟨by omega,by omega⟩).in
   clear hDz
   dsimp only
   generalize hdv:D (v:Int)=dv at*
   generalize hdx:D (tx:Int)=dx at*
   have HDV:=Lib.hid hdv
   have HDX:=Lib.hid hdx
   clear hdv hdx
   by_cases hlt:dx<4611686018427387904
   ·have HF1:=Lib.hid (HFR.out.mono (R':=fun e w'=>e=.returned (.tuple #[.int .u64 dx,.bool true])∧OrW w' K.ob hb K.sb K.kb n tN (arcG es) lb (if (tx:Int)∈as' then as' else as'++[(tx:Int)])∧OffX (· =K.kb) Wx w') (by
     rintro e w' ⟨x,hx,hc,hor,hok⟩
     obtain rfl:=hx.uniq HFV.out
     rcases hc with ⟨_,rfl⟩|⟨h,_⟩
     ·exact ⟨rfl,hor,hok⟩
     ·omega))
    clear HFR
    by_cases hgood:dx+xw=dv
    ·obtain rfl:=hgood
     have hwr:IntKind.u64.wrap (dx+xw)=dx+xw:=by rw [IntKind.wrap_u64];omega
     have hgt:decide (0<dx+xw)=true:=by simp;omega
     have hgt2:0<dx+xw:=by omega
     have HW1:=Lib.hid (And.intro hw1 hdn)
     have HFE:=Lib.hid (HFI.out ⟨by rw [HDX.out];exact hlt,by rw [HDX.out,HDV.out]⟩)
     have HL20:=Lib.hid (show l.length≤1000000 from by
      obtain ⟨vs,e1,e2,e3⟩:=HX1.out.vis
      have:=nodes_le (fun x hx=>(e3 x hx).1) e2
      omega)
     have HJN:=Lib.hid (fun (W':World) (bx:Nat) (wx:Int) (h8:Cel W' la (l.map encI)) (hx:W'.cell? ⟨bx,0,none⟩=some (.int .i64 (i:Int)))=>Join_any la (some ⟨bx,0,none⟩) lc 1 l [(i:Int)] wx xw W' (by have:=HL20.out;omega) (by simp) h8 (fun j u hu=>by
      match j with
      |0=>cases hu;exact ⟨bx,0,rfl,hx⟩
      |j+1=>simp at hu))
     have hebZ:w7.heap.size+2≤W0.heap.size:=hsz
     have how4:=HOW.out K.b4 (.inl rfl)
     have how16:=HOW.out K.b16 (.inr (.inr (.inr (.inl rfl))))
     have how17:=HOW.out K.b17 (.inr (.inr (.inr (.inr (.inl rfl)))))
     have n1:¬W0.heap.size=K.b4:=by omega
     have n2:¬W0.heap.size=K.b16:=by omega
     have n3:¬W0.heap.size=K.b17:=by omega
     have n4:¬K.b4=K.b16:=by have:=HOK.out.s46;have:=HOK.out.s6;have:=HOK.out.lh;have:=HOK.out.o15;have:=HOK.out.o16;omega
     have n5:¬K.b4=K.b17:=by have:=HOK.out.s46;have:=HOK.out.s6;have:=HOK.out.lh;have:=HOK.out.o15;have:=HOK.out.o16;have:=HOK.out.o17;omega
     have n6:¬K.b16=K.b17:=by have:=HOK.out.o17;omega
     have n7:¬K.b16=K.b4:=fun e=>n4 e.symm
     have n8:¬K.b17=K.b4:=fun e=>n5 e.symm
     have n9:¬K.b17=K.b16:=fun e=>n6 e.symm
     have n10:¬K.b16=W0.heap.size:=fun e=>n2 e.symm
     have n11:¬K.b4=W0.heap.size:=fun e=>n1 e.symm
     have n12:¬K.b17=W0.heap.size:=fun e=>n3 e.symm
     gi_wp2_with (first
      |(refine ⟨trivial,?_⟩;gi_at_call 115;refine (CallsIn.inRound l' (callsIn_wide.2 HF1.out)).mono ?_;rintro e w8 ⟨rfl,hor,hok⟩;(have HR8:=Lib.hid (HX1.out.asks HOK.out hok hor HASK.out));(have HK8:=Lib.hid (HKX.out _ hok));(have HZ8:=Lib.hid hok.size);(have u1:=hok.cell y1 hbe);(have u2:=hok.cell y2 hbe);(have u17:=HR8.out.c17.1);rw [HDV.out] at u17;(have u16:=HR8.out.c16.1);(have u16':=HR8.out.c16.2.1);rw [HDV.out] at u16';(have u2b:=fun o=>cell_later (Below.of_al w8 o) u2);clear hor hok)
      |(refine ⟨trivial,?_⟩;gi_at_call 62;refine (CallsIn.inRound l' (callsIn_wide.2 (HJN.out _ _ _ (HR8.out.cl.go (Below.of_al _ _)) (by go_simp)))).mono ?_;rintro e w9 ⟨la',lc',rfl,hj1,hj2,hj3⟩;(have HB9:=Lib.hid ((Below.of_al w8 (Obj.cells #[Value.int IntKind.i64 (i:Int)] 3)).st hj2));(have HR9:=Lib.hid (HR8.out.go HOK.out HB9.out));(have HJ9:=Lib.hid (And.intro hj1 hj3));(have t1:=cell_later HB9.out u1);(have t16:=HR9.out.c16.1);(have t16':=HR9.out.c16.2.1);rw [HDV.out] at t16';(have f16:=HR9.out.c16.2.2.1);(have f16':=HR9.out.c16.2.2.2);(have t4:=HR9.out.c4.1);(have f4:=HR9.out.c4.2);(have t17:=HR9.out.c17.1);rw [HDV.out] at t17;(have f17:=HR9.out.c17.2);clear hj1 hj2 hj3))
     refine wpIn_goto ?_
     have hw1:=HW1.out.1
     have hdn2:=HW1.out.2
     have hz9:=HB9.out.size
     have hz8:=HZ8.out
     have hzW:=HZW.out
     have hfr:∀x,la'=some x→w7.heap.size+2≤x.block:=fun x hx=>by
      have h9:=HJ9.out.2 x hx
      rw [World.size_alloc] at h9
      omega
     have hsg:=HR9.out.seg.step HFE.out (by rw [HDV.out];omega)
     rw [HGD.out] at hsg
     have hnx:=HR9.out.next (v':=tx) (i:=i) (la':=la') (lc':=lc') HOK.out HJ9.out.1 (fun x hx=>⟨by have:=hfr x hx;omega,fun hm=>by have:=HMK.out _ hm;have:=hfr x hx;omega⟩) htx hsg (by rw [HDX.out,HDV.out];omega)
     rw [show (l++[(i:Int)]).length=l.length+1 by simp,HDX.out,show D (sN:Int)-dx=D (sN:Int)-(dx+xw)+xw by omega] at hnx
     refine ⟨⟨?_,fun k hk=>?_⟩,rfl,i,tx,la',lc',_,by rw [HDX.out];omega,by rw [HDX.out];omega,hnx,hfr⟩
     ·simp [World.setCell]
      omega
     ·have hkl:k<w7.heap.size+2:=by
       have:=HOW.out K.kb (.inr (.inr (.inr (.inr (.inr (.inr (.inr (.inr rfl))))))))
       rcases hk with (h|h)|h|h
       ·have:=HOW.out k (.inr (.inr (.inr (.inr (.inr (.inl h))))))
        omega
       ·omega
       ·omega
       ·omega
      have hkn:k≠K.b4∧k≠K.b16∧k≠K.b17:=by
       have g1:=HOK.out.s46
       have g2:=HOK.out.s6
       have g3:=HOK.out.lh
       have g4:=HOK.out.o15
       have g5:=HOK.out.o16
       have g6:=HOK.out.o17
       rcases hk with (h|h)|h|h<;>omega
      rw [Below.heap_setCell _ _ _ _ hkn.2.2,Below.heap_setCell _ _ _ _ hkn.1,Below.heap_setCell _ _ _ _ hkn.2.1,Below.heap_setCell _ _ _ _ hkn.2.1,HB9.out.block k (by omega)]
      exact HK8.out.2 k hk
    ·have HNG:=Lib.hid (show ¬goodE D ⟨(v:Int),(tx:Int),xw⟩ from fun h=>by
      have:=h.2
      rw [HDX.out,HDV.out] at this
      exact hgood this)
     have hwr:IntKind.u64.wrap (dx+xw)=dx+xw:=by rw [IntKind.wrap_u64];omega
     have hneq:(dx+xw==dv)=false:=by simpa using hgood
     by_cases hv0:dv=0
     ·subst hv0
      gi_wp2_with (refine ⟨trivial,?_⟩;gi_at_call 115;refine (CallsIn.inRound l' (callsIn_wide.2 HF1.out)).mono ?_;rintro e w8 ⟨rfl,hor,hok⟩;(have HR8:=Lib.hid (HX1.out.asks HOK.out hok hor HASK.out));(have HK8:=Lib.hid (HKX.out _ hok));(have HZ8:=Lib.hid hok.size);(have u1:=hok.cell y1 hbe);(have u2:=hok.cell y2 hbe);(have u17:=HR8.out.c17.1);rw [HDV.out] at u17;clear hor hok)
      exact ⟨HK8.out,_,HR8.out,fun x hx=>by
       rcases List.mem_append.1 hx with hx|hx
       ·exact HX2.out x hx
       ·obtain rfl:=List.mem_singleton.1 hx
        exact HNG.out,by have:=HZ8.out;omega⟩
     ·have hgt:decide (0<dv)=true:=by simp;omega
      gi_wp2_with (refine ⟨trivial,?_⟩;gi_at_call 115;refine (CallsIn.inRound l' (callsIn_wide.2 HF1.out)).mono ?_;rintro e w8 ⟨rfl,hor,hok⟩;(have HR8:=Lib.hid (HX1.out.asks HOK.out hok hor HASK.out));(have HK8:=Lib.hid (HKX.out _ hok));(have HZ8:=Lib.hid hok.size);(have u1:=hok.cell y1 hbe);(have u2:=hok.cell y2 hbe);(have u17:=HR8.out.c17.1);rw [HDV.out] at u17;clear hor hok)
      exact ⟨HK8.out,_,HR8.out,fun x hx=>by
       rcases List.mem_append.1 hx with hx|hx
       ·exact HX2.out x hx
       ·obtain rfl:=List.mem_singleton.1 hx
        exact HNG.out,by have:=HZ8.out;omega⟩
   ·have HF1:=Lib.hid (HFR.out.mono (R':=fun e w'=>e=.returned (.tuple #[.int .u64 0,.bool false])∧OrW w' K.ob hb K.sb K.kb n tN (arcG es) lb (if (tx:Int)∈as' then as' else as'++[(tx:Int)])∧OffX (· =K.kb) Wx w') (by
     rintro e w' ⟨x,hx,hc,hor,hok⟩
     obtain rfl:=hx.uniq HFV.out
     rcases hc with ⟨h,_⟩|⟨_,rfl⟩
     ·omega
     ·exact ⟨rfl,hor,hok⟩))
    clear HFR
    have HNG:=Lib.hid (show ¬goodE D ⟨(v:Int),(tx:Int),xw⟩ from fun h=>by
     have:=h.1
     rw [HDX.out] at this
     omega)
    by_cases hv0:dv=0
    ·subst hv0
     gi_wp2_with (refine ⟨trivial,?_⟩;gi_at_call 115;refine (CallsIn.inRound l' (callsIn_wide.2 HF1.out)).mono ?_;rintro e w8 ⟨rfl,hor,hok⟩;(have HR8:=Lib.hid (HX1.out.asks HOK.out hok hor HASK.out));(have HK8:=Lib.hid (HKX.out _ hok));(have HZ8:=Lib.hid hok.size);(have u1:=hok.cell y1 hbe);(have u2:=hok.cell y2 hbe);(have u17:=HR8.out.c17.1);rw [HDV.out] at u17;clear hor hok)
     exact ⟨HK8.out,_,HR8.out,fun x hx=>by
      rcases List.mem_append.1 hx with hx|hx
      ·exact HX2.out x hx
      ·obtain rfl:=List.mem_singleton.1 hx
       exact HNG.out,by have:=HZ8.out;omega⟩
    ·have hgt:decide (0<dv)=true:=by simp;omega
     gi_wp2_with (refine ⟨trivial,?_⟩;gi_at_call 115;refine (CallsIn.inRound l' (callsIn_wide.2 HF1.out)).mono ?_;rintro e w8 ⟨rfl,hor,hok⟩;(have HR8:=Lib.hid (HX1.out.asks HOK.out hok hor HASK.out));(have HK8:=Lib.hid (HKX.out _ hok));(have HZ8:=Lib.hid hok.size);(have u1:=hok.cell y1 hbe);(have u2:=hok.cell y2 hbe);(have u17:=HR8.out.c17.1);rw [HDV.out] at u17;clear hor hok)
     exact ⟨HK8.out,_,HR8.out,fun x hx=>by
      rcases List.mem_append.1 hx with hx|hx
      ·exact HX2.out x hx
      ·obtain rfl:=List.mem_singleton.1 hx
       exact HNG.out,by have:=HZ8.out;omega⟩
 ·rintro n' l' a' w' hne ⟨_,_,_,_,h,_⟩
  exact absurd h hne
end Go.Proofs.YteaaapdjplbljaaGreat.Ro
