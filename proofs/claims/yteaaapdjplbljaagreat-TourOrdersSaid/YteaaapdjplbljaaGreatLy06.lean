/- Walk of tour.Order: too many stops; all of it. -/
import Derived.Test.YteaaapdjplbljaaGreatLyS
import Derived.Test.YteaaapdjplbljaaGreatProg
import Derived.Test.YteaaapdjplbljaaGreatLy05
set_option linter.unusedVariables false
set_option linter.unusedSimpArgs false
set_option linter.unnecessarySimpa false
namespace Go.Proofs.YteaaapdjplbljaaGreat
open Go Go.Proofs Go.RowKit Go.Shelf Go.Proofs.YteaaapdjplbljaaGreat.Hp Go.Proofs.YteaaapdjplbljaaGreat.Ch Go.Proofs.YteaaapdjplbljaaGreat.To
noncomputable def cmat (es:List EdgeD) (all:List Int) (i j:Nat):Int:=distV es (all.getD i 0) (all.getD j 0)
def TrOrdPost (es:List EdgeD) (all:List Int) (m:Nat) (w:World) (e:Ending) (w':World):Prop:=
 (∀i j,i<all.length→j<all.length→DistT es (all.getD i 0) (all.getD j 0))∧(((growF (cmat es all) m m 0 [] 0 ([],4611686018427387904)).2<4611686018427387904∧∃(a:Option Addr) (c:Nat),e=.returned (.tuple #[.slice a (growF (cmat es all) m m 0 [] 0 ([],4611686018427387904)).1.length c,.int .u64 (growF (cmat es all) m m 0 [] 0 ([],4611686018427387904)).2,.int .i64 0])∧Cel w' a (((growF (cmat es all) m m 0 [] 0 ([],4611686018427387904)).1.map Int.ofNat).map encI))∨
  (4611686018427387904≤(growF (cmat es all) m m 0 [] 0 ([],4611686018427387904)).2∧e=.returned (.tuple #[.slice none 0 0,.int .u64 0,.int .i64 9])))∧Below w.heap.size w w'
noncomputable def grK (es:List EdgeD) (all:List Int) (sz fb gb ab ao2 rc m:Nat) (sl:Value):GrK:=⟨sz+1+1,sz,fb,sz+1,gb,ab,ao2,sl,rc,m,gb+1,cmat es all⟩
theorem gr_start {w W5 W8:World} {es:List EdgeD} {all l:List Int} {ao:Option Addr} {cap rc fb ab ao2 gb:Nat} (hS:OrS w W5 (.slice ao l.length cap)) (hfb:w.heap.size+3≤fb) (hgb:gb=W5.heap.size) (hfz:W5.heap.size=fb+1) (hF:W5.cell? ⟨fb,0,none⟩=some (.slice (some ⟨ab,ao2,none⟩) all.length rc)) (hl:l.length≤7) (hal:all.length=l.length+2) (hab:ab<fb)
  (hP:∀i (hi:i<all.length),∃D:Nat,D<fb∧W5.cell? ⟨ab,ao2+i,none⟩=some (.slice (some ⟨D,0,none⟩) all.length all.length)∧∀j (hj:j<all.length),W5.cell? ⟨D,j,none⟩=some (.int .u64 (distV es all[i] all[j]))∧DistT es all[i] all[j])
  (h8:W8=(W5.setCell ⟨w.heap.size+1+1,0,none⟩ (.int .u64 4611686018427387904)).alloc (Obj.cells #[.func (.func 66) #[] (grK es all w.heap.size fb gb ab ao2 rc l.length (.slice ao l.length cap)).caps] 124)):
  (grK es all w.heap.size fb gb ab ao2 rc l.length (.slice ao l.length cap)).Con W8∧(grK es all w.heap.size fb gb ab ao2 rc l.length (.slice ao l.length cap)).St W8 none 0 ([],4611686018427387904):=by
 obtain ⟨s0,s1⟩:=one_is hS.s
 obtain ⟨b0,b1⟩:=one_is hS.b
 obtain ⟨l0,l1⟩:=one_is (b:=w.heap.size+1+1) hS.l
 obtain ⟨U,hU⟩:∃U,U=W5.setCell ⟨w.heap.size+1+1,0,none⟩ (.int .u64 4611686018427387904):=⟨_,rfl⟩
 rw [←hU] at h8
 have hz:U.heap.size=W5.heap.size:=by rw [hU];simp [World.setCell]
 have hb:Below U.heap.size U W8:=by rw [h8];exact Below.of_al _ _
 have hz8:W8.heap.size=W5.heap.size+1:=by rw [h8];simp [hz]
 have hk:∀(p:Addr) (v:Value),p.block≠w.heap.size+1+1→W5.cell? p=some v→W8.cell? p=some v:=fun p v hp hv=>cell_later hb (by
  rw [hU]
  obtain ⟨pb,po,ps⟩:=p
  rw [World.cell?_setCell_far _ _ _ _ (fun e=>hp e.symm)];exact hv)
 have hq:∀i (hi:i<l.length+2),∃D,D<fb∧D≠w.heap.size+1+1∧D≠w.heap.size+1∧W5.cell? ⟨ab,ao2+i,none⟩=some (.slice (some ⟨D,0,none⟩) (l.length+2) (l.length+2))∧∀j,j<l.length+2→W5.cell? ⟨D,j,none⟩=some (.int .u64 (cmat es all i j))∧DistT es (all.getD i 0) (all.getD j 0):=by
  intro i hi
  obtain ⟨D,d1,d2,d3⟩:=hP i (by omega)
  rw [hal] at d2
  refine ⟨D,d1,fun e=>?_,fun e=>?_,d2,fun j hj=>?_⟩
  ·have h9:=(d3 1 (by omega)).1
   rw [e] at h9
   have:=(one_at (b:=w.heap.size+1+1) hS.l h9).1
   omega
  ·have h9:=(d3 0 (by omega)).1
   rw [e] at h9
   have:=(one_at hS.b h9).2
   cases this
  ·have h9:=d3 j (by omega)
   unfold cmat
   rw [List.getD_eq_getElem?_getD,List.getD_eq_getElem?_getD,List.getElem?_eq_getElem (show i<all.length by omega),List.getElem?_eq_getElem (show j<all.length by omega)]
   exact h9
 obtain ⟨D1,q1,q2,q3,q4,q5⟩:=hq 1 (by omega)
 have n1:ab≠w.heap.size+1+1:=fun e=>by
  rw [e] at q4
  have:=(one_at (b:=w.heap.size+1+1) hS.l q4).1
  omega
 have n2:ab≠w.heap.size+1:=fun e=>by
  rw [e] at q4
  have:=(one_at hS.b q4).1
  omega
 refine ⟨⟨⟨hk _ _ (by show w.heap.size≠_;omega) s0,ao,cap,rfl⟩,?_,?_,fun i hi=>?_,⟨?_,?_,?_,?_,?_,?_⟩,⟨?_,?_,?_,?_,?_,?_,?_,n1,n2⟩,fun i j hi hj=>?_,?_,?_⟩,⟨⟨?_,?_⟩,⟨?_,?_⟩,?_,fun x hx=>nomatch hx⟩⟩
 ·have:=hk ⟨fb,0,none⟩ _ (by show fb≠_;omega) hF
  rw [hal] at this
  exact this
 ·show W8.cell? ⟨gb,0,none⟩=_
  rw [h8,hgb,←hz]
  exact (one_is (heap_alloc_new U _)).1
 ·obtain ⟨D,d1,d2,d3,d4,d5⟩:=hq i hi
  exact ⟨D,by show D<gb+1;omega,d2,d3,hk _ _ n1 d4,fun j hj=>hk _ _ d2 (d5 j hj).1⟩
 ·show w.heap.size+1+1<gb+1;omega
 ·show w.heap.size<gb+1;omega
 ·show fb<gb+1;omega
 ·show w.heap.size+1<gb+1;omega
 ·show gb<gb+1;omega
 ·show ab<gb+1;omega
 ·show w.heap.size+1+1≠w.heap.size+1;omega
 ·show w.heap.size≠w.heap.size+1+1;omega
 ·show w.heap.size≠w.heap.size+1;omega
 ·show fb≠w.heap.size+1+1;omega
 ·show fb≠w.heap.size+1;omega
 ·show gb≠w.heap.size+1+1;omega
 ·show gb≠w.heap.size+1;omega
 ·obtain ⟨D,d1,d2,d3,d4,d5⟩:=hq i hi
  have:=(d5 j hj).2
  exact ⟨this.in.1,this.2⟩
 ·show l.length≤20;omega
 ·show gb+1≤W8.heap.size;omega
 ·refine cell_later hb ?_
  rw [hU]
  exact World.cell?_setCell_same (u:=.int .u64 0) _ _ _ l0
 ·rw [hb.frozen (show w.heap.size+1+1<U.heap.size by omega),hU]
  show World.frozen? (World.setCell _ _ _) _=_
  simp
  exact l1
 ·exact hk _ _ (by show w.heap.size+1≠_;omega) b0
 ·rw [hb.frozen (show w.heap.size+1<U.heap.size by omega),hU]
  show World.frozen? (World.setCell _ _ _) _=_
  simp
  exact b1
 ·exact Cel.nil _ _
set_option maxRecDepth 100000 in
set_option maxHeartbeats 4000000 in
theorem trOrder_big (hb n:Nat) (es:List EdgeD) (R:List Int) (S:List SC) (ro:List Int) (s t:Int) (l:List Int) (ao:Option Addr) (cap:Nat) (w:World) (h:BH w hb n es R S ro) (hc:Cel w ao (l.map encI)) (hl:l.length≤50) (hbig:7<l.length) (hno:∀v∈s::t::l,nodeN n v):
  Calls Tryz.prog 21 #[.pointer (some ⟨hb,0,none⟩),.int .i64 s,.slice ao l.length cap,.int .i64 t] w fun e w'=>e=.returned (.tuple #[.slice none 0 0,.int .u64 0,.int .i64 5])∧Below w.heap.size w w':=by
 obtain ⟨W0,hW0⟩:∃W0,W0=((w.alloc (Obj.cells #[.slice ao l.length cap] 25)).alloc (Obj.cells #[.slice none 0 0] 25)).alloc (Obj.cells #[.int .u64 0] 37):=⟨_,rfl⟩
 have hb0:Below w.heap.size w W0:=by rw [hW0];exact ((Below.of_al _ _).al _).al _
 have hz0:W0.heap.size=w.heap.size+3:=by rw [hW0];simp
 have hs0:OrS w W0 (.slice ao l.length cap):=by rw [hW0];exact OrS.of _ _
 have hb1:Below W0.heap.size W0 (W0.alloc (Obj.cells #[.int .i64 s,.int .i64 t] 3)):=Below.of_al _ _
 obtain ⟨a2,c2,w2,hr2,ho2,hb2⟩:=run_appAll (P:=Tryz.prog) (w:=W0.alloc (Obj.cells #[.int .i64 s,.int .i64 t] 3)) 25 25 W0.heap.size 3 _ 8 elem_int Tryz.underlying25 (some ⟨W0.heap.size,0,none⟩) 2 2 [.int .i64 s,.int .i64 t] (lit_owns _ _ _ _ _ (Nat.le_refl _)) ao l.length cap (l.map encI) ((hc.go hb0).go hb1) (fun u hu=>by obtain ⟨x,_,rfl⟩:=List.mem_map.1 hu;rfl) ⟨by simp,by omega,by omega,hb1.size⟩
 have hs2:=(hs0.go (hb1.trans hb2))
 have hc2:Cel w2 a2 ((s::t::l).map encI):=by
  obtain ⟨a',c',e,h⟩:=Cel.of_owns ho2
  cases e
  exact h
 rw [show 2+l.length=(s::t::l).length by simp;omega] at hr2
 have HR2:=Lib.hid hr2
 have HS2:=Lib.hid hs2
 have HR:=Lib.hid (trRight_ok hb n es R S ro (s::t::l) a2 c2 w2 (h.go hs2.bl) hc2 (by simp;omega) hno)
 have y0:=(one_is (hs0.go hb1).s).1
 have HW:=Lib.hid hW0
 have hl2:(l.length:Int)≤50:=by omega
 have hbg:(7:Int)<(l.length:Int):=by omega
 clear hr2 hs2 hc hc2 ho2 hb2 hb1 hs0 hz0 hb0 hW0 h hno
 generalize (s::t::l).length=nn at*
 go_enter Tryz.func21,Tryz.ntmps21
 go_upto_region 1 with (fail)
 rw [←HW.out]
 have hn1:(w.heap.size+1=w.heap.size+1+1)=False:=eq_false (by omega)
 have hn2:(w.heap.size+1+1=w.heap.size+1)=False:=eq_false (by omega)
 go_wp2_with (first
  |(at_builtin;refine Lib.wpList_append_run _ rfl _ _ _ _ rfl _ _ rfl rfl _ _ HR2.out ?_)
  |(go_at_call 60;refine HR.out.mono ?_;rintro e w3 ⟨rfl,hb3⟩;(have HS3:=Lib.hid (HS2.out.go hb3));(have y3:=(one_is HS3.out.s).1);(obtain ⟨x0,x1⟩:=one_is HS3.out.b);(obtain ⟨x2,x3⟩:=one_is (b:=w.heap.size+1+1) HS3.out.l);clear hb3))
 obtain ⟨z0,z1⟩:=two_set (x:=.slice none 0 0) (y:=.int .u64 0) x0 x2
 refine bodyPost_ret (v:=.tuple #[.slice none 0 0,.int .u64 0,.int .i64 5]) (by simp [results,Tryz.results21,go_sem,z0,z1];try rfl) rfl ?_
 exact ⟨rfl,(HS3.out.bl.setCell (show w.heap.size≤w.heap.size+1 by omega) _).setCell (show w.heap.size≤w.heap.size+1+1 by omega) _⟩
set_option maxRecDepth 100000 in
set_option maxHeartbeats 4000000 in
theorem trOrder_any (hb n:Nat) (es:List EdgeD) (R:List Int) (S:List SC) (ro:List Int) (s t:Int) (l:List Int) (ao:Option Addr) (cap:Nat) (w:World) (h:BH w hb n es R S ro) (hc:Cel w ao (l.map encI)) (hl:l.length≤7) (hno:∀v∈s::t::l,nodeN n v):
  Calls Tryz.prog 21 #[.pointer (some ⟨hb,0,none⟩),.int .i64 s,.slice ao l.length cap,.int .i64 t] w (TrOrdPost es (s::t::l) l.length w):=by
 obtain ⟨W0,hW0⟩:∃W0,W0=((w.alloc (Obj.cells #[.slice ao l.length cap] 25)).alloc (Obj.cells #[.slice none 0 0] 25)).alloc (Obj.cells #[.int .u64 0] 37):=⟨_,rfl⟩
 have hb0:Below w.heap.size w W0:=by rw [hW0];exact ((Below.of_al _ _).al _).al _
 have hz0:W0.heap.size=w.heap.size+3:=by rw [hW0];simp
 have hs0:OrS w W0 (.slice ao l.length cap):=by rw [hW0];exact OrS.of _ _
 have hb1:Below W0.heap.size W0 (W0.alloc (Obj.cells #[.int .i64 s,.int .i64 t] 3)):=Below.of_al _ _
 obtain ⟨a2,c2,w2,hr2,ho2,hb2⟩:=run_appAll (P:=Tryz.prog) (w:=W0.alloc (Obj.cells #[.int .i64 s,.int .i64 t] 3)) 25 25 W0.heap.size 3 _ 8 elem_int Tryz.underlying25 (some ⟨W0.heap.size,0,none⟩) 2 2 [.int .i64 s,.int .i64 t] (lit_owns _ _ _ _ _ (Nat.le_refl _)) ao l.length cap (l.map encI) ((hc.go hb0).go hb1) (fun u hu=>by obtain ⟨x,_,rfl⟩:=List.mem_map.1 hu;rfl) ⟨by simp,by omega,by omega,hb1.size⟩
 have hs2:=(hs0.go (hb1.trans hb2))
 have hc2:Cel w2 a2 ((s::t::l).map encI):=by
  obtain ⟨a',c',e,h⟩:=Cel.of_owns ho2
  cases e
  exact h
 rw [show 2+l.length=(s::t::l).length by simp;omega] at hr2
 have HR2:=Lib.hid hr2
 have HS2:=Lib.hid hs2
 have HR:=Lib.hid (trRight_ok hb n es R S ro (s::t::l) a2 c2 w2 (h.go hs2.bl) hc2 (by simp;omega) hno)
 have HOF:=Lib.hid (fun W (hz:Below w2.heap.size w2 W)=>of_any hb n es R S ro (s::t::l) (s::t::l) a2 a2 c2 c2 W ((h.go hs2.bl).go hz) (hc2.go hz) (hc2.go hz) (by simp;omega) (by simp;omega) hno hno)
 have y0:=(one_is (hs0.go hb1).s).1
 have HW:=Lib.hid hW0
 have hl2:(l.length:Int)≤7:=by omega
 have HL:=Lib.hid hl
 have HLN:=Lib.hid (show (s::t::l).length=l.length+2 by simp)
 clear hr2 hs2 hc hc2 ho2 hb2 hb1 hs0 hz0 hb0 hW0 h hno hl
 obtain ⟨all,hall⟩:∃all,all=s::t::l:=⟨_,rfl⟩
 rw [←hall] at HR2 HR HOF HLN ⊢
 clear hall
 go_enter Tryz.func21,Tryz.ntmps21
 go_upto_region 1 with (fail)
 rw [←HW.out]
 have hn1:(w.heap.size+1=w.heap.size+1+1)=False:=eq_false (by omega)
 have hn2:(w.heap.size+1+1=w.heap.size+1)=False:=eq_false (by omega)
 go_upto_region 8 with (first
  |(at_builtin;refine Lib.wpList_append_run _ rfl _ _ _ _ rfl _ _ rfl rfl _ _ HR2.out ?_)
  |(go_at_call 60;refine HR.out.mono ?_;rintro e w3 ⟨rfl,hb3⟩;(have HS3:=Lib.hid (HS2.out.go hb3));(have HB3:=Lib.hid hb3);(have y3:=(one_is HS3.out.s).1);clear hb3)
  |(go_at_call 65;refine (HOF.out _ HB3.out).mono ?_;intro e w4 hp;(obtain ⟨ra,rc,rfl,hp1,hb4⟩:=of_rows hp);clear hp;(have HP:=Lib.hid hp1);(have HS4:=Lib.hid (HS3.out.go hb4));clear hp1 hb4))
 obtain ⟨W5,hW5⟩:∃W5,W5=w4.alloc (Obj.cells #[.slice ra all.length rc] 121):=⟨_,rfl⟩
 rw [←hW5]
 have hb5:Below w4.heap.size w4 W5:=by rw [hW5];exact Below.of_al _ _
 have HS5:=Lib.hid (HS4.out.go hb5)
 have HF5:=Lib.hid (show W5.cell? ⟨w4.heap.size,0,none⟩=some (.slice ra all.length rc) by rw [hW5];go_simp)
 have HB5:=Lib.hid hb5
 have HZ5:=Lib.hid (show W5.heap.size=w4.heap.size+1 by rw [hW5];simp)
 have HZ4:=Lib.hid HS4.out.sz
 have HQ:=Lib.hid (show all.length=l.length+2∧∃ab ao2,ra=some ⟨ab,ao2,none⟩∧ab<w4.heap.size∧∀i (hi:i<all.length),∃D:Nat,D<w4.heap.size∧W5.cell? ⟨ab,ao2+i,none⟩=some (.slice (some ⟨D,0,none⟩) all.length all.length)∧∀j (hj:j<all.length),W5.cell? ⟨D,j,none⟩=some (.int .u64 (distV es all[i] all[j]))∧DistT es all[i] all[j] from by
  have hln:=HLN.out
  obtain ⟨b,o,D0,e,h1,-⟩:=HP.out 0 (by omega)
  refine ⟨hln,b,o,e,World.block_lt_of_cell? _ _ h1,fun i hi=>?_⟩
  obtain ⟨b',o',D,e',h2,h3⟩:=HP.out i hi
  rw [e] at e'
  cases e'
  exact ⟨D,World.block_lt_of_cell? _ _ (h3 0 (by omega)).1,cell_later hb5 h2,fun j hj=>⟨cell_later hb5 (h3 j hj).1,(h3 j hj).2⟩⟩)
 obtain ⟨x2,x3⟩:=one_is (b:=w.heap.size+1+1) HS5.out.l
 clear hW5 hb5
 generalize w4.heap.size=fb at*
 have HX:=Lib.hid (show all.length=l.length+2∧∃ab ao2,ra=some ⟨ab,ao2,none⟩∧ab<fb∧∀i (hi:i<all.length),∃D:Nat,D<fb∧W5.cell? ⟨ab,ao2+i,none⟩=some (.slice (some ⟨D,0,none⟩) all.length all.length)∧∀j (hj:j<all.length),W5.cell? ⟨D,j,none⟩=some (.int .u64 (distV es all[i] all[j]))∧DistT es all[i] all[j] from HQ.out)
 obtain ⟨hal,ab,ao2,rfl,hab,hP9⟩:=HX.out
 have HP9:=Lib.hid hP9
 have HAB:=Lib.hid hab
 clear hP9 hab
 go_upto_region 11 with (fail)
 obtain ⟨gb,hgb⟩:∃gb,gb=W5.heap.size:=⟨_,rfl⟩
 rw [←hgb]
 obtain ⟨W8,hW8⟩:∃W8,W8=(W5.setCell ⟨w.heap.size+1+1,0,none⟩ (.int .u64 4611686018427387904)).alloc (Obj.cells #[.func (.func 66) #[] (grK es all w.heap.size fb gb ab ao2 rc l.length (.slice ao l.length cap)).caps] 124):=⟨_,rfl⟩
 have hst:=gr_start HS5.out HZ4.out hgb HZ5.out HF5.out HL.out hal HAB.out HP9.out hW8
 have hb8:Below w.heap.size w W8:=by rw [hW8];exact (HS5.out.bl.setCell (show w.heap.size≤w.heap.size+1+1 by omega) _).al _
 have HD:=Lib.hid (fun i j (hi:i<all.length) (hj:j<all.length)=>(by
  obtain ⟨D,-,-,h9⟩:=HP9.out i hi
  have:=(h9 j hj).2
  rw [List.getD_eq_getElem?_getD,List.getD_eq_getElem?_getD,List.getElem?_eq_getElem hi,List.getElem?_eq_getElem hj]
  exact this:DistT es (all.getD i 0) (all.getD j 0)))
 have hgr:=grow_any (grK es all w.heap.size fb gb ab ao2 rc l.length (.slice ao l.length cap)) l.length 0 [] (.slice none 0 0) 0 ([],4611686018427387904) none 0 W8 (by simp;rfl) (by show 0<l.length+2;omega) ⟨Int.le_refl _,by simp⟩ hst.1 hst.2 (World.ownsRow_nil _ _ _ _) (fun x hx=>nomatch hx)
 have HGR:=Lib.hid (show Calls Tryz.prog 66 #[.int .i64 0,.slice none 0 0,.int .u64 0,.pointer (some ⟨w.heap.size+1+1,0,none⟩),.pointer (some ⟨w.heap.size,0,none⟩),.pointer (some ⟨fb,0,none⟩),.pointer (some ⟨w.heap.size+1,0,none⟩),.pointer (some ⟨gb,0,none⟩)] W8 (GrPost (grK es all w.heap.size fb gb ab ao2 rc l.length (.slice ao l.length cap)) (.slice none 0 0) [] (growF (cmat es all) l.length l.length 0 [] 0 ([],4611686018427387904)) none W8) from hgr)
 have hg0:W8.cell? ⟨gb,0,none⟩=some (.func (.func 66) #[] #[.pointer (some ⟨w.heap.size+1+1,0,none⟩),.pointer (some ⟨w.heap.size,0,none⟩),.pointer (some ⟨fb,0,none⟩),.pointer (some ⟨w.heap.size+1,0,none⟩),.pointer (some ⟨gb,0,none⟩)]):=hst.1.g
 have HB8:=Lib.hid hb8
 have HZ8:=Lib.hid (show w.heap.size+3≤W8.heap.size from by have h1:=hst.1.sz;have h2:=hst.1.lt.1;have h3:w.heap.size+1+1<gb+1:=h2;have h4:gb+1≤W8.heap.size:=h1;have:=HZ4.out;have:=HZ5.out;omega)
 have HW8:=Lib.hid hW8
 clear hst hgr hb8 hW8 x2 x3
 have HW8':(W5.setCell ⟨w.heap.size+1+1,0,none⟩ (.int .u64 4611686018427387904)).alloc (Obj.cells #[.func (.func 66) #[] #[.pointer (some ⟨w.heap.size+1+1,0,none⟩),.pointer (some ⟨w.heap.size,0,none⟩),.pointer (some ⟨fb,0,none⟩),.pointer (some ⟨w.heap.size+1,0,none⟩),.pointer (some ⟨gb,0,none⟩)]] 124)=W8:=HW8.out.symm
 rw [HW8']
 have HGB:=Lib.hid hgb
 clear HW8' hgb
 obtain ⟨r,hr9⟩:∃r,r=growF (cmat es all) l.length l.length 0 [] 0 ([],4611686018427387904):=⟨_,rfl⟩
 rw [←hr9] at HGR
 have HRR:=Lib.hid hr9
 clear hr9
 go_upto_region 12 with (go_at_call 66;refine HGR.out.mono ?_;rintro e w9 ⟨rfl,-,hx9,ba,bc,hs9,-⟩;(have HX9:=Lib.hid hx9);(have HS9:=Lib.hid hs9);clear hx9 hs9)
 have l0:w9.cell? ⟨w.heap.size+1+1,0,none⟩=some (.int .u64 r.2):=HS9.out.l.1
 have l1:w9.frozen? ⟨w.heap.size+1+1,0,none⟩=false:=HS9.out.l.2
 have b0:w9.cell? ⟨w.heap.size+1,0,none⟩=some (.slice ba r.1.length bc):=HS9.out.b.1
 have b1:w9.frozen? ⟨w.heap.size+1,0,none⟩=false:=HS9.out.b.2
 have HB9:=Lib.hid (HB8.out.trans (HX9.out.below (B:=w.heap.size) (by have:=HZ8.out;omega) (fun k h=>by
  rcases h with h|h|h
  ·have h2:k=w.heap.size+1+1:=h
   omega
  ·have h2:k=w.heap.size+1:=h
   omega
  ·cases h)))
 have HN9:=Lib.hid (show ∀x,ba=some x→w.heap.size+3≤x.block from fun x hx=>by
  have h1:=(HS9.out.n x hx).1
  have h2:gb+1≤x.block:=h1
  have h3:=HZ4.out
  have h4:=HZ5.out
  have h5:=HGB.out
  omega)
 have HC9:=Lib.hid HS9.out.r
 clear HX9 HS9 HGR HW8 HX HQ
 by_cases hfar:4611686018427387904≤r.2
 ·have HF:=Lib.hid hfar
  obtain ⟨z0,z1⟩:=two_set (x:=.slice none 0 0) (y:=.int .u64 0) b0 l0
  go_wp2
  refine bodyPost_ret (v:=.tuple #[.slice none 0 0,.int .u64 0,.int .i64 9]) (by simp [results,Tryz.results21,go_sem,z0,z1];try rfl) rfl ?_
  exact ⟨HD.out,.inr ⟨by rw [←HRR.out];exact HF.out,rfl⟩,(HB9.out.setCell (show w.heap.size≤w.heap.size+1 by omega) _).setCell (show w.heap.size≤w.heap.size+1+1 by omega) _⟩
 ·have hlt:r.2<4611686018427387904:=by omega
  have HF:=Lib.hid hlt
  have hd9:decide (4611686018427387904≤r.2)=false:=by simpa using hfar
  clear hfar
  go_upto_region 14 with (fail)
  go_region
  obtain ⟨z0,z1⟩:=two_set (x:=.slice ba r.1.length bc) (y:=.int .u64 r.2) b0 l0
  go_wp2
  refine bodyPost_ret (v:=.tuple #[.slice ba r.1.length bc,.int .u64 r.2,.int .i64 0]) (by simp [results,Tryz.results21,go_sem,z0,z1];try rfl) rfl ?_
  refine ⟨HD.out,.inl ?_,((HB9.out.setCell (show w.heap.size≤w.heap.size+1 by omega) _).setCell (show w.heap.size≤w.heap.size+1+1 by omega) _).drew⟩
  rw [←HRR.out]
  refine ⟨HF.out,ba,bc,rfl,?_⟩
  have ho:OffX (fun k=>k=w.heap.size+1∨k=w.heap.size+1+1) w9 ((w9.setCell ⟨w.heap.size+1,0,none⟩ (.slice ba r.1.length bc)).setCell ⟨w.heap.size+1+1,0,none⟩ (.int .u64 r.2)):=
   (show OffX (fun k=>k=w.heap.size+1∨k=w.heap.size+1+1) w9 (w9.setCell ⟨w.heap.size+1,0,none⟩ (.slice ba r.1.length bc)) from .set _ (.inl rfl)).trans (.set _ (.inr rfl))
  have hc9:=cel_off (n:=0) (c:=0) HC9.out ho (fun j hj e=>by
   cases ba with
   |none=>cases hj
   |some y=>
    obtain rfl:y.block=j:=Option.some.inj hj
    have h9:=HN9.out y rfl
    rcases e with e|e<;>omega)
  exact hc9.go (Below.refl _ _).drew
end Go.Proofs.YteaaapdjplbljaaGreat
