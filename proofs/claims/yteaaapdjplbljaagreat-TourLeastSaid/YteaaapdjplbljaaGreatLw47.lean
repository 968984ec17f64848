/- Walk of tour.Order. Walk of tour.Order: too many stops; all of it. The order in which the nearest stop comes next each time, in plain Lean. Walk of tour.Near: faults. Walk of package tour: Whole. What must come at any rate, for the laws of tours; the fault of what is asked. -/
import Derived.Test.YteaaapdjplbljaaGreatProg
import Derived.Test.YteaaapdjplbljaaGreatLw46
import Derived.Test.YteaaapdjplbljaaGreatLw12
import Derived.Deep.Cut
import Derived.Test.YteaaapdjplbljaaGreatLw44
import Derived.Test.YteaaapdjplbljaaGreatLw41
import Derived.Test.YteaaapdjplbljaaGreatLw36
set_option linter.unusedVariables false
set_option linter.unusedSimpArgs false
set_option linter.unnecessarySimpa false
section
namespace Go.Proofs.YteaaapdjplbljaaGreat
open Go Go.Proofs Go.RowKit Go.Shelf Go.Proofs.YteaaapdjplbljaaGreat.Hp Go.Proofs.YteaaapdjplbljaaGreat.Ch Go.Proofs.YteaaapdjplbljaaGreat.To
theorem lit_owns (w:World) (a b:Value) (T:TypeId) (B:Nat) (hB:B≤w.heap.size):(w.alloc (Obj.cells #[a,b] T)).ownsRow B T 1 (.slice (some ⟨w.heap.size,0,none⟩) 2 2) 2 [a,b]:=by
 refine ⟨rfl,.inr ⟨w.heap.size,2,#[a,b],rfl,hB,heap_alloc_new w _,by decide,by decide,rfl,rfl⟩⟩
structure OrS (w W:World) (sv:Value):Prop where
 s:W.heap[w.heap.size]? =some (.cells #[sv] 25)
 b:W.heap[w.heap.size+1]? =some (.cells #[.slice none 0 0] 25)
 l:W.heap[w.heap.size+2]? =some (.cells #[.int .u64 0] 37)
 bl:Below w.heap.size w W
 sz:w.heap.size+3≤W.heap.size
theorem OrS.go {w W W':World} {sv:Value} (h:OrS w W sv) (hz:Below W.heap.size W W'):OrS w W' sv:=by
 have:=h.sz
 exact ⟨(hz.block _ (by omega)).trans h.s,(hz.block _ (by omega)).trans h.b,(hz.block _ (by omega)).trans h.l,h.bl.st hz,Nat.le_trans h.sz hz.size⟩
theorem OrS.of (w:World) (sv:Value):OrS w (((w.alloc (Obj.cells #[sv] 25)).alloc (Obj.cells #[.slice none 0 0] 25)).alloc (Obj.cells #[.int .u64 0] 37)) sv:=by
 have h1:(w.alloc (Obj.cells #[sv] 25)).heap.size=w.heap.size+1:=by simp
 have h2:((w.alloc (Obj.cells #[sv] 25)).alloc (Obj.cells #[.slice none 0 0] 25)).heap.size=w.heap.size+2:=by simp
 refine ⟨?_,?_,?_,((Below.of_al _ _).al _).al _,by simp⟩
 ·rw [heap_alloc_old _ _ (by omega),heap_alloc_old _ _ (by omega)]
  exact heap_alloc_new w _
 ·rw [heap_alloc_old _ _ (by omega),←h1]
  exact heap_alloc_new _ _
 ·rw [←h2]
  exact heap_alloc_new _ _
theorem one_at {W:World} {b k:Nat} {x v:Value} {T:TypeId} (h:W.heap[b]? =some (.cells #[x] T)) (hc:W.cell? ⟨b,k,none⟩=some v):k=0∧v=x:=by
 unfold World.cell? at hc
 simp only [h] at hc
 cases k with
 |zero=>exact ⟨rfl,by simpa using hc.symm⟩
 |succ k=>simp at hc
theorem one_is {W:World} {b:Nat} {x:Value} {T:TypeId} (h:W.heap[b]? =some (.cells #[x] T)):W.cell? ⟨b,0,none⟩=some x∧W.frozen? ⟨b,0,none⟩=false:=by
 constructor
 ·unfold World.cell?;simp [h]
 ·unfold World.frozen?;simp [h]
theorem two_set {W:World} {b:Nat} {x y v v':Value} (h0:W.cell? ⟨b+1,0,none⟩=some v) (h1:W.cell? ⟨b+1+1,0,none⟩=some v'):((W.setCell ⟨b+1,0,none⟩ x).setCell ⟨b+1+1,0,none⟩ y).cell? ⟨b+1,0,none⟩=some x∧((W.setCell ⟨b+1,0,none⟩ x).setCell ⟨b+1+1,0,none⟩ y).cell? ⟨b+1+1,0,none⟩=some y:=by
 constructor
 ·rw [World.cell?_setCell_far _ _ _ _ (show b+1+1≠b+1 by omega)]
  exact World.cell?_setCell_same _ _ _ h0
 ·exact World.cell?_setCell_same (u:=v') _ _ _ (by rw [World.cell?_setCell_far _ _ _ _ (show b+1≠b+1+1 by omega)];exact h1)
end Go.Proofs.YteaaapdjplbljaaGreat
end
section
namespace Go.Proofs.YteaaapdjplbljaaGreat
open Go Go.Proofs Go.RowKit Go.Shelf Go.Proofs.YteaaapdjplbljaaGreat.Hp Go.Proofs.YteaaapdjplbljaaGreat.Ch Go.Proofs.YteaaapdjplbljaaGreat.To
noncomputable def cmat (es:List EdgeD) (all:List Int) (i j:Nat):Int:=distV es (all.getD i 0) (all.getD j 0)
def TrOrdPost (es:List EdgeD) (all:List Int) (m:Nat) (w:World) (e:Ending) (w':World):Prop:=
 (∀i j,i<all.length→j<all.length→DistT es (all.getD i 0) (all.getD j 0))∧(((growF (cmat es all) m m 0 [] 0 ([],4611686018427387904)).2<4611686018427387904∧∃(a:Option Addr) (c:Nat),e=.returned (.tuple #[.slice a (growF (cmat es all) m m 0 [] 0 ([],4611686018427387904)).1.length c,.int .u64 (growF (cmat es all) m m 0 [] 0 ([],4611686018427387904)).2,.int .i64 0])∧Cel w' a (((growF (cmat es all) m m 0 [] 0 ([],4611686018427387904)).1.map Int.ofNat).map encI))∨
  (4611686018427387904≤(growF (cmat es all) m m 0 [] 0 ([],4611686018427387904)).2∧e=.returned (.tuple #[.slice none 0 0,.int .u64 0,.int .i64 9])))∧Below w.heap.size w w'
noncomputable def grK (es:List EdgeD) (all:List Int) (sz fb gb ab ao2 rc m:Nat) (sl:Value):GrK:=⟨sz+1+1,sz,fb,sz+1,gb,ab,ao2,sl,rc,m,gb+1,cmat es all⟩
theorem gr_start {w W5 W8:World} {es:List EdgeD} {all l:List Int} {ao:Option Addr} {cap rc fb ab ao2 gb:Nat} (hS:OrS w W5 (.slice ao l.length cap)) (hfb:w.heap.size+3≤fb) (hgb:gb=W5.heap.size) (hfz:W5.heap.size=fb+1) (hF:W5.cell? ⟨fb,0,none⟩=some (.slice (some ⟨ab,ao2,none⟩) all.length rc)) (hl:l.length≤7) (hal:all.length=l.length+2) (hab:ab<fb)
  (hP:∀i (hi:i<all.length),∃D:Nat,D<fb∧W5.cell? ⟨ab,ao2+i,none⟩=some (.slice (some ⟨D,0,none⟩) all.length all.length)∧∀j (hj:j<all.length),W5.cell? ⟨D,j,none⟩=some (.int .u64 (distV es all[i] all[j]))∧DistT es all[i] all[j])
  (h8:W8=(W5.setCell ⟨w.heap.size+1+1,0,none⟩ (.int .u64 4611686018427387904)).alloc (Obj.cells #[.func (.func 66) #[] (grK es all w.heap.size fb gb ab ao2 rc l.length (.slice ao l.length cap)).caps] 124)):
  (grK es all w.heap.size fb gb ab ao2 rc l.length (.slice ao l.length cap)).Con W8∧(grK es all w.heap.size fb gb ab ao2 rc l.length (.slice ao l.length cap)).St W8 none 0 ([],4611686018427387904):=by
 obtain ⟨s0,s1⟩:=one_is hS.s
 obtain ⟨b0,b1⟩:=one_is hS.b
 obtain ⟨l0,l1⟩:=one_is (b:=w.heap.size+1+1) hS.l
 obtain ⟨U,hU⟩:∃U,U=W5.setCell ⟨w.heap.size+1+1,0,none⟩ (.int .u64 4611686018427387904):=⟨_,rfl⟩
 rw [←hU] at h8
 have hz:U.heap.size=W5.heap.size:=by rw [hU];simp [World.setCell]
 have hb:Below U.heap.size U W8:=by rw [h8];exact Below.of_al _ _
 have hz8:W8.heap.size=W5.heap.size+1:=by rw [h8];simp [hz]
 have hk:∀(p:Addr) (v:Value),p.block≠w.heap.size+1+1→W5.cell? p=some v→W8.cell? p=some v:=fun p v hp hv=>cell_later hb (by
  rw [hU]
  obtain ⟨pb,po,ps⟩:=p
  rw [World.cell?_setCell_far _ _ _ _ (fun e=>hp e.symm)];exact hv)
 have hq:∀i (hi:i<l.length+2),∃D,D<fb∧D≠w.heap.size+1+1∧D≠w.heap.size+1∧W5.cell? ⟨ab,ao2+i,none⟩=some (.slice (some ⟨D,0,none⟩) (l.length+2) (l.length+2))∧∀j,j<l.length+2→W5.cell? ⟨D,j,none⟩=some (.int .u64 (cmat es all i j))∧DistT es (all.getD i 0) (all.getD j 0):=by
  intro i hi
  obtain ⟨D,d1,d2,d3⟩:=hP i (by omega)
  rw [hal] at d2
  refine ⟨D,d1,fun e=>?_,fun e=>?_,d2,fun j hj=>?_⟩
  ·have h9:=(d3 1 (by omega)).1
   rw [e] at h9
   have:=(one_at (b:=w.heap.size+1+1) hS.l h9).1
   omega
  ·have h9:=(d3 0 (by omega)).1
   rw [e] at h9
   have:=(one_at hS.b h9).2
   cases this
  ·have h9:=d3 j (by omega)
   unfold cmat
   rw [List.getD_eq_getElem?_getD,List.getD_eq_getElem?_getD,List.getElem?_eq_getElem (show i<all.length by omega),List.getElem?_eq_getElem (show j<all.length by omega)]
   exact h9
 obtain ⟨D1,q1,q2,q3,q4,q5⟩:=hq 1 (by omega)
 have n1:ab≠w.heap.size+1+1:=fun e=>by
  rw [e] at q4
  have:=(one_at (b:=w.heap.size+1+1) hS.l q4).1
  omega
 have n2:ab≠w.heap.size+1:=fun e=>by
  rw [e] at q4
  have:=(one_at hS.b q4).1
  omega
 refine ⟨⟨⟨hk _ _ (by show w.heap.size≠_;omega) s0,ao,cap,rfl⟩,?_,?_,fun i hi=>?_,⟨?_,?_,?_,?_,?_,?_⟩,⟨?_,?_,?_,?_,?_,?_,?_,n1,n2⟩,fun i j hi hj=>?_,?_,?_⟩,⟨⟨?_,?_⟩,⟨?_,?_⟩,?_,fun x hx=>nomatch hx⟩⟩
 ·have:=hk ⟨fb,0,none⟩ _ (by show fb≠_;omega) hF
  rw [hal] at this
  exact this
 ·show W8.cell? ⟨gb,0,none⟩=_
  rw [h8,hgb,←hz]
  exact (one_is (heap_alloc_new U _)).1
 ·obtain ⟨D,d1,d2,d3,d4,d5⟩:=hq i hi
  exact ⟨D,by show D<gb+1;omega,d2,d3,hk _ _ n1 d4,fun j hj=>hk _ _ d2 (d5 j hj).1⟩
 ·show w.heap.size+1+1<gb+1;omega
 ·show w.heap.size<gb+1;omega
 ·show fb<gb+1;omega
 ·show w.heap.size+1<gb+1;omega
 ·show gb<gb+1;omega
 ·show ab<gb+1;omega
 ·show w.heap.size+1+1≠w.heap.size+1;omega
 ·show w.heap.size≠w.heap.size+1+1;omega
 ·show w.heap.size≠w.heap.size+1;omega
 ·show fb≠w.heap.size+1+1;omega
 ·show fb≠w.heap.size+1;omega
 ·show gb≠w.heap.size+1+1;omega
 ·show gb≠w.heap.size+1;omega
 ·obtain ⟨D,d1,d2,d3,d4,d5⟩:=hq i hi
  have:=(d5 j hj).2
  exact ⟨this.in.1,this.2⟩
 ·show l.length≤20;omega
 ·show gb+1≤W8.heap.size;omega
 ·refine cell_later hb ?_
  rw [hU]
  exact World.cell?_setCell_same (u:=.int .u64 0) _ _ _ l0
 ·rw [hb.frozen (show w.heap.size+1+1<U.heap.size by omega),hU]
  show World.frozen? (World.setCell _ _ _) _=_
  simp
  exact l1
 ·exact hk _ _ (by show w.heap.size+1≠_;omega) b0
 ·rw [hb.frozen (show w.heap.size+1<U.heap.size by omega),hU]
  show World.frozen? (World.setCell _ _ _) _=_
  simp
  exact b1
 ·exact Cel.nil _ _
set_option maxRecDepth 100000 in
set_option maxHeartbeats 4000000 in
theorem trOrder_any (hb n:Nat) (es:List EdgeD) (R:List Int) (S:List SC) (ro:List Int) (s t:Int) (l:List Int) (ao:Option Addr) (cap:Nat) (w:World) (h:BH w hb n es R S ro) (hc:Cel w ao (l.map encI)) (hl:l.length≤7) (hno:∀v∈s::t::l,nodeN n v):
  Calls Tryz.prog 21 #[.pointer (some ⟨hb,0,none⟩),.int .i64 s,.slice ao l.length cap,.int .i64 t] w (TrOrdPost es (s::t::l) l.length w):=by
 obtain ⟨W0,hW0⟩:∃W0,W0=((w.alloc (Obj.cells #[.slice ao l.length cap] 25)).alloc (Obj.cells #[.slice none 0 0] 25)).alloc (Obj.cells #[.int .u64 0] 37):=⟨_,rfl⟩
 have hb0:Below w.heap.size w W0:=by rw [hW0];exact ((Below.of_al _ _).al _).al _
 have hz0:W0.heap.size=w.heap.size+3:=by rw [hW0];simp
 have hs0:OrS w W0 (.slice ao l.length cap):=by rw [hW0];exact OrS.of _ _
 have hb1:Below W0.heap.size W0 (W0.alloc (Obj.cells #[.int .i64 s,.int .i64 t] 3)):=Below.of_al _ _
 obtain ⟨a2,c2,w2,hr2,ho2,hb2⟩:=run_appAll (P:=Tryz.prog) (w:=W0.alloc (Obj.cells #[.int .i64 s,.int .i64 t] 3)) 25 25 W0.heap.size 3 _ 8 elem_int Tryz.underlying25 (some ⟨W0.heap.size,0,none⟩) 2 2 [.int .i64 s,.int .i64 t] (lit_owns _ _ _ _ _ (Nat.le_refl _)) ao l.length cap (l.map encI) ((hc.go hb0).go hb1) (fun u hu=>by obtain ⟨x,_,rfl⟩:=List.mem_map.1 hu;rfl) ⟨by simp,by omega,by omega,hb1.size⟩
 have hs2:=(hs0.go (hb1.trans hb2))
 have hc2:Cel w2 a2 ((s::t::l).map encI):=by
  obtain ⟨a',c',e,h⟩:=Cel.of_owns ho2
  cases e
  exact h
 rw [show 2+l.length=(s::t::l).length by simp;omega] at hr2
 have HR2:=Lib.hid hr2
 have HS2:=Lib.hid hs2
 have HR:=Lib.hid (trRight_ok hb n es R S ro (s::t::l) a2 c2 w2 (h.go hs2.bl) hc2 (by simp;omega) hno)
 have HOF:=Lib.hid (fun W (hz:Below w2.heap.size w2 W)=>of_any hb n es R S ro (s::t::l) (s::t::l) a2 a2 c2 c2 W ((h.go hs2.bl).go hz) (hc2.go hz) (hc2.go hz) (by simp;omega) (by simp;omega) hno hno)
 have y0:=(one_is (hs0.go hb1).s).1
 have HW:=Lib.hid hW0
 have hl2:(l.length:Int)≤7:=by omega
 have HL:=Lib.hid hl
 have HLN:=Lib.hid (show (s::t::l).length=l.length+2 by simp)
 clear hr2 hs2 hc hc2 ho2 hb2 hb1 hs0 hz0 hb0 hW0 h hno hl
 obtain ⟨all,hall⟩:∃all,all=s::t::l:=⟨_,rfl⟩
 rw [←hall] at HR2 HR HOF HLN ⊢
 clear hall
 go_enter Tryz.func21,Tryz.ntmps21
 go_upto_region 1 with (fail)
 rw [←HW.out]
 have hn1:(w.heap.size+1=w.heap.size+1+1)=False:=eq_false (by omega)
 have hn2:(w.heap.size+1+1=w.heap.size+1)=False:=eq_false (by omega)
 go_upto_region 8 with (first
  |(at_builtin;refine Lib.wpList_append_run _ rfl _ _ _ _ rfl _ _ rfl rfl _ _ HR2.out ?_)
  |(go_at_call 60;refine HR.out.mono ?_;rintro e w3 ⟨rfl,hb3⟩;(have HS3:=Lib.hid (HS2.out.go hb3));(have HB3:=Lib.hid hb3);(have y3:=(one_is HS3.out.s).1);clear hb3)
  |(go_at_call 65;refine (HOF.out _ HB3.out).mono ?_;intro e w4 hp;(obtain ⟨ra,rc,rfl,hp1,hb4⟩:=of_rows hp);clear hp;(have HP:=Lib.hid hp1);(have HS4:=Lib.hid (HS3.out.go hb4));clear hp1 hb4))
 obtain ⟨W5,hW5⟩:∃W5,W5=w4.alloc (Obj.cells #[.slice ra all.length rc] 121):=⟨_,rfl⟩
 rw [←hW5]
 have hb5:Below w4.heap.size w4 W5:=by rw [hW5];exact Below.of_al _ _
 have HS5:=Lib.hid (HS4.out.go hb5)
 have HF5:=Lib.hid (show W5.cell? ⟨w4.heap.size,0,none⟩=some (.slice ra all.length rc) by rw [hW5];go_simp)
 have HB5:=Lib.hid hb5
 have HZ5:=Lib.hid (show W5.heap.size=w4.heap.size+1 by rw [hW5];simp)
 have HZ4:=Lib.hid HS4.out.sz
 have HQ:=Lib.hid (show all.length=l.length+2∧∃ab ao2,ra=some ⟨ab,ao2,none⟩∧ab<w4.heap.size∧∀i (hi:i<all.length),∃D:Nat,D<w4.heap.size∧W5.cell? ⟨ab,ao2+i,none⟩=some (.slice (some ⟨D,0,none⟩) all.length all.length)∧∀j (hj:j<all.length),W5.cell? ⟨D,j,none⟩=some (.int .u64 (distV es all[i] all[j]))∧DistT es all[i] all[j] from by
  have hln:=HLN.out
  obtain ⟨b,o,D0,e,h1,-⟩:=HP.out 0 (by omega)
  refine ⟨hln,b,o,e,World.block_lt_of_cell? _ _ h1,fun i hi=>?_⟩
  obtain ⟨b',o',D,e',h2,h3⟩:=HP.out i hi
  rw [e] at e'
  cases e'
  exact ⟨D,World.block_lt_of_cell? _ _ (h3 0 (by omega)).1,cell_later hb5 h2,fun j hj=>⟨cell_later hb5 (h3 j hj).1,(h3 j hj).2⟩⟩)
 obtain ⟨x2,x3⟩:=one_is (b:=w.heap.size+1+1) HS5.out.l
 clear hW5 hb5
 generalize w4.heap.size=fb at*
 have HX:=Lib.hid (show all.length=l.length+2∧∃ab ao2,ra=some ⟨ab,ao2,none⟩∧ab<fb∧∀i (hi:i<all.length),∃D:Nat,D<fb∧W5.cell? ⟨ab,ao2+i,none⟩=some (.slice (some ⟨D,0,none⟩) all.length all.length)∧∀j (hj:j<all.length),W5.cell? ⟨D,j,none⟩=some (.int .u64 (distV es all[i] all[j]))∧DistT es all[i] all[j] from HQ.out)
 obtain ⟨hal,ab,ao2,rfl,hab,hP9⟩:=HX.out
 have HP9:=Lib.hid hP9
 have HAB:=Lib.hid hab
 clear hP9 hab
 go_upto_region 11 with (fail)
 obtain ⟨gb,hgb⟩:∃gb,gb=W5.heap.size:=⟨_,rfl⟩
 rw [←hgb]
 obtain ⟨W8,hW8⟩:∃W8,W8=(W5.setCell ⟨w.heap.size+1+1,0,none⟩ (.int .u64 4611686018427387904)).alloc (Obj.cells #[.func (.func 66) #[] (grK es all w.heap.size fb gb ab ao2 rc l.length (.slice ao l.length cap)).caps] 124):=⟨_,rfl⟩
 have hst:=gr_start HS5.out HZ4.out hgb HZ5.out HF5.out HL.out hal HAB.out HP9.out hW8
 have hb8:Below w.heap.size w W8:=by rw [hW8];exact (HS5.out.bl.setCell (show w.heap.size≤w.heap.size+1+1 by omega) _).al _
 have HD:=Lib.hid (fun i j (hi:i<all.length) (hj:j<all.length)=>(by
  obtain ⟨D,-,-,h9⟩:=HP9.out i hi
  have:=(h9 j hj).2
  rw [List.getD_eq_getElem?_getD,List.getD_eq_getElem?_getD,List.getElem?_eq_getElem hi,List.getElem?_eq_getElem hj]
  exact this:DistT es (all.getD i 0) (all.getD j 0)))
 have hgr:=grow_any (grK es all w.heap.size fb gb ab ao2 rc l.length (.slice ao l.length cap)) l.length 0 [] (.slice none 0 0) 0 ([],4611686018427387904) none 0 W8 (by simp;rfl) (by show 0<l.length+2;omega) ⟨Int.le_refl _,by simp⟩ hst.1 hst.2 (World.ownsRow_nil _ _ _ _) (fun x hx=>nomatch hx)
 have HGR:=Lib.hid (show Calls Tryz.prog 66 #[.int .i64 0,.slice none 0 0,.int .u64 0,.pointer (some ⟨w.heap.size+1+1,0,none⟩),.pointer (some ⟨w.heap.size,0,none⟩),.pointer (some ⟨fb,0,none⟩),.pointer (some ⟨w.heap.size+1,0,none⟩),.pointer (some ⟨gb,0,none⟩)] W8 (GrPost (grK es all w.heap.size fb gb ab ao2 rc l.length (.slice ao l.length cap)) (.slice none 0 0) [] (growF (cmat es all) l.length l.length 0 [] 0 ([],4611686018427387904)) none W8) from hgr)
 have hg0:W8.cell? ⟨gb,0,none⟩=some (.func (.func 66) #[] #[.pointer (some ⟨w.heap.size+1+1,0,none⟩),.pointer (some ⟨w.heap.size,0,none⟩),.pointer (some ⟨fb,0,none⟩),.pointer (some ⟨w.heap.size+1,0,none⟩),.pointer (some ⟨gb,0,none⟩)]):=hst.1.g
 have HB8:=Lib.hid hb8
 have HZ8:=Lib.hid (show w.heap.size+3≤W8.heap.size from by have h1:=hst.1.sz;have h2:=hst.1.lt.1;have h3:w.heap.size+1+1<gb+1:=h2;have h4:gb+1≤W8.heap.size:=h1;have:=HZ4.out;have:=HZ5.out;omega)
 have HW8:=Lib.hid hW8
 clear hst hgr hb8 hW8 x2 x3
 have HW8':(W5.setCell ⟨w.heap.size+1+1,0,none⟩ (.int .u64 4611686018427387904)).alloc (Obj.cells #[.func (.func 66) #[] #[.pointer (some ⟨w.heap.size+1+1,0,none⟩),.pointer (some ⟨w.heap.size,0,none⟩),.pointer (some ⟨fb,0,none⟩),.pointer (some ⟨w.heap.size+1,0,none⟩),.pointer (some ⟨gb,0,none⟩)]] 124)=W8:=HW8.out.symm
 rw [HW8']
 have HGB:=Lib.hid hgb
 clear HW8' hgb
 obtain ⟨r,hr9⟩:∃r,r=growF (cmat es all) l.length l.length 0 [] 0 ([],4611686018427387904):=⟨_,rfl⟩
 rw [←hr9] at HGR
 have HRR:=Lib.hid hr9
 clear hr9
 go_upto_region 12 with (go_at_call 66;refine HGR.out.mono ?_;rintro e w9 ⟨rfl,-,hx9,ba,bc,hs9,-⟩;(have HX9:=Lib.hid hx9);(have HS9:=Lib.hid hs9);clear hx9 hs9)
 have l0:w9.cell? ⟨w.heap.size+1+1,0,none⟩=some (.int .u64 r.2):=HS9.out.l.1
 have l1:w9.frozen? ⟨w.heap.size+1+1,0,none⟩=false:=HS9.out.l.2
 have b0:w9.cell? ⟨w.heap.size+1,0,none⟩=some (.slice ba r.1.length bc):=HS9.out.b.1
 have b1:w9.frozen? ⟨w.heap.size+1,0,none⟩=false:=HS9.out.b.2
 have HB9:=Lib.hid (HB8.out.trans (HX9.out.below (B:=w.heap.size) (by have:=HZ8.out;omega) (fun k h=>by
  rcases h with h|h|h
  ·have h2:k=w.heap.size+1+1:=h
   omega
  ·have h2:k=w.heap.size+1:=h
   omega
  ·cases h)))
 have HN9:=Lib.hid (show ∀x,ba=some x→w.heap.size+3≤x.block from fun x hx=>by
  have h1:=(HS9.out.n x hx).1
  have h2:gb+1≤x.block:=h1
  have h3:=HZ4.out
  have h4:=HZ5.out
  have h5:=HGB.out
  omega)
 have HC9:=Lib.hid HS9.out.r
 clear HX9 HS9 HGR HW8 HX HQ
 by_cases hfar:4611686018427387904≤r.2
 ·have HF:=Lib.hid hfar
  obtain ⟨z0,z1⟩:=two_set (x:=.slice none 0 0) (y:=.int .u64 0) b0 l0
  go_wp2
  refine bodyPost_ret (v:=.tuple #[.slice none 0 0,.int .u64 0,.int .i64 9]) (by simp [results,Tryz.results21,go_sem,z0,z1];try rfl) rfl ?_
  exact ⟨HD.out,.inr ⟨by rw [←HRR.out];exact HF.out,rfl⟩,(HB9.out.setCell (show w.heap.size≤w.heap.size+1 by omega) _).setCell (show w.heap.size≤w.heap.size+1+1 by omega) _⟩
 ·have hlt:r.2<4611686018427387904:=by omega
  have HF:=Lib.hid hlt
  have hd9:decide (4611686018427387904≤r.2)=false:=by simpa using hfar
  clear hfar
  go_upto_region 14 with (fail)
  go_region
  obtain ⟨z0,z1⟩:=two_set (x:=.slice ba r.1.length bc) (y:=.int .u64 r.2) b0 l0
  go_wp2
  refine bodyPost_ret (v:=.tuple #[.slice ba r.1.length bc,.int .u64 r.2,.int .i64 0]) (by simp [results,Tryz.results21,go_sem,z0,z1];try rfl) rfl ?_
  refine ⟨HD.out,.inl ?_,((HB9.out.setCell (show w.heap.size≤w.heap.size+1 by omega) _).setCell (show w.heap.size≤w.heap.size+1+1 by omega) _).drew⟩
  rw [←HRR.out]
  refine ⟨HF.out,ba,bc,rfl,?_⟩
  have ho:OffX (fun k=>k=w.heap.size+1∨k=w.heap.size+1+1) w9 ((w9.setCell ⟨w.heap.size+1,0,none⟩ (.slice ba r.1.length bc)).setCell ⟨w.heap.size+1+1,0,none⟩ (.int .u64 r.2)):=
   (show OffX (fun k=>k=w.heap.size+1∨k=w.heap.size+1+1) w9 (w9.setCell ⟨w.heap.size+1,0,none⟩ (.slice ba r.1.length bc)) from .set _ (.inl rfl)).trans (.set _ (.inr rfl))
  have hc9:=cel_off (n:=0) (c:=0) HC9.out ho (fun j hj e=>by
   cases ba with
   |none=>cases hj
   |some y=>
    obtain rfl:y.block=j:=Option.some.inj hj
    have h9:=HN9.out y rfl
    rcases e with e|e<;>omega)
  exact hc9.go (Below.refl _ _).drew
end Go.Proofs.YteaaapdjplbljaaGreat
end
section
namespace Go.Proofs.YteaaapdjplbljaaGreat.To
open Go.Proofs.YteaaapdjplbljaaGreat
end Go.Proofs.YteaaapdjplbljaaGreat.To
end
section
namespace Go.Proofs.YteaaapdjplbljaaGreat
open Go Go.Proofs Go.RowKit Go.Shelf Go.Proofs.YteaaapdjplbljaaGreat.Hp Go.Proofs.YteaaapdjplbljaaGreat.Ch Go.Proofs.YteaaapdjplbljaaGreat.To
theorem lit_own1 (w:World) (a:Value) (T:TypeId) (B:Nat) (hB:B≤w.heap.size):(w.alloc (Obj.cells #[a] T)).ownsRow B T 1 (.slice (some ⟨w.heap.size,0,none⟩) 1 1) 1 [a]:=
 ⟨rfl,.inr ⟨w.heap.size,1,#[a],rfl,hB,heap_alloc_new w _,by decide,by decide,rfl,rfl⟩⟩
set_option maxRecDepth 100000 in
set_option maxHeartbeats 2000000 in
theorem trNear_bad (hv:Value) (k:Int) (hk:k≠0) (s:Int) (l:List Int) (ao:Option Addr) (cap:Nat) (w:World) (hc:Cel w ao (l.map encI)) (hl:l.length≤50)
  (hr:∀a c W,Below w.heap.size w W→Cel W a ((s::l).map encI)→Calls Tryz.prog 60 #[hv,.slice a (s::l).length c] W fun e w'=>e=.returned (.int .i64 k)∧Below W.heap.size W w'):
  Calls Tryz.prog 22 #[hv,.int .i64 s,.slice ao l.length cap] w fun e w'=>e=.returned (.tuple #[.slice none 0 0,.int .u64 0,.int .i64 k])∧Below w.heap.size w w':=by
 have hb1:Below w.heap.size w (w.alloc (Obj.cells #[.int .i64 s] 3)):=Below.of_al _ _
 obtain ⟨a2,c2,w2,hr2,ho2,hb2⟩:=run_appAll (P:=Tryz.prog) (w:=w.alloc (Obj.cells #[.int .i64 s] 3)) 25 25 w.heap.size 3 _ 8 elem_int Tryz.underlying25 (some ⟨w.heap.size,0,none⟩) 1 1 [.int .i64 s] (lit_own1 _ _ _ _ (Nat.le_refl _)) ao l.length cap (l.map encI) (hc.go hb1) (fun u hu=>by obtain ⟨x,_,rfl⟩:=List.mem_map.1 hu;rfl) ⟨by simp,by omega,by omega,hb1.size⟩
 have hc2:Cel w2 a2 ((s::l).map encI):=by
  obtain ⟨a',c',e,h⟩:=Cel.of_owns ho2
  cases e
  exact h
 rw [show 1+l.length=(s::l).length by simp;omega] at hr2
 have HR2:=Lib.hid hr2
 have HB2:=Lib.hid (hb1.trans hb2)
 have HR:=Lib.hid (hr a2 c2 w2 (hb1.trans hb2) hc2)
 have hk1:(k != 0)=true:=by simpa using hk
 clear hr2 hr hc hc2 ho2 hb2 hb1 hk
 generalize (s::l).length=n at*
 go_enter Tryz.func22,Tryz.ntmps22
 go_wp2_with (first
  |(at_builtin;refine Lib.wpList_append_run _ rfl _ _ _ _ rfl _ _ rfl rfl _ _ HR2.out ?_)
  |(go_at_call 60;refine HR.out.mono ?_;rintro e w3 ⟨rfl,hb3⟩;(have HB3:=Lib.hid (HB2.out.st hb3));clear hb3))
 refine bodyPost_ret (v:=.tuple #[.slice none 0 0,.int .u64 0,.int .i64 k]) (by simp [results,Tryz.results22,go_sem];try rfl) rfl ?_
 exact ⟨rfl,HB3.out⟩
end Go.Proofs.YteaaapdjplbljaaGreat
end
section
namespace Go.Proofs.YteaaapdjplbljaaGreat
open Go Go.Proofs Go.RowKit Go.Shelf Go.Proofs.YteaaapdjplbljaaGreat.Hp Go.Proofs.YteaaapdjplbljaaGreat.Ch Go.Proofs.YteaaapdjplbljaaGreat.Ro
def WhPost (P:List RtD→Int→Int→Prop) (w:World) (e:Ending) (w':World):Prop:=
 ∃(a:Option Addr) (c:Nat) (out:List RtD) (x f:Int),e=.returned (.tuple #[.agg #[.slice a (wholeE out).length c,.int .u64 (wholeW out)],.int .i64 x,.int .i64 f])∧Cel w' a ((wholeE out).map encI)∧Below w.heap.size w w'∧P out x f
structure WhS (W0:World) (Z:Nat) (E:List Int) (x:Int) (wr:World):Prop where
 c:∃(ra:Option Addr) (rc:Nat),wr.cell? ⟨Z,0,none⟩=some (.slice ra E.length rc)∧Cel wr ra (E.map encI)∧∀y,ra=some y→Z<y.block
 x:wr.cell? ⟨Z,1,none⟩=some (.int .u64 x)
 f:wr.frozen? ⟨Z,0,none⟩=false∧wr.frozen? ⟨Z,1,none⟩=false
 below:Below Z W0 wr
theorem take_wE {out:List RtD} {k:Nat} (h:k<out.length):wholeE (out.take (k+1))=wholeE (out.take k)++out[k].es:=by
 rw [List.take_succ_eq_append_getElem h,wholeE_snoc]
theorem take_wW {out:List RtD} {k:Nat} (h:k<out.length):wholeW (out.take (k+1))=wholeW (out.take k)+out[k].w:=by
 rw [List.take_succ_eq_append_getElem h,wholeW_snoc]
set_option maxRecDepth 100000 in
set_option maxHeartbeats 4000000 in
theorem whole_of (P:List RtD→Int→Int→Prop) (hv:Value) (l:List Int) (ao:Option Addr) (cap:Nat) (w:World) (hP:∀out x f,P out x f→out.length≤15∧∀r∈out,r.es.length≤12∧0≤r.w∧r.w≤1152921504606846976)
  (hL:∀W,Below w.heap.size w W→Calls Tryz.prog 14 #[hv,.slice ao l.length cap] W fun e w'=>∃(v:Value) (out:List RtD) (x f:Int),e=.returned (.tuple #[v,.int .i64 x,.int .i64 f])∧RtsV W.heap.size out v w'∧Below W.heap.size W w'∧P out x f):
  Calls Tryz.prog 15 #[hv,.slice ao l.length cap] w (WhPost P w):=by
 obtain ⟨W,hW⟩:∃W,W=w.alloc (Obj.cells #[.slice none 0 0,.int .u64 0] 39):=⟨_,rfl⟩
 have hbw:Below w.heap.size w W:=by rw [hW];exact Below.of_al _ _
 have c0:W.cell? ⟨w.heap.size,0,none⟩=some (.slice none 0 0):=by rw [hW];go_simp
 have c1:W.cell? ⟨w.heap.size,1,none⟩=some (.int .u64 0):=by rw [hW];go_simp
 have z0:W.frozen? ⟨w.heap.size,0,none⟩=false:=by rw [hW];go_simp
 have z1:W.frozen? ⟨w.heap.size,1,none⟩=false:=by rw [hW];go_simp
 have HSZ:=Lib.hid (show W.heap.size=w.heap.size+1 by rw [hW];simp)
 have HLE:=Lib.hid (hL W hbw)
 have HP:=Lib.hid hP
 have HB:=Lib.hid hbw
 have HW:=Lib.hid hW
 have HS0:=Lib.hid (show WhS w w.heap.size [] 0 W from ⟨⟨none,0,c0,Cel.nil _ _,(fun y h=>nomatch h)⟩,c1,⟨z0,z1⟩,hbw⟩)
 clear hW hbw hP hL c0 c1 z0 z1
 go_enter Tryz.func15,Tryz.ntmps15
 go_upto_region 1 with (fail)
 rw [←HW.out]
 go_upto_region 2 with (go_at_call 14;refine HLE.out.mono ?_;rintro e w1 ⟨v,out,x,f,rfl,h1,h2,h3⟩;(have HRV:=Lib.hid h1);(have HB1:=Lib.hid h2);(have HPO:=Lib.hid h3);clear h1 h2 h3)
 obtain ⟨va,vc,ts,rfl,hts,hfl,hli,hva,hta⟩:=HRV.out
 obtain ⟨hb1,hb2⟩:=HP.out _ _ _ HPO.out
 have hsl:ts.length=out.length:=by rw [←hts,List.length_map]
 have HTS:=Lib.hid hts
 have HFL:=Lib.hid hfl
 have HLI:=Lib.hid hli
 have HVA:=Lib.hid hva
 have HTA:=Lib.hid hta
 have HBN:=Lib.hid hb2
 have hs15:(ts.length:Int)≤15:=by omega
 have HS1:=Lib.hid (show WhS w w.heap.size [] 0 w1 from by
  obtain ⟨⟨ra,rc,d0,d1,d2⟩,d3,d4,d5⟩:=HS0.out
  have hlt:=World.block_lt_of_cell? _ _ d3
  exact ⟨⟨ra,rc,cell_later HB1.out d0,d1.go HB1.out,d2⟩,cell_later HB1.out d3,⟨(HB1.out.frozen (p:=⟨w.heap.size,0,none⟩) hlt).trans d4.1,(HB1.out.frozen (p:=⟨w.heap.size,1,none⟩) hlt).trans d4.2⟩,d5.st HB1.out⟩)
 have HSL:=Lib.hid hsl
 clear HRV hts hfl hli hva hta hb2 HLE HP hsl hb1
 go_wp2
 go_loopg [19] ts.length (fun gg v19 wr=>∃k:Nat,k≤ts.length∧ts.length-k≤gg∧v19=.int .i64 k∧Aside (WhS w w.heap.size (wholeE (out.take k)) (wholeW (out.take k)) wr)∧Aside (OffX (· =w.heap.size) w1 wr))
 case atStart=>exact ⟨0,Nat.zero_le _,by omega,rfl,HS1.out,.refl _ _⟩
 case round=>
  obtain ⟨k,hk,hgg,rfl,hS,hO⟩:=hrel
  have HS:=Lib.hid hS.out
  have HO:=Lib.hid hO.out
  clear hS hO
  obtain ⟨⟨ra,rc,c0,hce,hnr⟩,c1,⟨z0,z1⟩,hbl⟩:=HS.out
  by_cases hlt:k<ts.length
  ·have hlt2:(k:Int)<(ts.length:Int):=by omega
   have hko:k<out.length:=by have:=HSL.out;omega
   obtain ⟨vb,vo,e,y0,y1⟩:=HFL.out.rt hlt
   subst e
   have hne:vb≠w.heap.size:=fun e=>by have h:W.heap.size≤vb:=HVA.out _ rfl;have:=HSZ.out;omega
   have y0:=HO.out.cell (p:=⟨vb,vo+k*2,none⟩) y0 hne
   have y1:=HO.out.cell (p:=⟨vb,vo+k*2+1,none⟩) y1 hne
   have HTK:=Lib.hid (show ts[k].r=out[k] by have:=HTS.out;subst this;simp)
   have HLK:=Lib.hid (HLI.out _ (List.getElem_mem hlt))
   have HTN:=Lib.hid (HTA.out _ (List.getElem_mem hlt))
   have hbk:=HBN.out _ (List.getElem_mem hko)
   have HBK:=Lib.hid hbk
   have HE:=Lib.hid (take_wE hko)
   have HWW:=Lib.hid (take_wW hko)
   have hwb:=whole_bnd (n:=12) (out:=out.take k) (fun r hr=>HBN.out r (List.mem_of_mem_take hr))
   rw [List.length_take] at hwb
   have HWB:=Lib.hid (show (wholeE (out.take k)).length≤180∧0≤wholeW (out.take k)∧wholeW (out.take k)≤16140901064495857664 by
    obtain ⟨h1,h2,h3⟩:=hwb
    have:12*min k out.length≤12*15:=Nat.mul_le_mul_left _ (by omega)
    have h4:((min k out.length:Nat):Int)≤14:=by have:=HSL.out;omega
    exact ⟨by omega,h2,by omega⟩)
   rw [HTK.out] at y0 y1 HLK
   generalize ts[k]=t at*
   generalize out[k]=r at*
   obtain ⟨ta,tc,tr⟩:=t
   simp only at y0 y1 HTK HLK HTN
   obtain rfl:=HTK.out
   obtain ⟨re,rw'⟩:=tr
   simp only at y0 y1 HLK HE HWW HBK
   generalize wholeE (out.take k)=E at*
   obtain ⟨E',hE'⟩:∃E',E'=wholeE (out.take (k+1)):=⟨_,rfl⟩
   rw [←hE'] at HE
   have HE':=Lib.hid hE'
   generalize wholeW (out.take k)=X at*
   obtain ⟨X',hX'⟩:∃X',X'=wholeW (out.take (k+1)):=⟨_,rfl⟩
   rw [←hX'] at HWW
   have HX':=Lib.hid hX'
   clear hE' hX'
   clear hbk hwb
   go_upto_region 5 with (fail)
   obtain ⟨W4,hW4⟩:∃W4,W4=wr.alloc (Obj.cells #[.slice ta re.length tc,.int .u64 rw'] 39):=⟨_,rfl⟩
   rw [←hW4]
   have hb4:Below wr.heap.size wr W4:=by rw [hW4];exact Below.of_al _ _
   have u0:W4.cell? ⟨wr.heap.size,0,none⟩=some (.slice ta re.length tc):=by rw [hW4];go_simp
   have u1:W4.cell? ⟨wr.heap.size,1,none⟩=some (.int .u64 rw'):=by rw [hW4];go_simp
   have d0:=cell_later hb4 c0
   have d1:=cell_later hb4 c1
   have hzlt:=World.block_lt_of_cell? _ _ c1
   have f0:=(hb4.frozen (p:=⟨w.heap.size,0,none⟩) hzlt).trans z0
   have f1:=(hb4.frozen (p:=⟨w.heap.size,1,none⟩) hzlt).trans z1
   have HJ:=Lib.hid (Join_any ra ta rc tc E re X rw' W4 (by have:=HWB.out.1;omega) (by have:=HBK.out.1;omega) (hce.go hb4) ((cel_off (n:=0) (c:=0) HLK.out.1 HO.out (fun j hj e=>by
    cases ta with
    |none=>cases hj
    |some y=>obtain rfl:y.block=j:=Option.some.inj hj;have:=HTN.out y rfl;have:=HSZ.out;omega)).go hb4))
   have HO4:=Lib.hid (HO.out.trans (.of_below hb4))
   have HB4:=Lib.hid (hbl.trans (hb4.mono (by have:=hbl.size;have:=hzlt;omega)))
   have HZL:=Lib.hid hzlt
   have HSZ4:=Lib.hid hb4.size
   have hwx:IntKind.u64.wrap (X+rw')=X':=by
    rw [HWW.out,IntKind.wrap_u64]
    have:=HWB.out
    have:=HBK.out
    omega
   have HXX:=Lib.hid hwx
   clear hW4 hb4 c0 c1 z0 z1 hce hnr hbl y0 y1 hzlt hwx
   go_wp2_with (go_at_call 62;refine HJ.out.mono ?_;rintro e w5 ⟨a5,c5,rfl,h1,h2,h3⟩;(have HC5:=Lib.hid h1);(have HB5:=Lib.hid h2);(have HN5:=Lib.hid h3);(have x0:=cell_later h2 d0);(have x1:=cell_later h2 d1);(have g0:=(h2.frozen (p:=⟨w.heap.size,0,none⟩) (World.block_lt_of_cell? _ _ d0)).trans f0);(have g1:=(h2.frozen (p:=⟨w.heap.size,1,none⟩) (World.block_lt_of_cell? _ _ d1)).trans f1);clear h1 h2 h3)
   obtain ⟨m0,m1⟩:=h2_read (.slice a5 (E.length+re.length) c5) (.int .u64 (IntKind.u64.wrap (X+rw'))) x0 x1
   obtain ⟨W6,hW6⟩:∃W6,W6=(w5.setCell ⟨w.heap.size,0,none⟩ (.slice a5 (E.length+re.length) c5)).setCell ⟨w.heap.size,1,none⟩ (.int .u64 (IntKind.u64.wrap (X+rw'))):=⟨_,rfl⟩
   have hof:OffX (· =w.heap.size) w5 W6:=by rw [hW6];exact (show OffX (· =w.heap.size) w5 (w5.setCell ⟨w.heap.size,0,none⟩ (.slice a5 (E.length+re.length) c5)) from .set _ rfl).trans (.set _ rfl)
   rw [←hW6] at m0 m1
   rw [HXX.out] at m1
   rw [show E.length+re.length=E'.length by rw [HE.out,List.length_append]] at m0
   go_roundg (ts.length-(k+1))
   case measure=>omega
   case rel=>
    rw [←hW6]
    have hcel:Cel W6 a5 (E'.map encI):=by
     rw [HE.out]
     exact cel_off (n:=0) (c:=0) HC5.out hof (fun j hj e=>by
      cases a5 with
      |none=>cases hj
      |some y=>obtain rfl:y.block=j:=Option.some.inj hj;have:=HN5.out y rfl;have:=HSZ4.out;have:=HZL.out;omega)
    have hfr:W6.frozen? ⟨w.heap.size,0,none⟩=false∧W6.frozen? ⟨w.heap.size,1,none⟩=false:=by
     rw [hW6]
     constructor<;>simp [g0,g1]
    have hbl6:Below w.heap.size w W6:=by
     rw [hW6]
     exact ((HB4.out.trans (HB5.out.mono (by have:=HSZ4.out;have:=HZL.out;omega))).setCell (Nat.le_refl _) _).setCell (Nat.le_refl _) _
    exact ⟨k+1,by omega,Nat.le_refl _,by go_num,by rw [←HE'.out,←HX'.out];exact ⟨⟨a5,c5,m0,hcel,fun y hy=>by have:=HN5.out y hy;have:=HSZ4.out;have:=HZL.out;omega⟩,m1,hfr,hbl6⟩,HO4.out.trans ((OffX.of_below HB5.out).trans hof)⟩
  ·obtain rfl:k=ts.length:=by omega
   have HTE:=Lib.hid (show out.take ts.length=out by rw [HSL.out];exact List.take_length)
   rw [HTE.out] at c0 hce c1
   have HCE:=Lib.hid hce
   have HBL:=Lib.hid hbl
   have HNR:=Lib.hid hnr
   clear hce hbl hnr
   obtain ⟨E,hE⟩:∃E,E=wholeE out:=⟨_,rfl⟩
   obtain ⟨X,hX⟩:∃X,X=wholeW out:=⟨_,rfl⟩
   rw [←hE] at c0 HCE
   rw [←hX] at c1
   have HEE:=Lib.hid (show wholeE out=E∧wholeW out=X from ⟨hE.symm,hX.symm⟩)
   clear hE hX
   go_wp2
   obtain ⟨r0,r1⟩:=h2_read (.slice ra E.length rc) (.int .u64 X) c0 c1
   refine bodyPost_ret (v:=.tuple #[.agg #[.slice ra E.length rc,.int .u64 X],.int .i64 x,.int .i64 f]) (by simp [results,Tryz.results15,go_sem,r0,r1];try rfl) rfl ?_
   have ho:OffX (· =w.heap.size) wr ((wr.setCell ⟨w.heap.size,0,none⟩ (.slice ra E.length rc)).setCell ⟨w.heap.size,1,none⟩ (.int .u64 X)):=
    (show OffX (· =w.heap.size) wr (wr.setCell ⟨w.heap.size,0,none⟩ (.slice ra E.length rc)) from .set _ rfl).trans (.set _ rfl)
   exact ⟨ra,rc,out,x,f,by rw [HEE.out.1,HEE.out.2],by rw [HEE.out.1];exact cel_off (n:=0) (c:=0) HCE.out ho (fun j hj e=>by
    cases ra with
    |none=>cases hj
    |some y=>obtain rfl:y.block=j:=Option.some.inj hj;have:=HNR.out y rfl;omega),(HBL.out.setCell (Nat.le_refl _) _).setCell (Nat.le_refl _) _,HPO.out⟩
theorem legIs_bnd {n:Nat} {es:List EdgeD} (hA:∀u v w,arcG es u v w→nodeN n u∧nodeN n v∧1≤w) (hn:n≤12) {l:List Int} (hl:l.length≤15) {out:List RtD} {x f:Int} (h:LegIs n es l out x f):out.length≤15∧∀r∈out,r.es.length≤12∧0≤r.w∧r.w≤1152921504606846976:=by
 rcases h with ⟨_,_,h⟩|⟨_,rfl,_⟩
 ·refine ⟨by have:=h.1;omega,fun r hr=>?_⟩
  obtain ⟨h1,h2,h3⟩:=h.mem hA r hr
  exact ⟨by omega,h2,h3⟩
 ·exact ⟨Nat.zero_le _,fun r hr=>nomatch hr⟩
theorem whole_any (hb n:Nat) (es:List EdgeD) (R:List Int) (S:List SC) (ro:List Int) (l:List Int) (ao:Option Addr) (cap:Nat) (w:World) (h:BH w hb n es R S ro) (hc:Cel w ao (l.map encI)) (hl:l.length≤15) (hno:∀v∈l,nodeN n v)
  (hg:rightG ⟨(n:Int),es⟩=0) (hel:es.length≤40) (hA:∀u v w,arcG es u v w→nodeN n u∧nodeN n v∧1≤w∧w≤4294967296):
  Calls Tryz.prog 15 #[.pointer (some ⟨hb,0,none⟩),.slice ao l.length cap] w (WhPost (LegIs n es l) w):=
 whole_of (LegIs n es l) (.pointer (some ⟨hb,0,none⟩)) l ao cap w (fun out x f k=>legIs_bnd (fun u v w h=>⟨(hA u v w h).1,(hA u v w h).2.1,(hA u v w h).2.2.1⟩) h.le hl k)
  (fun W hz=>legs_any hb n es R S ro l ao cap W (h.go hz) (hc.go hz) (by omega) hno hg hel hA)
theorem whole_bad (hv:Value) (k:Int) (hk:k≠0) (l:List Int) (ao:Option Addr) (cap:Nat) (w:World)
  (hr:∀W,Below w.heap.size w W→Calls Tryz.prog 60 #[hv,.slice ao l.length cap] W fun e w'=>e=.returned (.int .i64 k)∧Below W.heap.size W w'):
  Calls Tryz.prog 15 #[hv,.slice ao l.length cap] w (WhPost (fun out x f=>out=[]∧x=0∧f=k) w):=
 whole_of _ hv l ao cap w (fun out x f ⟨h,_⟩=>by subst h;exact ⟨Nat.zero_le _,fun r hr=>nomatch hr⟩)
  (fun W hz=>(legs_bad hv k hk l ao cap W (hr W hz)).mono (fun e w' ⟨h1,h2⟩=>⟨_,[],0,k,h1,⟨none,0,[],rfl,rfl,Cel.nil _ _,(fun t h=>nomatch h),(fun x h=>nomatch h),(fun t h=>nomatch h)⟩,h2,rfl,rfl,rfl⟩))
end Go.Proofs.YteaaapdjplbljaaGreat
end
section
namespace Go.Proofs.YteaaapdjplbljaaGreat
open Go Go.Proofs Go.RowKit Go.Shelf Go.Proofs.YteaaapdjplbljaaGreat.Hp Go.Proofs.YteaaapdjplbljaaGreat.Ch Go.Proofs.YteaaapdjplbljaaGreat.To Go.Proofs.YteaaapdjplbljaaGreat.Ro
theorem why34_bad (gv1 gv2 lv:Value) (k:Int) (w:World) (hk:k≠0):Calls Tryz.prog 16 #[.agg #[gv1,gv2],.int .i64 k,lv] w fun e w'=>e=.returned (.int .i64 1)∧Below w.heap.size w w':=by
 have hne:(k != 0)=true:=by simpa using hk
 clear hk
 go_enter Tryz.func16,Tryz.ntmps16
 go_wp2
 go_ret
 exact ⟨rfl,Below.of_al _ _⟩
set_option maxHeartbeats 1000000 in
theorem why34_ok (n:Nat) (ao:Option Addr) (m cap:Nat) (lo:Option Addr) (lc:Nat) (l:List Int) (w:World) (hc:Cel w lo (l.map encI)) (hl:l.length≤1000000):
  Calls Tryz.prog 16 #[.agg #[.int .i64 (n:Int),.slice ao m cap],.int .i64 0,.slice lo l.length lc] w fun e w'=>e=.returned (.int .i64 (if l.any (outB n) then 7 else 0))∧Below w.heap.size w w':=by
 obtain ⟨W,hW⟩:∃W,W=w.alloc (Obj.cells #[.int .i64 (n:Int),.slice ao m cap] 24):=⟨_,rfl⟩
 have hbw:Below w.heap.size w W:=by rw [hW];exact Below.of_al _ _
 have c0:W.cell? ⟨w.heap.size,0,none⟩=some (.int .i64 (n:Int)):=by rw [hW];go_simp
 have c1:W.cell? ⟨w.heap.size,1,none⟩=some (.slice ao m cap):=by rw [hW];go_simp
 have HN:=Lib.hid (refNodes_any n (.slice ao m cap) lo lc l W (hc.go hbw) hl)
 have HW:=Lib.hid hW
 have HB:=Lib.hid hbw
 clear hW hbw hc
 generalize l.any (outB n)=r at*
 go_enter Tryz.func16,Tryz.ntmps16
 go_upto_region 1 with (fail)
 rw [←HW.out]
 cases r with
 |true=>
  go_wp2_with (go_at_call 27;refine HN.out.mono ?_;rintro e w1 ⟨rfl,hb1⟩;(have HB1:=Lib.hid hb1);clear hb1)
  go_ret
  exact ⟨rfl,HB.out.st HB1.out⟩
 |false=>
  go_wp2_with (go_at_call 27;refine HN.out.mono ?_;rintro e w1 ⟨rfl,hb1⟩;(have HB1:=Lib.hid hb1);clear hb1)
  go_ret
  exact ⟨rfl,HB.out.st HB1.out⟩
theorem cel_lit2i (W:World) (T:TypeId):Cel (W.alloc (Obj.cells #[.int .i64 0,.int .i64 1] T)) (some ⟨W.heap.size,0,none⟩) (([0,1]:List Int).map encI):=by
 intro j u hj
 exact ⟨_,_,rfl,(World.cell?_alloc_mark W #[.int .i64 0,.int .i64 1] T (0,0) (0+j)).trans (by simpa [encI] using hj)⟩
theorem ex_nodes:∀v∈([0,1]:List Int),nodeN 2 v:=by
 intro v hv
 have h:v=0∨v=1:=by simpa using hv
 rcases h with rfl|rfl
 ·exact ⟨by decide,by decide⟩
 ·exact ⟨by decide,by decide⟩
theorem ex_arcs:∀u v w,arcG exE u v w→nodeN 2 u∧nodeN 2 v∧1≤w∧w≤4294967296:=by
 rintro u v w ⟨x,hx,rfl,rfl,rfl⟩
 obtain rfl:x=⟨0,1,3⟩:=by simpa [exE] using hx
 exact ⟨⟨by decide,by decide⟩,⟨by decide,by decide⟩,by decide,by decide⟩
theorem ex_distV (h:DistT exE 0 1):distV exE 0 1=3:=by
 rcases h.1 with ⟨h2,h4⟩|⟨-,h3⟩
 ·exact (ex_dist (.inl ⟨rfl,⟨by decide,by decide⟩,⟨by decide,by decide⟩,h2,by rcases h.2 with h5|h5<;>omega⟩)).1
 ·have:=(ex_dist (.inr (.inl ⟨rfl,rfl,⟨by decide,by decide⟩,⟨by decide,by decide⟩,h3⟩))).2
  cases this
theorem ex_order {w w':World} {e:Ending} (h:TrOrdPost exE [0,1] 0 w e w'):(∃(a:Option Addr) (c:Nat),e=.returned (.tuple #[.slice a 0 c,.int .u64 3,.int .i64 0]))∧Below w.heap.size w w':=by
 obtain ⟨h1,h2,h3⟩:=h
 have hc:cmat exE [0,1] 0 1=3:=ex_distV (h1 0 1 (by decide) (by decide))
 have hr:growF (cmat exE [0,1]) 0 0 0 [] 0 ([],4611686018427387904)=([],3):=by
  rw [grow_zero (by decide),hc]
  rfl
 rw [hr] at h2
 rcases h2 with ⟨-,a,c,rfl,-⟩|⟨h2,-⟩
 ·exact ⟨⟨a,c,rfl⟩,h3⟩
 ·exact absurd h2 (by decide)
theorem ex_whole {w w':World} {e:Ending} (h:WhPost (LegIs 2 exE [0,1]) w e w'):∃(a:Option Addr) (m c:Nat),e=.returned (.tuple #[.agg #[.slice a m c,.int .u64 3],.int .i64 0,.int .i64 0])∧Below w.heap.size w w':=by
 obtain ⟨a,c,out,x,f,rfl,-,hb,h⟩:=h
 rcases h with ⟨rfl,rfl,hl,hr⟩|⟨hf,_,i,_,hi,_,l,y,hr⟩
 ·match out,hl,hr with
  |[r],hl,hr=>
   have h9:=ex_dist (routeIs_dist (hr 0 (by decide)))
   have:wholeW [r]=3:=by
    have h8:r.w=3:=h9.1
    simp [wholeW,h8]
   rw [this]
   exact ⟨a,_,c,rfl,hb⟩
 ·obtain rfl:i=0:=by
   have:i+1<2:=hi
   omega
  exact absurd (ex_dist (routeIs_dist hr)).2 hf
set_option maxRecDepth 100000 in
set_option maxHeartbeats 2000000 in
theorem alive34_any (w:World):Calls Tryz.prog 12 #[] w fun e w'=>e=.returned (.bool true)∧Below w.heap.size w w':=by
 have HBU:=Lib.hid (fun W ao (hc:Cel W ao (flat exE))=>built_any ⟨2,exE⟩ ao none 1 0 1 1 [] W hc (Cel.nil _ _) (fun _=>by decide) (by decide) (by decide))
 have HOR:=Lib.hid (fun W hb R S ro (h:BH W hb 2 exE R S ro)=>trOrder_any hb 2 exE R S ro 0 1 [] none 0 W h (Cel.nil _ _) (by decide) ex_nodes)
 have HWH:=Lib.hid (fun W hb R S ro a (h:BH W hb 2 exE R S ro) (hc:Cel W a (([0,1]:List Int).map encI))=>whole_any hb 2 exE R S ro [0,1] a 2 W h hc (by decide) ex_nodes (by decide) (by decide) ex_arcs)
 go_enter Tryz.func12,Tryz.ntmps12
 go_upto_region 2 with (go_at_call 13;refine (HBU.out _ (some ⟨w.heap.size,0,none⟩) (cel_lit3 _ _ _ _ _)).mono ?_;rintro e w1 hp;obtain ⟨hb,R,S,ro,rfl,hbh,hb1⟩:=hp.good (by decide) (by decide) (by decide);(have HBH:=Lib.hid hbh);(have HB1:=Lib.hid hb1);clear hp hbh hb1)
 go_upto_region 3 with (go_at_call 21;refine (HOR.out _ _ _ _ _ HBH.out).mono ?_;intro e w2 hp;obtain ⟨⟨a2,c2,rfl⟩,hb2⟩:=ex_order hp;(have HB2:=Lib.hid hb2);clear hp hb2)
 go_upto_region 4 with (go_at_call 15;refine (HWH.out _ _ _ _ _ (some ⟨w2.heap.size,0,none⟩) ((HBH.out.go HB2.out).go (Below.of_al _ _)) (cel_lit2i w2 _)).mono ?_;intro e w3 hp;obtain ⟨a3,m3,c3,rfl,hb3⟩:=ex_whole hp;(have HB3:=Lib.hid hb3);clear hp hb3)
 go_wp2
 go_ret
 exact ⟨rfl,(((((Below.of_al _ _).st HB1.out).st HB2.out).al _).st HB3.out).al _⟩
end Go.Proofs.YteaaapdjplbljaaGreat
end
