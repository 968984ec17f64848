/- Walks: the library's slices.Max at weights, table.Center; the reference's Row, Center and Tour (law 25). Walks: table.Center; the reference's Center and Tour (law 25); why a fault. Walks: the reference's Center and Tour (law 25); why a fault. Walk over the reference of upward: Far, Peak. The peaks at which both ends meet, told in two ways, in plain Lean. Walk over the reference of query: Peaks. Rows of indices by their keys, laid one behind the other, in plain Lean. -/
import Derived.Test.YteaaapdjplbljaaGreatProg
import Derived.Test.YteaaapdjplbljaaGreatLw36
import Derived.Deep.CutRange
import Derived.Test.YteaaapdjplbljaaGreatLw34
import Derived.Test.YteaaapdjplbljaaGreatLw02
set_option linter.unusedVariables false
set_option linter.unusedSimpArgs false
set_option linter.unnecessarySimpa false
section
namespace Go.Proofs.YteaaapdjplbljaaGreat
open Go Go.Proofs Go.RowKit Go.Shelf Go.Proofs.YteaaapdjplbljaaGreat.Hp Go.Proofs.YteaaapdjplbljaaGreat.Ch
theorem elem_u64q:Elem Tryz.prog 37 (.int .u64 0) 1 8:=⟨by kernel_rfl,rfl,by decide⟩
def RowOut (es:List EdgeD) (s:Int) (tl:List Int) (w:World) (e:Ending) (w':World):Prop:=
 ∃ao cap,e=.returned (.slice ao tl.length cap)∧Cel w' ao ((tl.map (distV es s)).map encW)∧(∀t∈tl,FarV (arcG es) s t (distV es s t))∧Below w.heap.size w w'
set_option maxRecDepth 100000 in
set_option maxHeartbeats 2000000 in
theorem refRow_any (n s:Nat) (es:List EdgeD) (ao:Option Addr) (cap:Nat) (lo:Option Addr) (lc:Nat) (tl:List Int) (w:World) (hg:rightG ⟨(n:Int),es⟩=0) (hn:n≤12) (hes:es.length≤40) (hs:s<n) (hc:Cel w ao (flat es)) (hlc:Cel w lo (tl.map encI)) (htl:tl.length≤60) (hno:∀t∈tl,nodeN n t)
  (hA:∀u v w,arcG es u v w→1≤w):
  Calls Tryz.prog 30 #[.agg #[.int .i64 (n:Int),.slice ao es.length cap],.int .i64 (s:Int),.slice lo tl.length lc] w (RowOut es (s:Int) tl w):=by
 obtain ⟨W,hW⟩:∃W,W=w.alloc (Obj.cells #[.int .i64 (n:Int),.slice ao es.length cap] 24):=⟨_,rfl⟩
 have hbw:Below w.heap.size w W:=by rw [hW];exact Below.of_al _ _
 have c0:W.cell? ⟨w.heap.size,0,none⟩=some (.int .i64 (n:Int)):=by rw [hW];go_simp
 have c1:W.cell? ⟨w.heap.size,1,none⟩=some (.slice ao es.length cap):=by rw [hW];go_simp
 have HW:=Lib.hid hW
 have HB:=Lib.hid hbw
 have HAL:=Lib.hid (refAll_any n s es ao none cap 0 false [] W hg hn hes hs (by simp) (hc.go hbw) (Cel.nil _ _))
 have HLC:=Lib.hid (hlc.go hbw)
 have HNO:=Lib.hid hno
 have HAA:=Lib.hid hA
 have htl2:(tl.length:Int)≤60:=by omega
 have hn2:(n:Int)≤12:=by omega
 have HTL:=Lib.hid htl
 unfold AllPost at HAL
 clear hW hbw hc hlc hno hA htl
 go_enter Tryz.func30,Tryz.ntmps30
 go_upto_region 1 with (fail)
 rw [←HW.out]
 go_upto_region 2 with (go_at_call 71;refine HAL.out.mono ?_;rintro e w1 ⟨b,d,rfl,k1,k2,k3,k4⟩;(have HC1:=Lib.hid k1);(have HB1:=Lib.hid k2);(have HI1:=Lib.hid k4);clear k1 k2 k3 k4)
 have HFV:=Lib.hid (fun (v:Int) (hv:nodeN n v)=>(AllIs.far (es:=es) (n:=n) (s:=(s:Int)) (back:=false) (fun u v w h=>HAA.out u v w h) HI1.out hv:FarV (arcG es) (s:Int) v (gD d v)))
 have hdl:d.length=n:=HI1.out.1
 have HDL:=Lib.hid hdl
 have HR0:=Lib.hid (World.ownsRow_nil w1 w1.heap.size 37 1)
 clear c0 c1 hdl
 go_wp2
 go_loopg [9,8] tl.length (fun gg v9 v8 wr=>∃k:Nat,k≤tl.length∧tl.length-k≤gg∧v9=.int .i64 (k:Int)∧Aside (wr.ownsRow w1.heap.size 37 1 v8 k (((tl.take k).map (distV es (s:Int))).map encW))∧Aside (Below w1.heap.size w1 wr))
 case atStart=>exact ⟨0,Nat.zero_le _,by omega,rfl,HR0.out,Below.refl _ _⟩
 case round=>
  obtain ⟨k,hk,hgg,rfl,HR,HBW⟩:=hrel
  by_cases hlt:k<tl.length
  ·have hlt3:(k:Int)<(tl.length:Int):=by omega
   have hk0:(0:Int)≤(k:Int):=by omega
   obtain ⟨lb,lof,hao,y0⟩:=(HLC.out.go (HB1.out.st HBW.out)).at hlt
   subst hao
   have hnd:=HNO.out _ (List.getElem_mem hlt)
   obtain ⟨t,htt⟩:∃t:Nat,tl[k]=(t:Int):=⟨tl[k].toNat,by have:=hnd.1;omega⟩
   rw [htt] at y0 hnd
   have htn:t<n:=by have:=hnd.2;omega
   have htn2:(t:Int)<(n:Int):=by omega
   have ht0:(0:Int)≤(t:Int):=by omega
   have hq:=(HFV.out _ hnd).eqD
   have hdt:=(HC1.out.go HBW.out) t (.int .u64 (distV es (s:Int) (t:Int))) (by
    rw [List.getElem?_map,←hq]
    unfold gD
    simp [List.getD,show t<d.length by rw [HDL.out];exact htn,encW])
   obtain ⟨_,_,e,z0⟩:=hdt
   cases e
   rw [Nat.zero_add] at z0
   have HTK:=Lib.hid (show ((tl.take (k+1)).map (distV es (s:Int))).map encW=((tl.take k).map (distV es (s:Int))).map encW++[.int .u64 (distV es (s:Int) (t:Int))] by
    rw [List.take_succ_eq_append_getElem hlt,List.map_append,List.map_append,htt];rfl)
   have hz:=HBW.out.size
   have HZ:=Lib.hid (And.intro hk hz)
   clear hnd hq htt hz
   generalize distV es (s:Int) (t:Int)=x at*
   go_upto_region 5 with (at_builtin;go_must (refine wpList_app w1.heap.size 37 _ 1 8 elem_u64q Tryz.underlying60 u8 k _ ⟨wr.heap.size,0,none⟩ 1 1 [.int .u64 x] rfl rfl (World.ownsRow.alloc HR.out _) (cell_one_new _ _ _) (one_cells rfl) ⟨rfl,by decide,(by have:=HZ.out.1;omega),(by have:=HZ.out.1;omega),(by have:=HZ.out.2;simp;omega)⟩ ?_);intro g7 cap7 w7 hown hgr hbl hat hlt7;(have HR7:=Lib.hid hown);(have HB7:=Lib.hid ((HBW.out.al _).trans hbl));clear hown hgr hbl hat hlt7)
   go_wp2
   go_roundg (tl.length-(k+1))
   case measure=>omega
   case rel=>exact ⟨k+1,by omega,Nat.le_refl _,by go_num,by rw [HTK.out];exact HR7.out,HB7.out⟩
  ·obtain rfl:k=tl.length:=by omega
   obtain ⟨ao8,cap8,e8,hc8⟩:=Cel.of_owns HR.out
   subst e8
   rw [List.take_length] at hc8
   have HC8:=Lib.hid hc8
   go_wp2
   go_ret
   exact ⟨ao8,cap8,rfl,HC8.out,(fun t ht=>by have h:=HFV.out _ (HNO.out t ht);have h2:=h.eqD;rw [h2] at h;exact h),HB.out.st (HB1.out.st HBW.out)⟩
end Go.Proofs.YteaaapdjplbljaaGreat
end
section
namespace Go.Proofs.YteaaapdjplbljaaGreat
open Go Go.Proofs Go.RowKit Go.Shelf Go.Proofs.YteaaapdjplbljaaGreat.Hp Go.Proofs.YteaaapdjplbljaaGreat.Ch
end Go.Proofs.YteaaapdjplbljaaGreat
end
section
namespace Go.Proofs.YteaaapdjplbljaaGreat
open Go Go.Proofs Go.RowKit Go.Shelf Go.Proofs.YteaaapdjplbljaaGreat.Hp Go.Proofs.YteaaapdjplbljaaGreat.Ch
def RowV (es:List EdgeD) (s:Int) (l:List Int) (v:Value) (W:World):Prop:=∃ao cap,v=.slice ao l.length cap∧Cel W ao ((l.map (distV es s)).map encW)
theorem RowV.go {es:List EdgeD} {s:Int} {l:List Int} {v:Value} {W W':World} (h:RowV es s l v W) (hb:Below W.heap.size W W'):RowV es s l v W':=let ⟨a,c,h1,h2⟩:=h;⟨a,c,h1,h2.go hb⟩
def rcR (gv lv p:Value) (i s:Int) (es:List EdgeD) (l:List Int):Nat→Value→World→Prop
 |0,v,_=>v=gv
 |1,v,_=>v=lv
 |2,v,_=>v=.int .i64 i
 |3,v,_=>v=p
 |4,v,_=>v=.int .i64 s
 |5,v,_=>v=lv
 |6,v,W=>RowV es s l v W
 |7,v,W=>RowV es s l v W
 |_,_,_=>True
theorem rcR_go {gv lv p:Value} {i s:Int} {es:List EdgeD} {l:List Int}:∀(k:Nat) (v:Value) (w w':World),Below w.heap.size w w'→rcR gv lv p i s es l k v w→rcR gv lv p i s es l k v w'
 |0,_,_,_,_,h|1,_,_,_,_,h|2,_,_,_,_,h|3,_,_,_,_,h|4,_,_,_,_,h|5,_,_,_,_,h=>h
 |6,_,_,_,hb,h|7,_,_,_,hb,h=>RowV.go h hb
 |_+8,_,_,_,_,_=>trivial
def rtR (gv lv p:Value) (i j s x:Int) (es:List EdgeD) (l:List Int):Nat→Value→World→Prop
 |0,v,_=>v=gv
 |1,v,_=>v=lv
 |2,v,_=>v=.int .i64 i
 |3,v,_=>v=.int .i64 j
 |4,v,_=>v=p
 |5,v,_=>v=.int .i64 s
 |6,v,_=>v=lv
 |7,v,W=>RowV es s l v W
 |8,v,_=>v=.int .i64 i
 |9,v,W=>∃b o,v=.pointer (some ⟨b,o,none⟩)∧W.cell? ⟨b,o,none⟩=some (.int .u64 x)
 |10,v,_=>v=.int .u64 x
 |11,v,_=>v=.int .u64 x
 |_,_,_=>True
theorem rtR_go {gv lv p:Value} {i j s x:Int} {es:List EdgeD} {l:List Int}:∀(k:Nat) (v:Value) (w w':World),Below w.heap.size w w'→rtR gv lv p i j s x es l k v w→rtR gv lv p i j s x es l k v w'
 |0,_,_,_,_,h|1,_,_,_,_,h|2,_,_,_,_,h|3,_,_,_,_,h|4,_,_,_,_,h|5,_,_,_,_,h|6,_,_,_,_,h|8,_,_,_,_,h|10,_,_,_,_,h|11,_,_,_,_,h=>h
 |7,_,_,_,hb,h=>RowV.go h hb
 |9,_,_,_,hb,h=>let ⟨b,o,h1,h2⟩:=h;⟨b,o,h1,cell_later hb h2⟩
 |_+12,_,_,_,_,_=>trivial
def RefTour (es:List EdgeD) (l:List Int) (w:World) (e:Ending) (w':World):Prop:=
 ((legsOK (distV es) l (l.length-1)∧e=.returned (.tuple #[.int .u64 (legSum (distV es) l (l.length-1)),.bool true]))∨
  ((∃j,j<l.length-1∧4611686018427387904≤distV es (l.getD j 0) (l.getD (j+1) 0))∧e=.returned (.tuple #[.int .u64 0,.bool false])))∧Below w.heap.size w w'
set_option maxRecDepth 100000 in
set_option maxHeartbeats 4000000 in
theorem refTour_any (n:Nat) (es:List EdgeD) (ao:Option Addr) (cap:Nat) (lo:Option Addr) (lc:Nat) (l:List Int) (w:World) (hg:rightG ⟨(n:Int),es⟩=0) (hn:n≤12) (hes:es.length≤40) (hc:Cel w ao (flat es)) (hlc:Cel w lo (l.map encI)) (hl:l.length≤60) (hno:∀t∈l,nodeN n t)
  (hA:∀u v w,arcG es u v w→1≤w) (hdt:∀j,j<l.length-1→DistT es (l.getD j 0) (l.getD (j+1) 0)):
  Calls Tryz.prog 28 #[.agg #[.int .i64 (n:Int),.slice ao es.length cap],.slice lo l.length lc] w (RefTour es l w):=by
 obtain ⟨W,hW⟩:∃W,W=w.alloc (Obj.cells #[.int .i64 (n:Int),.slice ao es.length cap] 24):=⟨_,rfl⟩
 have hbw:Below w.heap.size w W:=by rw [hW];exact Below.of_al _ _
 have c0:W.cell? ⟨w.heap.size,0,none⟩=some (.int .i64 (n:Int)):=by rw [hW];go_simp
 have c1:W.cell? ⟨w.heap.size,1,none⟩=some (.slice ao es.length cap):=by rw [hW];go_simp
 have HW:=Lib.hid hW
 have HB:=Lib.hid hbw
 have HRO:=Lib.hid (fun W' (hz:Below W.heap.size W W') s hs=>refRow_any n s es ao cap lo lc l W' hg hn hes hs ((hc.go hbw).go hz) ((hlc.go hbw).go hz) hl hno hA)
 have HLC:=Lib.hid (hlc.go hbw)
 have HNO:=Lib.hid hno
 have hl2:(l.length:Int)≤60:=by omega
 have HCC:=Lib.hid (And.intro c0 c1)
 have HDT:=Lib.hid hdt
 have HL:=Lib.hid hl
 clear hW hbw hc hlc hno hA hl c0 c1 hdt
 go_enter Tryz.func28,Tryz.ntmps28
 go_upto_region 1 with (fail)
 rw [←HW.out]
 go_wp2
 go_loopg [7,6] l.length (fun gg v7 v6 wr=>∃j:Nat,(j+1≤l.length∨j=0)∧l.length-(j+1)≤gg∧v7=.int .i64 ((j+1:Nat):Int)∧v6=.int .u64 (legSum (distV es) l j)∧Aside (legsOK (distV es) l j)∧Aside (Below W.heap.size W wr))
 case atStart=>exact ⟨0,.inr rfl,by omega,rfl,rfl,legsOK.none _ _,Below.refl _ _⟩
 case round=>
  obtain ⟨j,hk,hgg,rfl,rfl,HOK,HBW⟩:=hrel
  by_cases hlt:j+1<l.length
  ·have hlt3:(j:Int)+1<(l.length:Int):=by omega
   have hj0:(0:Int)≤(j:Int):=by omega
   have hjl:j<l.length:=by omega
   obtain ⟨lb,lof,hao,y0⟩:=(HLC.out.go HBW.out).at hjl
   subst hao
   have hnd:=HNO.out _ (List.getElem_mem hjl)
   obtain ⟨s,hss⟩:∃s:Nat,l[j]=(s:Int):=⟨l[j].toNat,by have:=hnd.1;omega⟩
   rw [hss] at y0 hnd
   have hsn:s<n:=by have:=hnd.2;omega
   have HRK:=Lib.hid (fun W' (hz:Below W.heap.size W W')=>HRO.out W' hz s hsn)
   unfold RowOut at HRK
   have hg0:l.getD j 0=(s:Int):=by rw [←hss];simp [List.getD,hjl]
   have hg1:l.getD (j+1) 0=l[j+1]:=by simp [List.getD,hlt]
   have hdj:=HDT.out j (by omega)
   have hbd:=legSum_in HOK.out (fun i hi=>HDT.out i (by omega))
   rw [hg0,hg1] at hdj
   have HX:=Lib.hid (show distV es (l.getD j 0) (l.getD (j+1) 0)=distV es (s:Int) l[j+1] by rw [hg0,hg1])
   have HS:=Lib.hid (show legSum (distV es) l (j+1)=legSum (distV es) l j+distV es (s:Int) l[j+1] by rw [←HX.out];rfl)
   have hdin:=hdj.in
   obtain ⟨x,hx⟩:∃x,x=distV es (s:Int) l[j+1]:=⟨_,rfl⟩
   have HXE:=Lib.hid hx
   rw [←hx] at HX HS hdin
   have HSM:=Lib.hid hbd
   have HJ:=Lib.hid (And.intro hjl hlt)
   obtain ⟨d0,d1⟩:=HCC.out
   have d0:=cell_later HBW.out d0
   have d1:=cell_later HBW.out d1
   have HGG:=Lib.hid hgg
   clear hnd hss hx hg0 hg1 hdj hbd hk hgg
   generalize legSum (distV es) l j=sm at*
   go_upto_region 5 with (fail)
   obtain ⟨wk,hwk⟩:∃wk,wk=wr:=⟨_,rfl⟩
   rw [←hwk] at HBW y0 d0 d1 ⊢
   go_cut [8] from 15 to 25 (fun v8 wc=>v8=.int .u64 x∧Below wk.heap.size wk wc)
   case first=>
    rename_i J K2 hJ hK2
    refine wp_region_grows_act 12 rfl (rtR (.agg #[.int .i64 (n:Int),.slice ao es.length cap]) (.slice (some ⟨lb,lof,none⟩) l.length lc) (.pointer (some ⟨lb,lof+j,none⟩)) ((j+1:Nat):Int) (j:Int) (s:Int) x es l) (by kernel_rfl) (by kernel_rfl) rtR_go ?_ ?_
    ·refine ⟨?_,?_,?_,?_,?_,?_,?_,?_,?_,?_,?_,?_,trivial⟩
     ·intro act w' hbe hd ho K hK
      have g2:act.tmps.getD 2 undef=.pointer (some ⟨w.heap.size,0,none⟩):=ho 2 (by kernel_rfl)
      have f0:=cell_later hbe d0
      have f1:=cell_later hbe d1
      simp [Oper.wp,execOp,Oper.upon,go_sem,Act.eval,g2,f0,f1]
      exact hK _ w' (Below.refl _ _) rfl
     ·intro act w' hbe hd ho K hK
      have g1:act.tmps.getD 1 undef=.slice (some ⟨lb,lof,none⟩) l.length lc:=ho 1 (by kernel_rfl)
      simp [Oper.wp,execOp,Oper.upon,go_sem,Act.eval,g1]
      exact hK _ w' (Below.refl _ _) rfl
     ·intro act w' hbe hd ho K hK
      have g7:act.tmps.getD 7 undef=.int .i64 ((j+1:Nat):Int):=ho 7 (by kernel_rfl)
      simp [Oper.wp,execOp,Oper.upon,go_sem,Act.eval,g7]
      exact hK _ w' (Below.refl _ _) rfl
     ·intro act w' hbe hd ho K hK
      have e3:act.tmps.getD 17 undef=.int .i64 ((j+1:Nat):Int):=hd 2 (by rfl)
      have hwi:IntKind.i64.wrap (j:Int)=(j:Int):=by rw [IntKind.wrap_i64];omega
      simp [Oper.wp,execOp,Oper.upon,go_sem,Act.eval,e3,hwi]
      exact hK _ w' (Below.refl _ _) rfl
     ·intro act w' hbe hd ho K hK
      have e1:act.tmps.getD 16 undef=.slice (some ⟨lb,lof,none⟩) l.length lc:=hd 1 (by rfl)
      have e2:act.tmps.getD 18 undef=.int .i64 (j:Int):=hd 3 (by rfl)
      simp [Oper.wp,execOp,Oper.upon,go_sem,Act.eval,e1,e2,hjl]
      exact hK _ w' (Below.refl _ _) rfl
     ·intro act w' hbe hd ho K hK
      have e3:act.tmps.getD 19 undef=.pointer (some ⟨lb,lof+j,none⟩):=hd 4 (by rfl)
      have f0:=cell_later hbe y0
      simp [Oper.wp,execOp,Oper.upon,go_sem,Act.eval,e3,f0]
      exact hK _ w' (Below.refl _ _) rfl
     ·intro act w' hbe hd ho K hK
      have g1:act.tmps.getD 1 undef=.slice (some ⟨lb,lof,none⟩) l.length lc:=ho 1 (by kernel_rfl)
      simp [Oper.wp,execOp,Oper.upon,go_sem,Act.eval,g1]
      exact hK _ w' (Below.refl _ _) rfl
     ·intro act w' hbe hd ho K hK
      have e0:act.tmps.getD 15 undef=.agg #[.int .i64 (n:Int),.slice ao es.length cap]:=hd 0 (by rfl)
      have e4:act.tmps.getD 20 undef=.int .i64 (s:Int):=hd 5 (by rfl)
      have e5:act.tmps.getD 21 undef=.slice (some ⟨lb,lof,none⟩) l.length lc:=hd 6 (by rfl)
      simp [Oper.wp,execOp,Oper.upon,go_sem,Act.eval,e0,e4,e5]
      refine (HRK.out w' (HBW.out.st hbe)).mono ?_
      rintro e w6 ⟨a6,c6,rfl,h1,h2,h3⟩
      exact hK _ w6 h3 ⟨a6,c6,rfl,h1⟩
     ·intro act w' hbe hd ho K hK
      have g7:act.tmps.getD 7 undef=.int .i64 ((j+1:Nat):Int):=ho 7 (by kernel_rfl)
      simp [Oper.wp,execOp,Oper.upon,go_sem,Act.eval,g7]
      exact hK _ w' (Below.refl _ _) rfl
     ·intro act w' hbe hd ho K hK
      obtain ⟨a6,c6,e6,hu⟩:RowV es (s:Int) l (act.tmps.getD 22 undef) w':=hd 7 (by rfl)
      have e8:act.tmps.getD 23 undef=.int .i64 ((j+1:Nat):Int):=hd 8 (by rfl)
      obtain ⟨b6,o6,rfl,z6⟩:=hu.at (i:=j+1) (by simpa using hlt)
      rw [List.getElem_map] at z6
      have hif:(0:Int)≤(j:Int)+1∧(j:Int)+1<(l.length:Int):=⟨by omega,hlt3⟩
      simp [Oper.wp,execOp,Oper.upon,go_sem,Act.eval,e6,e8,hif]
      exact hK _ w' (Below.refl _ _) ⟨b6,_,rfl,by rw [HXE.out];exact z6⟩
     ·intro act w' hbe hd ho K hK
      obtain ⟨b6,o6,e6,z6⟩:∃b o,act.tmps.getD 24 undef=.pointer (some ⟨b,o,none⟩)∧w'.cell? ⟨b,o,none⟩=some (.int .u64 x):=hd 9 (by rfl)
      simp [Oper.wp,execOp,Oper.upon,go_sem,Act.eval,e6,z6]
      exact hK _ w' (Below.refl _ _) rfl
     ·intro act w' hbe hd ho K hK
      have e6:act.tmps.getD 25 undef=.int .u64 x:=hd 10 (by rfl)
      simp [Oper.wp,execOp,Oper.upon,go_sem,Act.eval,e6]
      exact hK _ w' (Below.refl _ _) rfl
    ·intro vs w' hb1 hR
     simp only [puts,dstAt,List.getElem?_cons_zero,List.getElem?_cons_succ,Option.bind_some,Option.getD_some,Act.put,List.length_cons,List.length_nil,Nat.reduceAdd,List.setIfInBounds_toArray,List.set_cons_zero,List.set_cons_succ]
     refine hK2 _ _ ?_
     go_meet
     exact ⟨hR 11 (by decide),hb1⟩
   case rest=>
    obtain ⟨rfl,hbc⟩:=hcut
    have HBC:=Lib.hid (HBW.out.st hbc)
    clear hbc
    by_cases hx:x<4611686018427387904
    ·have HM2:=Lib.hid (HOK.out.more (by rw [HX.out];exact hx))
     have hgx:decide (4611686018427387904≤x)=false:=by simp;omega
     have hwr:IntKind.u64.wrap (sm+x)=sm+x:=by rw [IntKind.wrap_u64];have:=HSM.out;have:=HJ.out;have:=HL.out;omega
     clear hx
     go_wp2
     go_roundg (l.length-(j+1+1))
     case measure=>(have:=HJ.out;have:=HGG.out;omega)
     case rel=>exact ⟨j+1,.inl (by have:=HJ.out;omega),Nat.le_refl _,by go_num,by rw [←HS.out],HM2.out,HBC.out⟩
    ·have hj9:j<l.length-1:=by have:=HJ.out;omega
     have HF2:=Lib.hid (show ∃j,j<l.length-1∧4611686018427387904≤distV es (l.getD j 0) (l.getD (j+1) 0) from ⟨j,hj9,by rw [HX.out];omega⟩)
     obtain rfl:x=4611686018427387904:=by omega
     clear hx hj9
     go_wp2
     refine bodyPost_ret (v:=.tuple #[.int .u64 0,.bool false]) (by simp [results,Tryz.results28,go_sem];try rfl) rfl ?_
     exact ⟨.inr ⟨HF2.out,rfl⟩,HB.out.st HBC.out⟩
  ·have hje:j=l.length-1:=by omega
   have hge:¬((j:Int)+1<(l.length:Int)):=by omega
   have HJE:=Lib.hid hje
   clear hje hk hlt
   go_wp2
   refine bodyPost_ret (v:=.tuple #[.int .u64 (legSum (distV es) l j),.bool true]) (by simp [results,Tryz.results28,go_sem];try rfl) rfl ?_
   have h1:=HJE.out
   exact ⟨.inl ⟨by rw [←h1];exact HOK.out,by rw [←h1]⟩,HB.out.st HBW.out⟩
end Go.Proofs.YteaaapdjplbljaaGreat
end
section
namespace Go.Proofs.YteaaapdjplbljaaGreat
open Go Go.Proofs Go.RowKit Go.Shelf Go.Proofs.YteaaapdjplbljaaGreat.Ch
theorem AllPost.st {es:List EdgeD} {n:Nat} {s:Int} {back:Bool} {no:List Int} {w W w':World} {e:Ending} (hb:Below w.heap.size w W) (h:AllPost es n s back no W e w'):AllPost es n s back no w e w':=by
 obtain ⟨b,d,h1,h2,h3,h4,h5⟩:=h
 have:=hb.size
 exact ⟨b,d,h1,h2,hb.st h3,by omega,h5⟩
end Go.Proofs.YteaaapdjplbljaaGreat
end
section
namespace Go.Proofs.YteaaapdjplbljaaGreat
open Go.Proofs.YteaaapdjplbljaaGreat.Ch
end Go.Proofs.YteaaapdjplbljaaGreat
end
section
namespace Go.Proofs.YteaaapdjplbljaaGreat
open Go Go.Proofs Go.RowKit Go.Shelf Go.Proofs.YteaaapdjplbljaaGreat.Ch
section
variable {A:Int→Int→Int→Prop} {r:Int→Int} {s t d:Int} {k:Nat} {l:List Int}
end
theorem row_at {wr:World} {b n:Nat} {d:List Int} (h:Cel wr (some ⟨b,0,none⟩) (d.map encW)) (hl:d.length=n) {u:Nat} (hu:u<n):wr.cell? ⟨b,u,none⟩=some (.int .u64 (gD d (u:Int))):=by
 obtain ⟨b',o',e,h1⟩:=h u (.int .u64 (gD d (u:Int))) (by
  rw [List.getElem?_map]
  unfold gD
  rw [Int.toNat_natCast,List.getD_eq_getElem?_getD,List.getElem?_eq_getElem (by omega)]
  rfl)
 cases e
 rw [Nat.zero_add] at h1
 exact h1
end Go.Proofs.YteaaapdjplbljaaGreat
end
section
namespace Go.Proofs.YteaaapdjplbljaaGreat.Ad
def cntN (kf:Nat→Nat):Nat→Nat→Nat
 |0,_=>0
 |k+1,v=>cntN kf k v+(if kf k=v then 1 else 0)
def preN (kf:Nat→Nat):Nat→Nat→Nat
 |0,_=>0
 |k+1,j=>preN kf k j+(if kf k<j then 1 else 0)
theorem preN_succ (kf:Nat→Nat) (j:Nat):∀k,preN kf k (j+1)=preN kf k j+cntN kf k j
 |0=>rfl
 |k+1=>by
  unfold preN cntN
  rw [preN_succ kf j k]
  by_cases h1:kf k<j
  ·rw [if_pos h1,if_pos (by omega),if_neg (by omega)]
   omega
  ·by_cases h2:kf k=j
   ·rw [if_neg h1,if_pos h2,if_pos (by omega)]
    omega
   ·rw [if_neg h1,if_neg h2,if_neg (by omega)]
    omega
theorem preN_zero (kf:Nat→Nat):∀k,preN kf k 0=0
 |0=>rfl
 |k+1=>by unfold preN;rw [preN_zero kf k,if_neg (by omega)]
theorem preN_mono (kf:Nat→Nat) {i j:Nat} (h:i≤j):∀k,preN kf k i≤preN kf k j
 |0=>Nat.le_refl _
 |k+1=>by
  have:=preN_mono kf h k
  unfold preN
  split<;>split<;>omega
theorem preN_all {kf:Nat→Nat} {n:Nat}:∀k,(∀i,i<k→kf i<n)→preN kf k n=k
 |0,_=>rfl
 |k+1,h=>by
  unfold preN
  rw [preN_all k (fun i hi=>h i (by omega)),if_pos (h k (by omega))]
theorem preN_le (kf:Nat→Nat) (j:Nat):∀k,preN kf k j≤k
 |0=>Nat.le_refl _
 |k+1=>by
  have:=preN_le kf j k
  unfold preN
  split<;>omega
theorem cntN_le (kf:Nat→Nat) (v:Nat):∀k,cntN kf k v≤k
 |0=>Nat.le_refl _
 |k+1=>by
  have:=cntN_le kf v k
  unfold cntN
  split<;>omega
theorem cntN_mono (kf:Nat→Nat) (v:Nat) {i:Nat}:∀{j},i≤j→cntN kf i v≤cntN kf j v
 |0,h=>by
  have:i=0:=by omega
  subst this
  exact Nat.le_refl _
 |j+1,h=>by
  by_cases e:i=j+1
  ·subst e;exact Nat.le_refl _
  ·have:=cntN_mono kf v (i:=i) (j:=j) (by omega)
   show _≤cntN kf j v+_
   omega
theorem cntN_lt (kf:Nat→Nat) {i j:Nat} (h:i<j):cntN kf i (kf i)<cntN kf j (kf i):=by
 have h1:=cntN_mono kf (kf i) (show i+1≤j by omega)
 have h2:cntN kf (i+1) (kf i)=cntN kf i (kf i)+1:=by
  show cntN kf i (kf i)+(if kf i=kf i then 1 else 0)=_
  rw [if_pos rfl]
 omega
def posN (kf:Nat→Nat) (m i:Nat):Nat:=preN kf m (kf i)+cntN kf i (kf i)
theorem posN_seg (kf:Nat→Nat) {m i:Nat} (h:i<m):posN kf m i<preN kf m (kf i+1):=by
 have:=cntN_lt kf h
 unfold posN
 rw [preN_succ]
 omega
theorem posN_lt {kf:Nat→Nat} {m n i:Nat} (h:i<m) (hk:∀i,i<m→kf i<n):posN kf m i<m:=by
 have h1:=posN_seg kf h
 have h2:=preN_mono kf (show kf i+1≤n from hk i h) m
 rw [preN_all m hk] at h2
 omega
theorem posN_ne {kf:Nat→Nat} {m i j:Nat} (hj:j<m) (hij:i<j):posN kf m i≠posN kf m j:=by
 have hi:i<m:=by omega
 rcases Nat.lt_trichotomy (kf i) (kf j) with h|h|h
 ·have h1:=posN_seg kf hi
  have h2:=preN_mono kf (show kf i+1≤kf j by omega) m
  unfold posN at*
  omega
 ·have h1:=cntN_lt kf hij
  unfold posN
  rw [←h]
  omega
 ·have h1:=posN_seg kf hj
  have h2:=preN_mono kf (show kf j+1≤kf i by omega) m
  unfold posN at*
  omega
def idxN (kf:Nat→Nat):Nat→Nat→List Int
 |0,_=>[]
 |k+1,v=>if kf k=v then idxN kf k v++[(k:Int)] else idxN kf k v
theorem idxN_len (kf:Nat→Nat) (v:Nat):∀k,(idxN kf k v).length=cntN kf k v
 |0=>rfl
 |k+1=>by
  unfold idxN cntN
  split
  ·rw [List.length_append,idxN_len kf v k];rfl
  ·rw [idxN_len kf v k];rfl
theorem idxN_at (kf:Nat→Nat) (v:Nat):∀k j x,(idxN kf k v)[j]? =some x→∃i:Nat,x=(i:Int)∧i<k∧kf i=v∧cntN kf i v=j
 |0,j,x,h=>by simp [idxN] at h
 |k+1,j,x,h=>by
  unfold idxN at h
  split at h
  ·rename_i e
   rcases Nat.lt_or_ge j (idxN kf k v).length with hj|hj
   ·rw [List.getElem?_append_left hj] at h
    obtain ⟨i,h1,h2,h3⟩:=idxN_at kf v k j x h
    exact ⟨i,h1,by omega,h3⟩
   ·rw [List.getElem?_append_right hj] at h
    have hj0:j=(idxN kf k v).length:=by
     have:=(List.getElem?_eq_some_iff.1 h).1
     simp at this
     omega
    subst hj0
    rw [Nat.sub_self] at h
    cases h
    exact ⟨k,rfl,by omega,e,(idxN_len kf v k).symm⟩
  ·obtain ⟨i,h1,h2,h3⟩:=idxN_at kf v k j x h
   exact ⟨i,h1,by omega,h3⟩
theorem idxN_mem {kf:Nat→Nat} {v:Nat} {x:Int}:∀{k},x∈idxN kf k v↔∃i:Nat,x=(i:Int)∧i<k∧kf i=v
 |0=>by simp [idxN]
 |k+1=>by
  unfold idxN
  have ih:=@idxN_mem kf v x k
  split
  ·rename_i e
   rw [List.mem_append,List.mem_singleton,ih]
   constructor
   ·rintro (⟨i,h1,h2,h3⟩|rfl)
    ·exact ⟨i,h1,by omega,h3⟩
    ·exact ⟨k,rfl,by omega,e⟩
   ·rintro ⟨i,rfl,h2,h3⟩
    by_cases e2:i=k
    ·subst e2;exact .inr rfl
    ·exact .inl ⟨i,rfl,by omega,h3⟩
  ·rename_i e
   rw [ih]
   constructor
   ·rintro ⟨i,h1,h2,h3⟩
    exact ⟨i,h1,by omega,h3⟩
   ·rintro ⟨i,rfl,h2,h3⟩
    refine ⟨i,rfl,?_,h3⟩
    by_cases e2:i=k
    ·subst e2;exact absurd h3 e
    ·omega
theorem idxN_asc (kf:Nat→Nat) (v:Nat):∀k,(idxN kf k v).Pairwise (· <·)
 |0=>List.Pairwise.nil
 |k+1=>by
  unfold idxN
  split
  ·refine List.pairwise_append.2 ⟨idxN_asc kf v k,List.pairwise_singleton _ _,fun a ha b hb=>?_⟩
   obtain rfl:=List.mem_singleton.1 hb
   obtain ⟨i,rfl,hi,_⟩:=idxN_mem.1 ha
   omega
  ·exact idxN_asc kf v k
def EdgP (kf:Nat→Nat) (m k:Nat) (xs:List Int):Prop:=xs.length=m∧∀i,i<k→xs[posN kf m i]? =some (i:Int)
theorem EdgP.step {kf:Nat→Nat} {m n k:Nat} {xs:List Int} (h:EdgP kf m k xs) (hk:k<m) (hn:∀i,i<m→kf i<n):EdgP kf m (k+1) (xs.set (posN kf m k) (k:Int)):=by
 refine ⟨by rw [List.length_set];exact h.1,fun i hi=>?_⟩
 have hp:=posN_lt hk hn
 by_cases e:i=k
 ·subst e
  rw [List.getElem?_set_self (by rw [h.1];exact hp)]
 ·have:=posN_ne (kf:=kf) (m:=m) hk (show i<k by omega)
  rw [List.getElem?_set_ne (fun e2=>this e2.symm)]
  exact h.2 i (by omega)
theorem EdgP.row {kf:Nat→Nat} {m:Nat} {xs:List Int} (h:EdgP kf m m xs) (v:Nat) {j:Nat} {x:Int} (hx:(idxN kf m v)[j]? =some x):xs[preN kf m v+j]? =some x:=by
 obtain ⟨i,rfl,h1,h2,h3⟩:=idxN_at kf v m j x hx
 have:=h.2 i h1
 unfold posN at this
 rw [h2,h3] at this
 exact this
def begL (kf:Nat→Nat) (n k:Nat):List Int:=(List.range (n+1)).map fun j=>if j=0 then 0 else (cntN kf k (j-1):Int)
def midL (kf:Nat→Nat) (n m v:Nat):List Int:=(List.range (n+1)).map fun j=>if j≤v then (preN kf m j:Int) else (cntN kf m (j-1):Int)
def atL (kf:Nat→Nat) (n m k:Nat):List Int:=(List.range (n+1)).map fun j=>((preN kf m j+cntN kf k j:Nat):Int)
theorem begL_len (kf:Nat→Nat) (n k:Nat):(begL kf n k).length=n+1:=by simp [begL]
theorem midL_len (kf:Nat→Nat) (n m v:Nat):(midL kf n m v).length=n+1:=by simp [midL]
theorem atL_len (kf:Nat→Nat) (n m k:Nat):(atL kf n m k).length=n+1:=by simp [atL]
theorem begL_at {kf:Nat→Nat} {n k v:Nat} (h:v<n):(begL kf n k)[v+1]? =some (cntN kf k v:Int):=by
 unfold begL
 rw [List.getElem?_map,List.getElem?_range (by omega)]
 simp
theorem begL_start (kf:Nat→Nat) (n:Nat):begL kf n 0=List.replicate (n+1) 0:=by
 apply List.ext_getElem?
 intro j
 unfold begL
 rw [List.getElem?_map,List.getElem?_replicate]
 by_cases h:j<n+1
 ·rw [List.getElem?_range h,if_pos h]
  simp [cntN]
 ·rw [List.getElem?_eq_none (by simp;omega),if_neg h]
  rfl
theorem begL_step {kf:Nat→Nat} {n k:Nat} (h:kf k<n):(begL kf n k).set (kf k+1) ((cntN kf k (kf k):Int)+1)=begL kf n (k+1):=by
 apply List.ext_getElem?
 intro j
 by_cases hj:j<n+1
 ·by_cases e:kf k+1=j
  ·subst e
   rw [List.getElem?_set_self (by rw [begL_len];exact hj),begL_at h]
   show _=some ((cntN kf k (kf k)+(if kf k=kf k then 1 else 0):Nat):Int)
   rw [if_pos rfl]
   rfl
  ·rw [List.getElem?_set_ne e]
   unfold begL
   rw [List.getElem?_map,List.getElem?_map,List.getElem?_range hj]
   simp only [Option.map_some]
   by_cases h0:j=0
   ·rw [if_pos h0,if_pos h0]
   ·rw [if_neg h0,if_neg h0]
    show _=some ((cntN kf k (j-1)+(if kf k=j-1 then 1 else 0):Nat):Int)
    rw [if_neg (by omega)]
    rfl
 ·rw [List.getElem?_eq_none (by rw [List.length_set,begL_len];omega),List.getElem?_eq_none (by rw [begL_len];omega)]
theorem midL_start (kf:Nat→Nat) (n m:Nat):midL kf n m 0=begL kf n m:=by
 unfold midL begL
 apply List.map_congr_left
 intro j _
 by_cases h:j=0
 ·subst h
  rw [if_pos (Nat.le_refl _),if_pos rfl,preN_zero]
  rfl
 ·rw [if_neg (by omega),if_neg h]
theorem midL_at0 {kf:Nat→Nat} {n m v:Nat} (h:v<n):(midL kf n m v)[v]? =some (preN kf m v:Int):=by
 unfold midL
 rw [List.getElem?_map,List.getElem?_range (by omega)]
 simp
theorem midL_at1 {kf:Nat→Nat} {n m v:Nat} (h:v<n):(midL kf n m v)[v+1]? =some (cntN kf m v:Int):=by
 unfold midL
 rw [List.getElem?_map,List.getElem?_range (by omega)]
 simp only [Option.map_some]
 rw [if_neg (by omega)]
 rfl
theorem midL_step {kf:Nat→Nat} {n m v:Nat} (h:v<n):(midL kf n m v).set (v+1) ((cntN kf m v:Int)+(preN kf m v:Int))=midL kf n m (v+1):=by
 apply List.ext_getElem?
 intro j
 by_cases hj:j<n+1
 ·by_cases e:v+1=j
  ·subst e
   rw [List.getElem?_set_self (by rw [midL_len];exact hj)]
   unfold midL
   rw [List.getElem?_map,List.getElem?_range hj]
   simp only [Option.map_some]
   rw [if_pos (Nat.le_refl _),preN_succ]
   congr 1
   omega
  ·rw [List.getElem?_set_ne e]
   unfold midL
   rw [List.getElem?_map,List.getElem?_map,List.getElem?_range hj]
   simp only [Option.map_some]
   by_cases h0:j≤v
   ·rw [if_pos h0,if_pos (by omega)]
   ·rw [if_neg h0,if_neg (by omega)]
 ·rw [List.getElem?_eq_none (by rw [List.length_set,midL_len];omega),List.getElem?_eq_none (by rw [midL_len];omega)]
theorem atL_start (kf:Nat→Nat) (n m:Nat):midL kf n m n=atL kf n m 0:=by
 unfold midL atL
 apply List.map_congr_left
 intro j hj
 have:=List.mem_range.1 hj
 rw [if_pos (by omega)]
 rfl
theorem atL_at {kf:Nat→Nat} {n m k v:Nat} (h:v<n+1):(atL kf n m k)[v]? =some ((preN kf m v+cntN kf k v:Nat):Int):=by
 unfold atL
 rw [List.getElem?_map,List.getElem?_range h]
 rfl
theorem atL_step {kf:Nat→Nat} {n m k:Nat} (h:kf k<n):(atL kf n m k).set (kf k) ((posN kf m k:Int)+1)=atL kf n m (k+1):=by
 apply List.ext_getElem?
 intro j
 by_cases hj:j<n+1
 ·by_cases e:kf k=j
  ·subst e
   rw [List.getElem?_set_self (by rw [atL_len];exact hj),atL_at hj]
   show _=some ((preN kf m (kf k)+(cntN kf k (kf k)+(if kf k=kf k then 1 else 0)):Nat):Int)
   rw [if_pos rfl]
   unfold posN
   congr 1
  ·rw [List.getElem?_set_ne e,atL_at hj,atL_at hj]
   show _=some ((preN kf m j+(cntN kf k j+(if kf k=j then 1 else 0)):Nat):Int)
   rw [if_neg e]
   rfl
 ·rw [List.getElem?_eq_none (by rw [List.length_set,atL_len];omega),List.getElem?_eq_none (by rw [atL_len];omega)]
end Go.Proofs.YteaaapdjplbljaaGreat.Ad
end
