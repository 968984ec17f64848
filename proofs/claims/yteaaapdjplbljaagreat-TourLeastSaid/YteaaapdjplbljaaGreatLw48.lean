/- Walk over the reference of tours (ref34): Whole. Walk over the reference of tours (ref34): Legs. Walk of the law QueryThirds. Walk of package query where nothing was built: Dist, Peaks, Meet of none. Walk of package hier: Hierarchy. Walks: are two rows the same (numbers, wide numbers, texts). Walk of the law QueryDists. -/
import Derived.Test.YteaaapdjplbljaaGreatProg
import Derived.Test.YteaaapdjplbljaaGreatLw47
import Derived.Test.YteaaapdjplbljaaGreatLw45
import Derived.Test.YteaaapdjplbljaaGreatLw12
import Derived.Deep.Cut
import Derived.Test.YteaaapdjplbljaaGreatLw44
import Derived.Test.YteaaapdjplbljaaGreatLw39
import Derived.Test.YteaaapdjplbljaaGreatLw36
import Derived.Test.YteaaapdjplbljaaGreatLw27
import Derived.Test.YteaaapdjplbljaaGreatLw02
import Derived.Test.YteaaapdjplbljaaGreatLw37
set_option linter.unusedVariables false
set_option linter.unusedSimpArgs false
set_option linter.unnecessarySimpa false
section
namespace Go.Proofs.YteaaapdjplbljaaGreat
open Go Go.Proofs Go.RowKit Go.Shelf Go.Proofs.YteaaapdjplbljaaGreat.Hp Go.Proofs.YteaaapdjplbljaaGreat.Ch Go.Proofs.YteaaapdjplbljaaGreat.Ro
theorem cell_b {w w':World} {B:Nat} {p:Addr} {v:Value} (h:Below B w w') (hp:p.block<B) (hc:w.cell? p=some v):w'.cell? p=some v:=(World.cell?_of_block (h.block _ hp)).trans hc
theorem cel_b {w w':World} {B:Nat} {ao:Option Addr} {xs:List Value} (h:Below B w w') (hp:∀y,ao=some y→xs≠[]→y.block<B) (hc:Cel w ao xs):Cel w' ao xs:=by
 intro j u hj
 obtain ⟨b,o,e,h1⟩:=hc j u hj
 exact ⟨b,o,e,cell_b (p:=⟨b,o+j,none⟩) h (hp ⟨b,o,none⟩ e (fun k=>by rw [k] at hj;simp at hj)) h1⟩
def rwR (B:Nat) (z rv lv p ev:Value) (k:Int) (L:List Int):Nat→Value→World→Prop
 |0,v,_=>v=z
 |1,v,_=>v=rv
 |2,v,_=>v=lv
 |3,v,_=>v=.int .i64 k
 |4,v,_=>v=p
 |5,v,_=>v=p
 |6,v,_=>v=ev
 |7,v,W=>∃(a:Option Addr) (c:Nat),v=.slice a L.length c∧W.ownsRow B 3 1 (.slice a L.length c) L.length (L.map encI)
 |8,v,_=>v=z
 |_,_,_=>True
theorem rwR_go {B:Nat} {z rv lv p ev:Value} {k:Int} {L:List Int}:∀(i:Nat) (v:Value) (w w':World),Below w.heap.size w w'→rwR B z rv lv p ev k L i v w→rwR B z rv lv p ev k L i v w'
 |0,_,_,_,_,h|1,_,_,_,_,h|2,_,_,_,_,h|3,_,_,_,_,h|4,_,_,_,_,h|5,_,_,_,_,h|6,_,_,_,_,h|8,_,_,_,_,h=>h
 |7,_,_,_,hb,⟨a,c,h1,h2⟩=>⟨a,c,h1,hp_owns_go h2 hb⟩
 |_+9,_,_,_,_,_=>trivial
theorem rwR_off {B:Nat} {z rv lv p ev:Value} {k:Int} {L:List Int}:∀(i:Nat) (v:Value) (w w':World),i≠7→Below B w w'→B≤w.heap.size→rwR B z rv lv p ev k L i v w→rwR B z rv lv p ev k L i v w'
 |0,_,_,_,_,_,_,h|1,_,_,_,_,_,_,h|2,_,_,_,_,_,_,h|3,_,_,_,_,_,_,h|4,_,_,_,_,_,_,h|5,_,_,_,_,_,_,h|6,_,_,_,_,_,_,h|8,_,_,_,_,_,_,h=>h
 |7,_,_,_,hn,_,_,_=>absurd rfl hn
 |_+9,_,_,_,_,_,_,_=>trivial
set_option maxRecDepth 100000 in
set_option maxHeartbeats 4000000 in
theorem refWhole_any (ts:List RtC) (ao:Option Addr) (cap:Nat) (w:World) (hc:Cel w ao (flatR ts)) (hli:Lie w ts) (hb:(ts.map (·.r)).length≤15∧∀r∈ts.map (·.r),r.es.length≤12∧0≤r.w∧r.w≤1152921504606846976):
  Calls Tryz.prog 20 #[.slice ao ts.length cap] w fun e w'=>∃(a:Option Addr) (c:Nat),e=.returned (.agg #[.slice a (wholeE (ts.map (·.r))).length c,.int .u64 (wholeW (ts.map (·.r)))])∧Cel w' a ((wholeE (ts.map (·.r))).map encI)∧Below w.heap.size w w':=by
 obtain ⟨W,hW⟩:∃W,W=(w.alloc (Obj.cells #[.slice none 0 0,.int .u64 0] 39)).alloc (Obj.cells #[.slice none 0 0,.int .u64 0] 39):=⟨_,rfl⟩
 have hbw:Below w.heap.size w W:=by rw [hW];exact (Below.of_al _ _).al _
 have b0:W.cell? ⟨w.heap.size,0,none⟩=some (.slice none 0 0):=by rw [hW];go_simp
 have b1:W.cell? ⟨w.heap.size,1,none⟩=some (.int .u64 0):=by rw [hW];go_simp
 have b2:W.frozen? ⟨w.heap.size,0,none⟩=false:=by rw [hW];go_simp
 have b3:W.frozen? ⟨w.heap.size,1,none⟩=false:=by rw [hW];go_simp
 have c0:W.cell? ⟨w.heap.size+1,0,none⟩=some (.slice none 0 0):=by rw [hW];go_simp
 have c1:W.cell? ⟨w.heap.size+1,1,none⟩=some (.int .u64 0):=by rw [hW];go_simp
 have z0:W.frozen? ⟨w.heap.size+1,0,none⟩=false:=by rw [hW];go_simp
 have z1:W.frozen? ⟨w.heap.size+1,1,none⟩=false:=by rw [hW];go_simp
 have HSZ:=Lib.hid (show W.heap.size=w.heap.size+2 by rw [hW];simp)
 have HC:=Lib.hid hc
 have HLI:=Lib.hid hli
 have HBN:=Lib.hid hb.2
 have hl15:=hb.1
 rw [List.length_map] at hl15
 have hl2:(ts.length:Int)≤15:=by omega
 have HB:=Lib.hid hbw
 have HW:=Lib.hid hW
 have HRB:=Lib.hid (And.intro b0 (And.intro b1 (And.intro b2 b3)))
 obtain ⟨out,hout⟩:∃out,out=ts.map (·.r):=⟨_,rfl⟩
 rw [←hout] at HBN ⊢
 have HOUT:=Lib.hid hout
 clear hW hbw hc hli hb b0 b1 b2 b3 hout
 go_enter Tryz.func20,Tryz.ntmps20
 go_upto_region 2 with (fail)
 rw [←HW.out]
 go_wp2
 go_loopg [4] ts.length (fun gg v4 wr=>∃(k:Nat) (ra:Option Addr) (rc:Nat),k≤ts.length∧ts.length-k≤gg∧v4=.int .i64 k∧Aside (wr.cell? ⟨w.heap.size+1,0,none⟩=some (.slice ra (wholeE (out.take k)).length rc)∧wr.cell? ⟨w.heap.size+1,1,none⟩=some (.int .u64 (wholeW (out.take k)))∧wr.frozen? ⟨w.heap.size+1,0,none⟩=false∧wr.frozen? ⟨w.heap.size+1,1,none⟩=false)∧
  Aside (wr.ownsRow (w.heap.size+2) 3 1 (.slice ra (wholeE (out.take k)).length rc) (wholeE (out.take k)).length ((wholeE (out.take k)).map encI))∧Aside (Below (w.heap.size+1) W wr)∧Aside (w.heap.size+2≤wr.heap.size))
 case atStart=>exact ⟨0,none,0,Nat.zero_le _,by omega,rfl,⟨c0,c1,z0,z1⟩,World.ownsRow_nil _ _ _ _,Below.refl _ _,by rw [HSZ.out];exact Nat.le_refl _⟩
 case round=>
  obtain ⟨k,ra,rc,hk,hgg,rfl,hc4,hown,hbl,hsz⟩:=hrel
  clear c0 c1 z0 z1
  obtain ⟨c0,c1,z0,z1⟩:=hc4.out
  have HOW0:=Lib.hid hown.out
  have HBL:=Lib.hid hbl.out
  have HSZ:=Lib.hid hsz.out
  clear hc4 hown hbl hsz
  by_cases hlt:k<ts.length
  ·have hlt2:(k:Int)<(ts.length:Int):=by omega
   have hk0:(0:Int)≤(k:Int):=by omega
   obtain ⟨vb,vo,e,y0,y1⟩:=HC.out.rt hlt
   subst e
   have hvl:=World.block_lt_of_cell? _ _ y0
   simp only at hvl
   have hko:k<out.length:=by rw [HOUT.out,List.length_map];exact hlt
   have HTK:=Lib.hid (show ts[k].r=out[k] by have:=HOUT.out;subst this;simp)
   have HLK:=Lib.hid (HLI.out _ (List.getElem_mem hlt))
   have HBK:=Lib.hid (HBN.out _ (List.getElem_mem hko))
   have HE:=Lib.hid (take_wE hko)
   have HWW:=Lib.hid (take_wW hko)
   have hwb:=whole_bnd (n:=12) (out:=out.take k) (fun r hr=>HBN.out r (List.mem_of_mem_take hr))
   rw [List.length_take] at hwb
   have HWB:=Lib.hid (show (wholeE (out.take k)).length≤180∧0≤wholeW (out.take k)∧wholeW (out.take k)≤16140901064495857664 by
    obtain ⟨h1,h2,h3⟩:=hwb
    have hol:out.length=ts.length:=by rw [HOUT.out,List.length_map]
    have:12*min k out.length≤12*15:=Nat.mul_le_mul_left _ (by omega)
    have h4:((min k out.length:Nat):Int)≤14:=by omega
    exact ⟨by omega,h2,by omega⟩)
   have HTF:=Lib.hid (fun (y:Addr) (hy:ts[k].ao=some y) (hne:ts[k].r.es≠[])=>rt_far (t:=ts[k]) HLK.out.1 hne hy)
   rw [HTK.out] at y0 y1 HLK HTF
   obtain ⟨t,ht⟩:∃t,t=ts[k]:=⟨_,rfl⟩
   rw [←ht] at y0 HLK HTK HTF
   generalize out[k]=r at*
   obtain ⟨ta,tc,tr⟩:=t
   simp only at y0 y1 HTK HLK HTF
   obtain rfl:=HTK.out
   obtain ⟨re,rw'⟩:=tr
   simp only at y0 y1 HLK HE HWW HBK HTF
   obtain ⟨E,hE⟩:∃E,E=wholeE (out.take k):=⟨_,rfl⟩
   obtain ⟨X,hX⟩:∃X,X=wholeW (out.take k):=⟨_,rfl⟩
   rw [←hE] at c0 HOW0 HE HWB
   rw [←hX] at c1 HWW HWB
   obtain ⟨E',hE'⟩:∃E',E'=wholeE (out.take (k+1)):=⟨_,rfl⟩
   obtain ⟨X',hX'⟩:∃X',X'=wholeW (out.take (k+1)):=⟨_,rfl⟩
   rw [←hE'] at HE
   rw [←hX'] at HWW
   have HEX:=Lib.hid (And.intro hE' hX')
   have y0:=cell_b HBL.out (show vb<w.heap.size+1 by omega) (cell_later HB.out y0)
   have y1:=cell_b HBL.out (show vb<w.heap.size+1 by omega) (cell_later HB.out y1)
   have HLN:=Lib.hid (show E.length+re.length≤1000 by have:=HWB.out.1;have:=HBK.out.1;omega)
   have HTL:=Lib.hid (show Cel wr ta (re.map encI) from cel_b HBL.out (fun y hy hne=>by have:=HTF.out y hy (fun e=>hne (by rw [e];rfl));omega) (HLK.out.1.go HB.out))
   have HTE:=Lib.hid (show ∀y,ta=some y→re.map encI≠[]→y.block<w.heap.size+2 from fun y hy hne=>by have:=HTF.out y hy (fun e=>hne (by rw [e];rfl));omega)
   have HLE':=Lib.hid (show E.length+re.length=E'.length by rw [HE.out,List.length_append])
   have HVL:=Lib.hid hvl
   clear ht hE hX hE' hX' hwb
   go_upto_region 5 with (fail)
   refine wp_region_app 9 _ _ rfl rfl (rwR (w.heap.size+2) (.pointer (some ⟨w.heap.size+1,0,none⟩)) (.slice ra E.length rc) (.slice (some ⟨vb,vo,none⟩) ts.length cap) (.pointer (some ⟨vb,vo+k*2,none⟩)) (.slice ta re.length tc) (k:Int) (E++re)) 7 (by decide) (w.heap.size+2) HSZ.out (by kernel_rfl) (by kernel_rfl) (by kernel_rfl) (by kernel_rfl) rwR_go rwR_off ?_ ?_
   ·refine ⟨?_,?_,?_,?_,?_,?_,?_,?_,?_,trivial⟩
    ·intro act w' hbe hw0 hd ho K hK
     have q0:act.tmps.getD 3 undef=.pointer (some ⟨w.heap.size+1,0,none⟩):=ho 3 (by kernel_rfl)
     refine .inl ⟨goes_free rfl,?_⟩
     simp [Oper.wp,execOp,Oper.upon,go_sem,Act.eval,q0]
     exact hK _ w' (Below.refl _ _) rfl
    ·intro act w' hbe hw0 hd ho K hK
     have q0:act.tmps.getD 11 undef=.pointer (some ⟨w.heap.size+1,0,none⟩):=hd 0 (by rfl)
     have f0:=cell_b hbe (show w.heap.size+1<w.heap.size+2 by omega) c0
     refine .inl ⟨goes_free rfl,?_⟩
     simp [Oper.wp,execOp,Oper.upon,go_sem,Act.eval,q0,f0]
     exact hK _ w' (Below.refl _ _) rfl
    ·intro act w' hbe hw0 hd ho K hK
     have q0:act.tmps.getD 0 undef=.slice (some ⟨vb,vo,none⟩) ts.length cap:=ho 0 (by kernel_rfl)
     refine .inl ⟨goes_free rfl,?_⟩
     simp [Oper.wp,execOp,Oper.upon,go_sem,Act.eval,q0]
     exact hK _ w' (Below.refl _ _) rfl
    ·intro act w' hbe hw0 hd ho K hK
     have q0:act.tmps.getD 4 undef=.int .i64 (k:Int):=ho 4 (by kernel_rfl)
     refine .inl ⟨goes_free rfl,?_⟩
     simp [Oper.wp,execOp,Oper.upon,go_sem,Act.eval,q0]
     exact hK _ w' (Below.refl _ _) rfl
    ·intro act w' hbe hw0 hd ho K hK
     have q0:act.tmps.getD 13 undef=.slice (some ⟨vb,vo,none⟩) ts.length cap:=hd 2 (by rfl)
     have q1:act.tmps.getD 14 undef=.int .i64 (k:Int):=hd 3 (by rfl)
     refine .inl ⟨goes_free rfl,?_⟩
     simp [Oper.wp,execOp,Oper.upon,go_sem,Act.eval,q0,q1,hlt]
     exact hK _ w' (Below.refl _ _) rfl
    ·intro act w' hbe hw0 hd ho K hK
     have q0:act.tmps.getD 15 undef=.pointer (some ⟨vb,vo+k*2,none⟩):=hd 4 (by rfl)
     refine .inl ⟨goes_free rfl,?_⟩
     simp [Oper.wp,execOp,Oper.upon,go_sem,Act.eval,q0]
     exact hK _ w' (Below.refl _ _) rfl
    ·intro act w' hbe hw0 hd ho K hK
     have q0:act.tmps.getD 16 undef=.pointer (some ⟨vb,vo+k*2,none⟩):=hd 5 (by rfl)
     have f0:=cell_b hbe (show vb<w.heap.size+2 by omega) y0
     refine .inl ⟨goes_free rfl,?_⟩
     simp [Oper.wp,execOp,Oper.upon,go_sem,Act.eval,q0,f0]
     exact hK _ w' (Below.refl _ _) rfl
    ·intro act w' hbe hw0 hd ho K hK
     have q0:act.tmps.getD 12 undef=.slice ra E.length rc:=hd 1 (by rfl)
     have q1:act.tmps.getD 17 undef=.slice ta re.length tc:=hd 6 (by rfl)
     obtain ⟨a2,c2,w2,hr2,ho2,hb2⟩:=run_appAll (P:=Tryz.prog) 25 25 (w.heap.size+2) 3 _ 8 elem_int Tryz.underlying25 ra E.length rc (E.map encI) (hp_owns_go HOW0.out (hw0 rfl)) ta re.length tc (re.map encI) (cel_b hbe HTE.out HTL.out) (by intro u hu;obtain ⟨x,_,rfl⟩:=List.mem_map.1 hu;rfl) ⟨by simp,by have:=HLN.out;omega,by have:=HLN.out;omega,by have:=HSZ.out;have:=hbe.size;omega⟩
     refine .inl ⟨goes_free rfl,?_⟩
     exact Lib.wp_append_run w' (.tmp 12) (.tmp 17) 25 25 rfl _ _ q0 q1 _ w2 hr2 (hK _ w2 hb2 ⟨a2,c2,by rw [List.length_append],by rw [List.map_append,List.length_append];exact ho2⟩)
    ·intro act w' hbe hw0 hd ho K hK
     have q0:act.tmps.getD 3 undef=.pointer (some ⟨w.heap.size+1,0,none⟩):=ho 3 (by kernel_rfl)
     refine .inl ⟨goes_free rfl,?_⟩
     simp [Oper.wp,execOp,Oper.upon,go_sem,Act.eval,q0]
     exact hK _ w' (Below.refl _ _) rfl
   ·intro vs act w7 hb7 hR hon hoff hact
    obtain ⟨a9,c9,e9,how⟩:=hR 7 (by decide)
    have q18:act.tmps.getD 18 undef=.slice a9 (E++re).length c9:=(hon 7 (by decide)).trans e9
    have q19:act.tmps.getD 19 undef=.pointer (some ⟨w.heap.size+1,0,none⟩):=(hon 8 (by decide)).trans (hR 8 (by decide))
    rw [←HE.out] at q18 how e9
    have f0:=cell_b hb7 (show w.heap.size+1<w.heap.size+2 by omega) c0
    have f1:=cell_b hb7 (show w.heap.size+1<w.heap.size+2 by omega) c1
    have g0:=(hb7.frozen (p:=⟨w.heap.size+1,0,none⟩) (by show w.heap.size+1<w.heap.size+2;omega)).trans z0
    have g1:=(hb7.frozen (p:=⟨w.heap.size+1,1,none⟩) (by show w.heap.size+1<w.heap.size+2;omega)).trans z1
    unfold tailWp tailWp
    simp [Oper.wp,execOp,Oper.upon,go_sem,Act.eval,q18,q19,f0,g0]
    rw [hact]
    simp only [puts,dstAt,List.getElem?_cons_zero,List.getElem?_cons_succ,Option.bind_some,Option.getD_some,Act.put,List.length_cons,List.length_nil,Nat.reduceAdd,List.setIfInBounds_toArray,List.set_cons_zero,List.set_cons_succ]
    have HB7:=Lib.hid hb7
    have HOW:=Lib.hid how
    have HZ7:=Lib.hid (show w.heap.size+2≤w7.heap.size by have:=HSZ.out;have:=hb7.size;omega)
    obtain ⟨W8,hW8⟩:∃W8,W8=w7.setCell ⟨w.heap.size+1,0,none⟩ (.slice a9 E'.length c9):=⟨_,rfl⟩
    rw [←hW8]
    have n0:W8.cell? ⟨w.heap.size+1,0,none⟩=some (.slice a9 E'.length c9):=by rw [hW8];exact World.cell?_setCell_same _ _ _ f0
    have n1:W8.cell? ⟨w.heap.size+1,1,none⟩=some (.int .u64 X):=by rw [hW8,World.cell?_setCell_other _ _ _ _ (by simp)];exact f1
    have n2:W8.frozen? ⟨w.heap.size+1,0,none⟩=false:=by rw [hW8];simp [g0]
    have n3:W8.frozen? ⟨w.heap.size+1,1,none⟩=false:=by rw [hW8];simp [g1]
    have m1:W8.cell? ⟨vb,vo+k*2+1,none⟩=some (.int .u64 rw'):=by
     rw [hW8,World.cell?_setCell_far _ _ _ _ (show w.heap.size+1≠vb by omega)]
     exact cell_b hb7 (show vb<w.heap.size+2 by omega) y1
    have HOW8:=Lib.hid (show W8.ownsRow (w.heap.size+2) 3 1 (.slice a9 E'.length c9) E'.length (E'.map encI) by rw [hW8];exact ownsRow_setCell_below how (show w.heap.size+1<w.heap.size+2 by omega) _)
    have HB8:=Lib.hid (show Below (w.heap.size+1) W W8 by rw [hW8];exact (HBL.out.trans (hb7.mono (by omega))).setCell (Nat.le_refl _) _)
    have HZ8:=Lib.hid (show w.heap.size+2≤W8.heap.size by rw [hW8];simpa [World.setCell] using HZ7.out)
    have hx0:=HWB.out.2.1
    have hx1:=HWB.out.2.2
    have hy0:=HBK.out.2.1
    have hy1:=HBK.out.2.2
    have hxx:X+rw'≤18446744073709551615:=by omega
    have hx2:0≤X+rw':=by omega
    clear hR hon hoff hact q18 q19 f0 f1 g0 g1 hW8 hb7 how e9 y0 y1 c0 c1 z0 z1
    generalize vs 0=a0
    generalize vs 1=a1
    generalize vs 2=a2
    generalize vs 3=a3
    generalize vs 4=a4
    generalize vs 5=a5
    generalize vs 6=a6
    go_upto_region 6 with (fail)
    go_region
    go_wp2
    go_roundg (ts.length-(k+1))
    case measure=>omega
    case rel=>
     have hxe:X+rw'=X':=HWW.out.symm
     refine ⟨k+1,a9,c9,by omega,Nat.le_refl _,by go_num,?_,?_,?_,?_⟩
     ·rw [←HEX.out.1,←HEX.out.2,←hxe]
      refine ⟨?_,?_,?_,?_⟩
      ·show World.cell? (World.setCell _ _ _) _=_
       rw [World.cell?_setCell_other _ _ _ _ (by simp)];exact n0
      ·exact World.cell?_setCell_same (u:=.int .u64 X) _ _ _ n1
      ·show World.frozen? (World.setCell _ _ _) _=_
       simp [n2]
      ·show World.frozen? (World.setCell _ _ _) _=_
       simp [n3]
     ·rw [←HEX.out.1]
      exact hp_owns_go (ownsRow_setCell_below HOW8.out (show w.heap.size+1<w.heap.size+2 by omega) _) (Below.refl _ _).drew
     ·exact (HB8.out.setCell (Nat.le_refl _) _).drew
     ·show w.heap.size+2≤(World.setCell _ _ _).heap.size
      simpa [World.setCell] using HZ8.out
  ·obtain rfl:k=ts.length:=by omega
   have HTE:=Lib.hid (show out.take ts.length=out by rw [show ts.length=out.length by rw [HOUT.out,List.length_map]];exact List.take_length)
   rw [HTE.out] at c0 c1 HOW0
   obtain ⟨b0,b1,b2,b3⟩:=HRB.out
   have d0:=cell_b HBL.out (show w.heap.size<w.heap.size+1 by omega) b0
   have d1:=cell_b HBL.out (show w.heap.size<w.heap.size+1 by omega) b1
   have d2:=(HBL.out.frozen (p:=⟨w.heap.size,0,none⟩) (show w.heap.size<w.heap.size+1 by omega)).trans b2
   have d3:=(HBL.out.frozen (p:=⟨w.heap.size,1,none⟩) (show w.heap.size<w.heap.size+1 by omega)).trans b3
   have hcl:Cel wr ra ((wholeE out).map encI):=by
    obtain ⟨a',c',e,h⟩:=Cel.of_owns HOW0.out
    cases e
    exact h
   have HCL:=Lib.hid hcl
   have HLT9:=Lib.hid (fun j hj=>(HOW0.out.lt j hj).1)
   obtain ⟨E,hE⟩:∃E,E=wholeE out:=⟨_,rfl⟩
   obtain ⟨X,hX⟩:∃X,X=wholeW out:=⟨_,rfl⟩
   rw [←hE] at c0 HCL HLT9
   rw [←hX] at c1
   have HEE:=Lib.hid (show wholeE out=E∧wholeW out=X from ⟨hE.symm,hX.symm⟩)
   clear hE hX hcl HOW0
   go_wp2
   obtain ⟨r0,r1⟩:=h2_read (.slice ra E.length rc) (.int .u64 X) d0 d1
   refine bodyPost_ret (v:=.agg #[.slice ra E.length rc,.int .u64 X]) (by simp [results,Tryz.results20,go_sem,r0,r1];try rfl) rfl ?_
   have ho:OffX (· =w.heap.size) wr ((wr.setCell ⟨w.heap.size,0,none⟩ (.slice ra E.length rc)).setCell ⟨w.heap.size,1,none⟩ (.int .u64 X)):=
    (show OffX (· =w.heap.size) wr (wr.setCell ⟨w.heap.size,0,none⟩ (.slice ra E.length rc)) from .set _ rfl).trans (.set _ rfl)
   exact ⟨ra,rc,by rw [HEE.out.1,HEE.out.2],by rw [HEE.out.1];exact cel_off HCL.out ho (fun j hj e=>by have:=HLT9.out j hj;have e2:j=w.heap.size:=e;omega),((HB.out.trans (HBL.out.mono (by omega))).setCell (Nat.le_refl _) _).setCell (Nat.le_refl _) _⟩
end Go.Proofs.YteaaapdjplbljaaGreat
end
section
namespace Go.Proofs.YteaaapdjplbljaaGreat
open Go Go.Proofs Go.RowKit Go.Shelf Go.Proofs.YteaaapdjplbljaaGreat.Hp Go.Proofs.YteaaapdjplbljaaGreat.Ch Go.Proofs.YteaaapdjplbljaaGreat.Ro
theorem cel_set2 {w1:World} {la:Option Addr} {le:List Int} {g:Nat} {a b:Value} (h:Cel w1 la (le.map encI)) (hn:∀y,la=some y→le≠[]→y.block≠g):Cel ((w1.setCell ⟨g,0,none⟩ a).setCell ⟨g,1,none⟩ b) la (le.map encI):=by
 intro j u hj
 obtain ⟨b',o,e,hc⟩:=h j u hj
 have hne:le≠[]:=fun k=>by rw [k] at hj;simp at hj
 have h1:=hn _ e hne
 refine ⟨b',o,e,?_⟩
 rw [World.cell?_setCell_far _ _ _ _ (fun k=>h1 k.symm),World.cell?_setCell_far _ _ _ _ (fun k=>h1 k.symm)]
 exact hc
theorem rl_set {w wr w1:World} {n N lb lo j kk cap g:Nat} {ao:Option Addr} {s t:Int} {a b:Value} (h:w1.cell? ⟨w.heap.size,0,none⟩=some (.int .i64 (n:Int))∧w1.cell? ⟨w.heap.size,1,none⟩=some (.slice ao N cap)∧w1.cell? ⟨lb,lo+kk,none⟩=some (.int .i64 t)∧w1.cell? ⟨lb,lo+j,none⟩=some (.int .i64 s)∧Below wr.heap.size wr w1) (hl:w.heap.size<wr.heap.size∧lb<wr.heap.size) (hg:wr.heap.size≤g):
  ((w1.setCell ⟨g,0,none⟩ a).setCell ⟨g,1,none⟩ b).cell? ⟨w.heap.size,0,none⟩=some (.int .i64 (n:Int))∧((w1.setCell ⟨g,0,none⟩ a).setCell ⟨g,1,none⟩ b).cell? ⟨w.heap.size,1,none⟩=some (.slice ao N cap)∧((w1.setCell ⟨g,0,none⟩ a).setCell ⟨g,1,none⟩ b).cell? ⟨lb,lo+kk,none⟩=some (.int .i64 t)∧((w1.setCell ⟨g,0,none⟩ a).setCell ⟨g,1,none⟩ b).cell? ⟨lb,lo+j,none⟩=some (.int .i64 s)∧Below wr.heap.size wr ((w1.setCell ⟨g,0,none⟩ a).setCell ⟨g,1,none⟩ b):=by
 obtain ⟨h1,h2,h3,h4,h5⟩:=h
 have e1:w.heap.size≠g:=by omega
 have e2:lb≠g:=by omega
 refine ⟨?_,?_,?_,?_,(h5.setCell hg _).setCell hg _⟩
 ·rw [World.cell?_setCell_far _ _ _ _ (fun e=>e1 e.symm),World.cell?_setCell_far _ _ _ _ (fun e=>e1 e.symm)];exact h1
 ·rw [World.cell?_setCell_far _ _ _ _ (fun e=>e1 e.symm),World.cell?_setCell_far _ _ _ _ (fun e=>e1 e.symm)];exact h2
 ·rw [World.cell?_setCell_far _ _ _ _ (fun e=>e2 e.symm),World.cell?_setCell_far _ _ _ _ (fun e=>e2 e.symm)];exact h3
 ·rw [World.cell?_setCell_far _ _ _ _ (fun e=>e2 e.symm),World.cell?_setCell_far _ _ _ _ (fun e=>e2 e.symm)];exact h4
theorem rl_next {w wr w1 w2:World} {n N lb lo j kk cap:Nat} {ao:Option Addr} {s t:Int} (hb:Below w1.heap.size w1 w2) (h:w1.cell? ⟨w.heap.size,0,none⟩=some (.int .i64 (n:Int))∧w1.cell? ⟨w.heap.size,1,none⟩=some (.slice ao N cap)∧w1.cell? ⟨lb,lo+kk,none⟩=some (.int .i64 t)∧w1.cell? ⟨lb,lo+j,none⟩=some (.int .i64 s)∧Below wr.heap.size wr w1):
  w2.cell? ⟨w.heap.size,0,none⟩=some (.int .i64 (n:Int))∧w2.cell? ⟨w.heap.size,1,none⟩=some (.slice ao N cap)∧w2.cell? ⟨lb,lo+kk,none⟩=some (.int .i64 t)∧w2.cell? ⟨lb,lo+j,none⟩=some (.int .i64 s)∧Below wr.heap.size wr w2:=
 ⟨cell_later hb h.1,cell_later hb h.2.1,cell_later hb h.2.2.1,cell_later hb h.2.2.2.1,h.2.2.2.2.st hb⟩
set_option maxRecDepth 100000 in
set_option maxHeartbeats 4000000 in
theorem refLegs_any (n:Nat) (es:List EdgeD) (ao:Option Addr) (cap:Nat) (l:List Int) (lo':Option Addr) (lcap:Nat) (w:World) (hc:Cel w ao (flat es)) (hlc:Cel w lo' (l.map encI)) (hl:l.length≤20)
  (hg:rightG ⟨(n:Int),es⟩=0) (hn:n≤12) (hel:es.length≤40) (hA:∀u v w,arcG es u v w→nodeN n u∧nodeN n v∧1≤w):
  Calls Tryz.prog 17 #[.agg #[.int .i64 (n:Int),.slice ao es.length cap],.slice lo' l.length lcap] w (LegPost n es l w):=by
 obtain ⟨W,hW⟩:∃W,W=w.alloc (Obj.cells #[.int .i64 (n:Int),.slice ao es.length cap] 24):=⟨_,rfl⟩
 have hbw:Below w.heap.size w W:=by rw [hW];exact Below.of_al _ _
 have c0:W.cell? ⟨w.heap.size,0,none⟩=some (.int .i64 (n:Int)):=by rw [hW];go_simp
 have c1:W.cell? ⟨w.heap.size,1,none⟩=some (.slice ao es.length cap):=by rw [hW];go_simp
 have HPT:=Lib.hid (fun s t W (hz:Below w.heap.size w W)=>refPath_any n es ao cap s t W hg hn hel (hc.go hz))
 unfold RoutePost at HPT
 have HC:=Lib.hid hlc
 have HA3:=Lib.hid hA
 have HN:=Lib.hid hn
 have HB:=Lib.hid hbw
 have HW:=Lib.hid hW
 have hl2:(l.length:Int)≤20:=by omega
 clear hc hlc hg hel hA hn hW hbw
 go_enter Tryz.func17,Tryz.ntmps17
 go_upto_region 1 with (fail)
 rw [←HW.out]
 go_wp2
 go_loopg [8,7] l.length (fun gg v8 v7 wr=>∃(k:Nat) (ts:List RtC),1≤k∧(k≤l.length∨k=1)∧l.length-k≤gg∧v8=.int .i64 k∧Aside (LegsOK n es l (k-1) (ts.map (·.r)))∧Aside (TrL w v7 ts wr)∧Aside (Below W.heap.size W wr→True)∧Aside (wr.cell? ⟨w.heap.size,0,none⟩=some (.int .i64 (n:Int))∧wr.cell? ⟨w.heap.size,1,none⟩=some (.slice ao es.length cap)∧v7.ownBlock≠some w.heap.size))
 case atStart=>exact ⟨1,[],Nat.le_refl _,.inr rfl,by omega,rfl,LegsOK.start,⟨World.ownsRow_nil _ _ _ _,(fun t h=>nomatch h),(fun t h=>nomatch h),HB.out,(fun t h=>nomatch h)⟩,(fun _=>trivial),c0,c1,(fun h=>nomatch h)⟩
 case round=>
  obtain ⟨k,ts,hk1,hk,hgg,rfl,hLg,hT,-,hD⟩:=hrel
  have HLg:=Lib.hid hLg.out
  have HT:=Lib.hid hT.out
  obtain ⟨d0,d1,hvo⟩:=hD.out
  have HVO:=Lib.hid hvo
  clear hLg hT hD hvo c0 c1
  have htl:ts.length=k-1:=by have:=HLg.out.1;rwa [List.length_map] at this
  by_cases hlt:k<l.length
  ·have hlt2:(k:Int)<(l.length:Int):=by omega
   have hk0:(0:Int)≤(k:Int):=by omega
   obtain ⟨lb,lo,e,y0⟩:=(HC.out.go HT.out.below).at hlt
   subst e
   obtain ⟨j,rfl⟩:∃j,k=j+1:=⟨k-1,by omega⟩
   have hj:j<l.length:=by omega
   obtain ⟨lb',lo2,e,y1⟩:=(HC.out.go HT.out.below).at hj
   cases e
   have hj2:((j+1:Nat):Int)-1=(j:Int):=by omega
   have hj3:(j:Int)<(l.length:Int):=by omega
   have hj0:(0:Int)≤(j:Int):=by omega
   have HGJ:=Lib.hid (show l.getD j 0=l[j] by simp [List.getD,hj])
   have HGK:=Lib.hid (show l.getD (j+1) 0=l[j+1] by simp [List.getD,hlt])
   have HRJ:=Lib.hid (fun W' (hz:Below wr.heap.size wr W')=>HPT.out l[j] l[j+1] W' (HT.out.below.st hz))
   generalize l[j]=s at*
   generalize l[j+1]=t at*
   have hts:ts.length=j:=by omega
   have htsz:ts.length≤20:=by omega
   have HTL:=Lib.hid (And.intro hts htsz)
   have hwj:IntKind.i64.wrap (j:Int)=(j:Int):=by rw [IntKind.wrap_i64];omega
   obtain ⟨kk,hkk⟩:∃kk:Nat,kk=j+1:=⟨_,rfl⟩
   rw [←hkk] at hj2 hlt2 hk0 y0 hlt ⊢
   have HKK:=Lib.hid hkk
   have HGG:=Lib.hid (show l.length-(kk+1)+1≤gk by omega)
   clear htl hkk hts htsz hk hk1 hgg
   go_upto_region 5 with (fail)
   go_cut [9,10] from 17 to 32 (fun v9 v10 wc=>∃(g:Nat) (la:Option Addr) (le:List Int) (lc:Nat) (x f:Int),v9=.pointer (some ⟨g,0,none⟩)∧v10=.int .i64 f∧wr.heap.size≤g∧wc.cell? ⟨g,0,none⟩=some (.slice la le.length lc)∧wc.cell? ⟨g,1,none⟩=some (.int .u64 x)∧Cel wc la (le.map encI)∧RouteIs n es s t le x f∧(∀y,la=some y→wr.heap.size≤y.block)∧Below wr.heap.size wr wc)
   case first=>
    have HS0:=Lib.hid (show wr.cell? ⟨w.heap.size,0,none⟩=some (.int .i64 (n:Int))∧wr.cell? ⟨w.heap.size,1,none⟩=some (.slice ao es.length cap)∧wr.cell? ⟨lb,lo+kk,none⟩=some (.int .i64 t)∧wr.cell? ⟨lb,lo+j,none⟩=some (.int .i64 s)∧Below wr.heap.size wr wr from ⟨d0,d1,y0,y1,Below.refl _ _⟩)
    have HLT:=Lib.hid (And.intro (World.block_lt_of_cell? _ _ d0) (World.block_lt_of_cell? _ _ y0))
    clear d0 d1 y0 y1
    go_region_held3 (fun w'=>w'.cell? ⟨w.heap.size,0,none⟩=some (.int .i64 (n:Int))∧w'.cell? ⟨w.heap.size,1,none⟩=some (.slice ao es.length cap)∧w'.cell? ⟨lb,lo+kk,none⟩=some (.int .i64 t)∧w'.cell? ⟨lb,lo+j,none⟩=some (.int .i64 s)∧Below wr.heap.size wr w') (first|exact rl_next (Below.refl _ wr).drew HS0.out|exact rl_next ((Below.refl _ wr).drew.st h2) HS0.out|exact rl_next (((Below.refl _ wr).drew.st h2).al _) HS0.out|exact rl_next ((Below.refl _ wr).drew.al _) HS0.out|exact rl_next (((Below.refl _ wr).drew.al _).st h2) HS0.out|exact rl_set (rl_next (((Below.refl _ wr).drew.al _).st h2) HS0.out) HLT.out (Nat.le_refl _)|exact rl_set (rl_next (((Below.refl _ wr).drew.st h2).al _) HS0.out) HLT.out h2.size) (first
     |(go_at_call 63;refine (HRJ.out _ (by first|exact (Below.refl _ wr).drew|exact (Below.refl _ wr).drew.al _)).mono ?_;rintro e w6 ⟨la,le,lc,x,f,rfl,h1,h2,h3,h4⟩;first|(have k0:=cell_later h2 (show (wr.drew.alloc (.cells #[.slice none 0 0,.int .u64 0] 39)).cell? ⟨wr.heap.size,0,none⟩=some (.slice none 0 0) by go_simp);have k1:=cell_later h2 (show (wr.drew.alloc (.cells #[.slice none 0 0,.int .u64 0] 39)).cell? ⟨wr.heap.size,1,none⟩=some (.int .u64 0) by go_simp);have z0:=(h2.frozen (p:=⟨wr.heap.size,0,none⟩) (by simp)).trans (show (wr.drew.alloc (.cells #[.slice none 0 0,.int .u64 0] 39)).frozen? ⟨wr.heap.size,0,none⟩=false by go_simp);have z1:=(h2.frozen (p:=⟨wr.heap.size,1,none⟩) (by simp)).trans (show (wr.drew.alloc (.cells #[.slice none 0 0,.int .u64 0] 39)).frozen? ⟨wr.heap.size,1,none⟩=false by go_simp))|skip))
    all_goals
     go_wp2_with fail
     go_meet
     first
      |exact ⟨wr.heap.size,la,le,lc,x,f,rfl,rfl,Nat.le_refl _,(h2_read _ _ k0 k1).1,(h2_read _ _ k0 k1).2,cel_set2 h1 (fun y hy _ e=>by have:=h4 y hy;simp at this;omega),h3,fun y hy=>by have:=h4 y hy;simp at this;omega,((((Below.refl _ wr).drew.al _).st h2).setCell (Nat.le_refl _) _).setCell (Nat.le_refl _) _⟩
      |exact ⟨w6.heap.size,la,le,lc,x,f,rfl,rfl,h2.size,by go_simp,by go_simp,h1.go (Below.of_al _ _),h3,h4,((Below.refl _ wr).drew.st h2).al _⟩
   case rest=>
    obtain ⟨g,la,le,lc,x,f,rfl,rfl,hge,m0,m1,hcl,hri,hnw,hbc⟩:=hcut
    have HCL:=Lib.hid hcl
    have HRI:=Lib.hid hri
    have HNW:=Lib.hid hnw
    have HBC:=Lib.hid hbc
    have HLT:=Lib.hid (World.block_lt_of_cell? _ _ d0)
    have r0:=cell_later hbc d0
    have r1:=cell_later hbc d1
    clear hcl hri hnw d0 d1 y0 y1 hbc
    by_cases hf:f=0
    ·subst hf
     have HBN:=Lib.hid (routeIs_bnd HA3.out HRI.out)
     have hle:=HBN.out.1
     have hln:=HN.out
     have HZ:=Lib.hid (And.intro HT.out.below.size HBC.out.size)
     have ht1:=HTL.out.2
     go_wp2_with (at_builtin;refine wpList_app w.heap.size 39 _ 2 32 elem_route Tryz.underlying34 u7 ts.length _ ⟨wc.heap.size,0,none⟩ 1 1 [.slice la le.length lc,.int .u64 x] rfl rfl (World.ownsRow.alloc (hp_owns_go HT.out.own HBC.out) _) (rt_two _ _ _ _ rfl) (by intro u hu;simp at hu;rcases hu with rfl|rfl<;>rfl) ⟨rfl,by decide,by omega,by omega,by have:=HZ.out;simp;omega⟩ ?_;intro g5 cap5 w5 hown5 hgrow5 hbl5 hat5 hlt5;(have HO5:=Lib.hid hown5);(have HG5:=Lib.hid hgrow5);(have HAT5:=Lib.hid hat5);clear hown5 hgrow5 hbl5 hat5 hlt5)
     have hz:Below wr.heap.size wr (wc.alloc (Obj.cells #[.slice la le.length lc,.int .u64 x] 39)):=HBC.out.st (Below.of_al _ _)
     have hlc:Cel (wc.alloc (Obj.cells #[.slice la le.length lc,.int .u64 x] 39)) la (le.map encI):=HCL.out.go (Below.of_al _ _)
     have hap:=HT.out.app (t:=⟨la,lc,⟨le,x⟩⟩) hz hlc (show le.length≤1000000 by omega) HNW.out HO5.out HG5.out HAT5.out
     have hls:=HLg.out
     rw [Nat.add_sub_cancel] at hls
     have hls2:=hls.step (l:=le) (x:=x) (by rw [HGJ.out,HGK.out];exact HRI.out)
     have hwl:w.heap.size<wc.heap.size:=Nat.lt_of_lt_of_le HLT.out HBC.out.size
     have s0:=(World.cell?_of_block (a:=⟨w.heap.size,0,none⟩) (HG5.out.block w.heap.size (by simp;omega) (fun e=>HVO.out e.symm))).trans (cell_later (Below.of_al wc (Obj.cells #[.slice la le.length lc,.int .u64 x] 39)) r0)
     have s1:=(World.cell?_of_block (a:=⟨w.heap.size,1,none⟩) (HG5.out.block w.heap.size (by simp;omega) (fun e=>HVO.out e.symm))).trans (cell_later (Below.of_al wc (Obj.cells #[.slice la le.length lc,.int .u64 x] 39)) r1)
     go_roundg (l.length-(kk+1))
     case measure=>have:=HGG.out;omega
     case rel=>exact ⟨kk+1,ts++[(⟨la,lc,⟨le,x⟩⟩:RtC)],by omega,by omega,Nat.le_refl _,by go_num,by rw [List.map_append,Nat.add_sub_cancel,HKK.out];exact hls2,hap,(fun _=>trivial),s0,s1,fun e=>by rcases HAT5.out with k|k;exact HVO.out (k.trans e);(have e2:g5=w.heap.size:=Option.some.inj e;simp at k;omega)⟩
    ·have hf1:(f != 0)=true:=by simpa using hf
     have HF:=Lib.hid hf
     clear hf
     go_wp2
     refine bodyPost_ret (v:=.tuple #[.slice none 0 0,.int .i64 (j:Int),.int .i64 f]) (by simp [results,Tryz.results17,go_sem,hj2];try rfl) rfl ?_
     have hls:=HLg.out
     rw [Nat.add_sub_cancel] at hls
     exact ⟨_,[],(j:Int),f,rfl,⟨none,0,[],rfl,rfl,Cel.nil _ _,(fun t h=>nomatch h),(fun x h=>nomatch h),(fun t h=>nomatch h)⟩,HT.out.below.st HBC.out,.inr ⟨HF.out,rfl,j,rfl,by have:=HKK.out;omega,⟨_,hls⟩,le,x,by rw [HGJ.out,HGK.out];exact HRI.out⟩⟩
  ·have hkl:¬((k:Int)<(l.length:Int)):=by omega
   go_wp2
   obtain ⟨a4,c4,e4,h4,h5⟩:=Cel.of_owns_new HT.out.own
   refine bodyPost_ret (v:=.tuple #[u7,.int .i64 0,.int .i64 0]) (by simp [results,Tryz.results17,go_sem];try rfl) rfl ?_
   have hlk:l.length-1=k-1:=by omega
   exact ⟨_,_,0,0,rfl,⟨a4,c4,ts,e4,rfl,h4,HT.out.lie,h5,HT.out.new⟩,HT.out.below,.inl ⟨rfl,rfl,by rw [hlk];exact HLg.out⟩⟩
end Go.Proofs.YteaaapdjplbljaaGreat
end
section
namespace Go.Proofs.YteaaapdjplbljaaGreat
open Go Go.Proofs Go.RowKit Go.Shelf Go.Proofs.YteaaapdjplbljaaGreat.Hp Go.Proofs.YteaaapdjplbljaaGreat.Ch
def lightG (n:Int) (es:List EdgeD):Bool:=(decide (n≤100)||decide (4096<n))&&decide ((es.length:Int)≤300)
set_option maxHeartbeats 1000000 in
theorem light05_any (n:Int) (es:List EdgeD) (ao:Option Addr) (cap:Nat) (w:World):
  Calls Tryz.prog 31 #[.agg #[.int .i64 n,.slice ao es.length cap]] w fun e w'=>e=.returned (.bool (lightG n es))∧Below w.heap.size w w':=by
 unfold lightG
 by_cases h1:n≤100
 ·rw [decide_eq_true h1,Bool.true_or,Bool.true_and]
  have g1:decide (n≤100)=true:=decide_eq_true h1
  go_enter Tryz.func31,Tryz.ntmps31
  go_wp2
  go_ret
  exact ⟨rfl,Below.of_al _ _⟩
 ·rw [decide_eq_false h1,Bool.false_or]
  have g1:decide (n≤100)=false:=decide_eq_false h1
  by_cases h2:4096<n
  ·rw [decide_eq_true h2,Bool.true_and]
   have g2:decide (n>4096)=true:=decide_eq_true h2
   go_enter Tryz.func31,Tryz.ntmps31
   go_wp2
   go_ret
   exact ⟨rfl,Below.of_al _ _⟩
  ·rw [decide_eq_false h2,Bool.false_and]
   have g2:decide (n>4096)=false:=decide_eq_false h2
   go_enter Tryz.func31,Tryz.ntmps31
   go_wp2
   go_ret
   exact ⟨rfl,Below.of_al _ _⟩
def light20 (n:Int) (es:List EdgeD):Bool:=lightG n es&&(decide (n≤12)||decide (4096<n))&&decide ((es.length:Int)≤40)
theorem light20_small {g:GD} (h:light20 g.n g.es=true):(rightG g=0→g.n≤12)∧g.es.length≤40:=by
 unfold light20 at h
 simp only [Bool.and_eq_true,Bool.or_eq_true,decide_eq_true_eq] at h
 refine ⟨fun hr=>?_,by omega⟩
 have:=right_n hr
 omega
set_option maxHeartbeats 1000000 in
theorem light20_any (n:Int) (es:List EdgeD) (ao:Option Addr) (cap:Nat) (w:World):
  Calls Tryz.prog 11 #[.agg #[.int .i64 n,.slice ao es.length cap]] w fun e w'=>e=.returned (.bool (light20 n es))∧Below w.heap.size w w':=by
 have HL:=Lib.hid (light05_any n es ao cap)
 unfold light20
 obtain ⟨W,hW⟩:∃W,W=w.alloc (Obj.cells #[.int .i64 n,.slice ao es.length cap] 24):=⟨_,rfl⟩
 have hbw:Below w.heap.size w W:=by rw [hW];exact Below.of_al _ _
 have c0:W.cell? ⟨w.heap.size,0,none⟩=some (.int .i64 n):=by rw [hW];go_simp
 have c1:W.cell? ⟨w.heap.size,1,none⟩=some (.slice ao es.length cap):=by rw [hW];go_simp
 have HB:=Lib.hid hbw
 have HW:=Lib.hid hW
 clear hbw hW
 cases hb:lightG n es with
 |false=>
  rw [hb] at HL
  clear hb
  go_enter Tryz.func11,Tryz.ntmps11
  go_upto_region 1 with (fail)
  rw [←HW.out]
  go_wp2_with (go_at_call 31;refine (HL.out _).mono ?_;rintro e w1 ⟨rfl,hb1⟩;(have HB1:=Lib.hid hb1);clear hb1)
  go_ret
  exact ⟨by simp,HB.out.st HB1.out⟩
 |true=>
  rw [hb] at HL
  clear hb
  by_cases h1:n≤12
  ·go_enter Tryz.func11,Tryz.ntmps11
   go_upto_region 1 with (fail)
   rw [←HW.out]
   go_wp2_with (go_at_call 31;refine (HL.out _).mono ?_;rintro e w1 ⟨rfl,hb1⟩;(have d0:=cell_later hb1 c0);(have d1:=cell_later hb1 c1);(have HB1:=Lib.hid hb1);clear hb1)
   go_ret
   exact ⟨by simp [h1],HB.out.st HB1.out⟩
  ·by_cases h2:4096<n
   ·go_enter Tryz.func11,Tryz.ntmps11
    go_upto_region 1 with (fail)
    rw [←HW.out]
    go_wp2_with (go_at_call 31;refine (HL.out _).mono ?_;rintro e w1 ⟨rfl,hb1⟩;(have d0:=cell_later hb1 c0);(have d1:=cell_later hb1 c1);(have HB1:=Lib.hid hb1);clear hb1)
    go_ret
    exact ⟨by simp [h1,h2],HB.out.st HB1.out⟩
   ·go_enter Tryz.func11,Tryz.ntmps11
    go_upto_region 1 with (fail)
    rw [←HW.out]
    go_wp2_with (go_at_call 31;refine (HL.out _).mono ?_;rintro e w1 ⟨rfl,hb1⟩;(have d0:=cell_later hb1 c0);(have d1:=cell_later hb1 c1);(have HB1:=Lib.hid hb1);clear hb1)
    go_ret
    exact ⟨by simp [h1,h2];intro h;omega,HB.out.st HB1.out⟩
theorem BltPost.two {g:GD} {k:Int} {w w':World} {e:Ending} (h:BltPost g k w e w'):∃p,e=.returned (.tuple #[.pointer p,.int .i64 k])∧Below w.heap.size w w'∧(k=0→rightG g=0→g.n≤12→∃hb R S ro,p=some ⟨hb,0,none⟩∧BH w' hb g.n.toNat g.es R S ro):=by
 have h0:=h
 obtain ⟨h1|h1,h2⟩:=h
 ·obtain ⟨rfl,hb,R,S,ro,e,hm,ho⟩:=h1
  exact ⟨_,e,h2,fun _ hg hn=>by
   have:=right_n hg
   exact ⟨hb,R,S,ro,rfl,⟨hm,ho,by omega,by omega⟩⟩⟩
 ·exact ⟨none,h1.2,h2,fun hk=>absurd hk h1.1⟩
end Go.Proofs.YteaaapdjplbljaaGreat
end
section
namespace Go.Proofs.YteaaapdjplbljaaGreat
open Go Go.Proofs Go.RowKit Go.Shelf Go.Proofs.YteaaapdjplbljaaGreat.Hp Go.Proofs.YteaaapdjplbljaaGreat.Ch
end Go.Proofs.YteaaapdjplbljaaGreat
end
section
namespace Go.Proofs.YteaaapdjplbljaaGreat
open Go Go.Proofs Go.RowKit Go.Shelf Go.Proofs.YteaaapdjplbljaaGreat.Hp Go.Proofs.YteaaapdjplbljaaGreat.Ch
end Go.Proofs.YteaaapdjplbljaaGreat
end
section
namespace Go.Proofs.YteaaapdjplbljaaGreat
open Go.Proofs Go.RowKit Go.Shelf
end Go.Proofs.YteaaapdjplbljaaGreat
end
section
namespace Go.Proofs.YteaaapdjplbljaaGreat
open Go Go.Proofs Go.RowKit Go.Shelf Go.Proofs.YteaaapdjplbljaaGreat.Hp Go.Proofs.YteaaapdjplbljaaGreat.Ch
theorem BltPost.nil {g:GD} {k:Int} {w w':World} {e:Ending} (h:BltPost g k w e w') (hk:k≠0):e=.returned (.tuple #[.pointer none,.int .i64 k])∧Below w.heap.size w w':=by
 obtain ⟨h1|h1,h2⟩:=h
 ·exact absurd h1.1 hk
 ·exact ⟨h1.2,h2⟩
theorem build_right {g:GD} {h s:Int} {r:List Int} (k:buildB g h s r=0):rightG g=0:=by
 unfold buildB at k
 split at k
 ·cases k
 ·rename_i hn
  exact Decidable.byContradiction fun e=>hn (.inl e)
structure QB1 (W:World) (b:Nat) (g:GD) (ao:Option Addr) (cap:Nat) (h1 s1:Int) (ro:Option Addr) (r:List Int) (rc:Nat):Prop where
 g0:W.cell? ⟨b,0,none⟩=some (.int .i64 g.n)
 g1:W.cell? ⟨b,1,none⟩=some (.slice ao g.es.length cap)
 a0:W.cell? ⟨b+1,0,none⟩=some (.int .i64 h1)
 a1:W.cell? ⟨b+1,1,none⟩=some (.int .i64 s1)
 a2:W.cell? ⟨b+1,2,none⟩=some (.slice ro r.length rc)
theorem QB1.go {W W':World} {b:Nat} {g:GD} {ao:Option Addr} {cap:Nat} {h1 s1:Int} {ro:Option Addr} {r:List Int} {rc:Nat} (h:QB1 W b g ao cap h1 s1 ro r rc) (hz:Below W.heap.size W W'):QB1 W' b g ao cap h1 s1 ro r rc:=
 ⟨cell_later hz h.g0,cell_later hz h.g1,cell_later hz h.a0,cell_later hz h.a1,cell_later hz h.a2⟩
end Go.Proofs.YteaaapdjplbljaaGreat
end
