/- Walk of package simple: the inner function of Each, where it has come to the end. -/
import Derived.Test.YteaaapdjplbljaaProg
import Derived.Test.YteaaapdjplbljaaVa26
import Derived.Test.YteaaapdjplbljaaVa27
set_option linter.unusedVariables false
set_option linter.unusedSimpArgs false
set_option linter.unnecessarySimpa false
namespace Go.Proofs.Yteaaapdjplbljaa.Sm
open Go Go.Proofs Go.RowKit Go.Shelf Go.Proofs.Yteaaapdjplbljaa Go.Proofs.Yteaaapdjplbljaa.Ad Go.Proofs.Yteaaapdjplbljaa.Hp Go.Proofs.Yteaaapdjplbljaa.Ch
def tlR (K:SmK) (b L:Nat) (rv:Value) (row:List Int) (w:Int):Nat→Value→World→Prop
 |0,v,_=>v=.func (.yield K.yl) #[] #[]
 |1,v,_=>v=.pointer (some ⟨b,0,none⟩)
 |2,v,_=>v=rv
 |3,v,w'=>w'.ownsRow L 3 1 v row.length (row.map encI)
 |4,v,_=>v=.pointer (some ⟨b,1,none⟩)
 |5,v,_=>v=.int .u64 w
 |_,v,w'=>∃u,v=.agg #[u,.int .u64 w]∧w'.ownsRow L 3 1 u row.length (row.map encI)
theorem tlR_go {K:SmK} {b L:Nat} {rv:Value} {row:List Int} {w:Int}:∀(i:Nat) (v:Value) (w1 w2:World),Below w1.heap.size w1 w2→tlR K b L rv row w i v w1→tlR K b L rv row w i v w2
 |0,_,_,_,_,h=>h
 |1,_,_,_,_,h=>h
 |2,_,_,_,_,h=>h
 |3,_,_,_,hb,h=>hp_owns_go h hb
 |4,_,_,_,_,h=>h
 |5,_,_,_,_,h=>h
 |_+6,_,_,_,hb,⟨u,e,h⟩=>⟨u,e,hp_owns_go h hb⟩
theorem owns_new {w:World} {base:Nat} {e:TypeId} {size n:Nat} {v:Value} {xs:List Value} (h:w.ownsRow base e size v n xs):
  ∃ao cap,v=.slice ao n cap∧Cel w ao xs∧∀y,ao=some y→base≤y.block∧y=⟨y.block,0,none⟩:=by
 obtain ⟨ao,cap,rfl,hc⟩:=Cel.of_owns h
 refine ⟨ao,cap,rfl,hc,fun y hy=>?_⟩
 subst hy
 rcases h.2 with ⟨h1,_⟩|⟨g,c,cur,h1,h2,_⟩
 ·cases h1
 ·cases h1
  exact ⟨h2,rfl⟩
theorem own_off {X:Nat→Prop} {w w':World} {base n s:Nat} {e:TypeId} {v:Value} {xs:List Value} (h:w.ownsRow base e s v n xs) (ho:OffX X w w') (hX:∀k,v.ownBlock=some k→¬X k):w'.ownsRow base e s v n xs:=by
 refine ⟨h.1,?_⟩
 rcases h.2 with h1|⟨g,cap,cur,h1,h2,hg,hr⟩
 ·exact .inl h1
 ·subst h1
  exact .inr ⟨g,cap,cur,rfl,h2,by rw [ho.block _ (Array.getElem?_eq_some_iff.1 hg).1 (hX _ rfl)];exact hg,hr⟩
theorem _root_.Go.Proofs.Yteaaapdjplbljaa.OffX.thenN {X Y:Nat→Prop} {a b c:World} (h:OffX X a b) (k:OffX Y b c) (hY:∀j,Y j→X j∨a.heap.size≤j):OffX X a c:=
 ⟨k.os.trans h.os,k.tape.trans h.tape,k.output.trans h.output,Nat.le_trans h.size k.size,fun i hi hn=>(k.block i (by have:=h.size;omega) (fun e=>by rcases hY i e with e|e;exact hn e;omega)).trans (h.block i hi hn)⟩
theorem own_lower {w:World} {b b' n:Nat} {e:TypeId} {v:Value} {xs:List Value} (h:w.ownsRow b' e 1 v n xs) (hb:b≤b'):w.ownsRow b e 1 v n xs:=by
 refine ⟨h.1,?_⟩
 rcases h.2 with h1|⟨g,cap,cur,h1,h2,hr⟩
 ·exact .inl h1
 ·exact .inr ⟨g,cap,cur,h1,Nat.le_trans hb h2,hr⟩
set_option maxRecDepth 100000 in
set_option maxHeartbeats 4000000 in
theorem grow_end (K:SmK) (Kp:Nat→Prop) (T:List RtD) (J Jx:List RtC→(Nat→Prop)→World→Prop) (hKt:Kp K.tb) (hKp:∀k,Kp k→k<K.B) (hJ:∀pre Pr W1 W2,J pre Pr W1→OffX (fun k=>¬Pr k) W1 W2→J pre Pr W2) (hJx:∀pre Pr W1 W2,Jx pre Pr W1→OffX (fun k=>¬Pr k) W1 W2→Jx pre Pr W2) (hY:∀m,YieldOK K Kp T m J Jx)
  (v:Nat) (m0 row:List Int) (rv:Value) (w:Int) (pre:List RtC) (Pr:Nat→Prop) (W:World) (hv:(v:Int)=K.t) (hrl:row.length≤5000) (hT:pre.map (·.r)++[⟨row,w⟩] <+:T)
  (hK:K.Con W Pr) (hS:K.St W m0) (hO:W.ownsRow K.B 3 1 rv row.length (row.map encI)) (hsep:∀k,rv.ownBlock=some k→¬Pr k∧k≠K.M∧¬K.C k) (hJ0:J pre Pr W):
  Calls Try.prog 41 (#[.int .i64 (v:Int),.agg #[rv,.int .u64 w]]++K.caps) W (SmPost K Kp T J Jx m0 row rv pre [⟨row,w⟩] Pr W):=by
 obtain ⟨V,hV⟩:∃V,V=((W.alloc (Obj.cells #[.int .i64 (v:Int)] 3)).alloc (Obj.cells #[rv,.int .u64 w] 39)).alloc (Obj.cells #[.bool false] 4):=⟨_,rfl⟩
 have hbV:Below W.heap.size W V:=by rw [hV];exact ((Below.of_al _ _).al _).al _
 have hzV:V.heap.size=W.heap.size+3:=by rw [hV];simp
 have x0:V.cell? ⟨W.heap.size,0,none⟩=some (.int .i64 (v:Int)):=by rw [hV];go_simp
 have x1:V.cell? ⟨W.heap.size+1,0,none⟩=some rv:=by rw [hV];go_simp
 have x2:V.cell? ⟨W.heap.size+1,1,none⟩=some (.int .u64 w):=by rw [hV];go_simp
 have x3:V.cell? ⟨W.heap.size+1+1,0,none⟩=some (.bool false):=by rw [hV];go_simp
 have x4:V.frozen? ⟨W.heap.size+1+1,0,none⟩=false:=by rw [hV];go_simp
 have HKV:=Lib.hid (hK.go hbV)
 have HSV:=Lib.hid (hS.off (X:=fun _=>False) (.of_below hbV) (fun h=>h))
 have HOV:=Lib.hid (hp_owns_go hO hbV)
 have HJV:=Lib.hid (hJ _ _ _ _ hJ0 (.of_below hbV))
 have HBV:=Lib.hid hbV
 have HZV:=Lib.hid hzV
 have HV:=Lib.hid hV
 have HPB:=Lib.hid hK.pb
 have HSZ:=Lib.hid hK.sz
 have HOW:=Lib.hid hO
 have HVV:=Lib.hid hv
 have HSW:=Lib.hid hS
 clear hV hbV hzV hK hS hO hJ0 hv
 refine (callsIn_wide (n:=4)).1 (callsIn_of_wp_marks Try.func41 rfl trivial (wpIn_wide.2 ?_) rfl)
 unfold SmK.caps
 simp only [Try.ntmps41,List.size_toArray,List.length_cons,List.length_nil,Nat.reduceAdd,Nat.reduceSub,Array.replicate_succ,Array.replicate_zero,List.push_toArray,List.append_toArray,List.nil_append,List.cons_append]
 go_upto_region 1 with (fail)
 rw [←HV.out]
 have ct:=HKV.out.ct
 rw [←HVV.out] at ct
 go_upto_region 2 with (fail)
 obtain ⟨ao,cap,e,hc⟩:=Cel.of_owns HOV.out
 subst e
 have HCL:=Lib.hid (fun W' (hz:Below V.heap.size V W')=>cloneIO_any row ao cap W' (hc.go hz) (by omega))
 refine (wpIn_wide (n:=4)).1 (wpIn_region_own (by kernel_rfl) (wpAnyIn_appX 7 _ _ rfl rfl (tlR K (W.heap.size+1) V.heap.size (.slice ao row.length cap) row w) 3 (by decide) (fun _=>False) (by kernel_rfl) (by kernel_rfl) (by kernel_rfl) tlR_go (fun i v w1 w2 _ _ ho h=>tlR_go i v w1 w2 (ho.below (Nat.le_refl _) (fun k h=>h.elim)) h) ?hop ?hend))
 case hop=>
  refine ⟨?_,?_,?_,?_,?_,?_,?_,trivial⟩
  ·intro act w' hbe hw0 hd ho KK hK
   have q0:act.tmps.getD 3 undef=.pointer (some ⟨K.yb,0,none⟩):=ho 3 (by kernel_rfl)
   have f0:=hbe.cell HKV.out.cy (fun h=>h)
   refine .inl ⟨goes_free rfl,?_⟩
   simp [Oper.wp,execOp,Oper.upon,go_sem,Act.eval,q0,f0]
   exact hK _ w' (Below.refl _ _) rfl
  ·intro act w' hbe hw0 hd ho KK hK
   have q0:act.tmps.getD 8 undef=.pointer (some ⟨W.heap.size+1,0,none⟩):=ho 8 (by kernel_rfl)
   refine .inl ⟨goes_free rfl,?_⟩
   simp [Oper.wp,execOp,Oper.upon,go_sem,Act.eval,q0]
   exact hK _ w' (Below.refl _ _) rfl
  ·intro act w' hbe hw0 hd ho KK hK
   have q0:act.tmps.getD 16 undef=.pointer (some ⟨W.heap.size+1,0,none⟩):=hd 1 (by rfl)
   have f0:=hbe.cell x1 (fun h=>h)
   refine .inl ⟨goes_free rfl,?_⟩
   simp [Oper.wp,execOp,Oper.upon,go_sem,Act.eval,q0,f0]
   exact hK _ w' (Below.refl _ _) rfl
  ·intro act w' hbe hw0 hd ho KK hK
   have q0:act.tmps.getD 17 undef=.slice ao row.length cap:=hd 2 (by rfl)
   refine .inl ⟨goes_free rfl,?_⟩
   simp [Oper.wp,execOp,Oper.upon,go_sem,Act.eval,q0]
   refine (HCL.out w' (hbe.below (Nat.le_refl _) (fun k h=>h.elim))).mono ?_
   rintro e w9 ⟨u,rfl,h1,h2⟩
   exact hK u w9 (OffX.of_below h2) (own_lower h1 hbe.size)
  ·intro act w' hbe hw0 hd ho KK hK
   have q0:act.tmps.getD 8 undef=.pointer (some ⟨W.heap.size+1,0,none⟩):=ho 8 (by kernel_rfl)
   refine .inl ⟨goes_free rfl,?_⟩
   simp [Oper.wp,execOp,Oper.upon,go_sem,Act.eval,q0]
   exact hK _ w' (Below.refl _ _) rfl
  ·intro act w' hbe hw0 hd ho KK hK
   have q0:act.tmps.getD 19 undef=.pointer (some ⟨W.heap.size+1,1,none⟩):=hd 4 (by rfl)
   have f0:=hbe.cell x2 (fun h=>h)
   refine .inl ⟨goes_free rfl,?_⟩
   simp [Oper.wp,execOp,Oper.upon,go_sem,Act.eval,q0,f0]
   exact hK _ w' (Below.refl _ _) rfl
  ·intro act w' hbe hw0 hd ho KK hK
   have q0:w'.ownsRow V.heap.size 3 1 (act.tmps.getD 18 undef) row.length (row.map encI):=hd 3 (by rfl)
   have q1:act.tmps.getD 20 undef=.int .u64 w:=hd 5 (by rfl)
   refine .inl ⟨goes_free rfl,?_⟩
   obtain ⟨ua,uc,q2,-⟩:=Cel.of_owns q0
   rw [q2] at q0
   have q3:act.tmps[18]?.getD undef=.slice ua row.length uc:=by rw [←Array.getD_eq_getD_getElem?];exact q2
   have q4:act.tmps[20]?.getD undef=.int .u64 w:=by rw [←Array.getD_eq_getD_getElem?];exact q1
   simp [Oper.wp,execOp,Oper.upon,go_sem,Act.eval,q3,q4]
   exact hK _ w' (Below.refl _ _) ⟨_,rfl,q0⟩
 case hend=>
  intro vs act w' hbe hR hact hoff hpu
  have v0:vs 0=.func (.yield K.yl) #[] #[]:=hR 0 (by decide)
  simp only [puts,dstAt,List.getElem?_cons_zero,List.getElem?_cons_succ,Option.bind_some,Option.getD_some,Act.put,List.length_cons,List.length_nil,Nat.reduceAdd,List.setIfInBounds_toArray,List.set_cons_zero,List.set_cons_succ] at hpu
  subst hpu
  obtain ⟨u,hu,hou⟩:∃u,vs 6=.agg #[u,.int .u64 w]∧w'.ownsRow V.heap.size 3 1 u row.length (row.map encI):=hR 6 (by decide)
  obtain ⟨ua,uc,rfl,huc,hub⟩:=owns_new hou
  have hbk:∀k,bkR ⟨ua,uc,⟨row,w⟩⟩ k→¬Pr k∧W.heap.size+3≤k∧k<w'.heap.size:=by
   rintro k ⟨a,ha,rfl⟩
   have h1:=(hub a ha).1
   have h2:=HZV.out
   have ha':ua=some a:=ha
   subst ha'
   refine ⟨fun hp=>by have:=HPB.out _ hp;omega,by omega,(hou.lt a.block rfl).2⟩
  obtain ⟨fn9,tm9,as9,bo9,hy,hRd⟩:=hY 3 pre Pr ⟨ua,uc,⟨row,w⟩⟩ w' (hJ _ _ _ _ HJV.out (hbe.mono fun k h=>h.elim)) (by rw [List.map_append];exact hT) huc (fun k hk=>⟨(hbk k hk).1,by have:=(hbk k hk).2.1;have:=HSZ.out;omega,(hbk k hk).2.2⟩) (by have:=hbe.size;have:=HZV.out;have:=HSZ.out;omega)
  dsimp only [encSR] at hy
  refine .inl ⟨goes_free rfl,fun _ _=>trivial,?_⟩
  simp [Oper.semAt,execOp,go_sem,Act.eval,v0,hu,hy,Oper.uponIn]
  have HBK:=Lib.hid hbk
  have HHW:=Lib.hid (OffX.below hbe (Nat.le_refl _) (fun k h=>h.elim))
  have y0:=hbe.cell x3 (fun h=>h)
  have y1:w'.frozen? ⟨W.heap.size+1+1,0,none⟩=false:=(hbe.frozen (World.block_lt_of_cell? _ _ x3) (fun h=>h)).trans x4
  refine hRd.mono ?_
  rintro e w2 ⟨Pr',hgr,ho2,hcs⟩
  have hfz:¬Pr (W.heap.size+1+1):=fun h=>by have:=HPB.out _ h;omega
  have z0:=ho2.cell y0 (fun h=>hfz h.1)
  have z1:w2.frozen? ⟨W.heap.size+1+1,0,none⟩=false:=(ho2.frozen (World.block_lt_of_cell? _ _ y0) (fun h=>hfz h.1)).trans y1
  obtain ⟨bb,rfl,hc2⟩:∃bb,e=.returned (.bool bb)∧((bb=true∧J (pre++[⟨ua,uc,⟨row,w⟩⟩]) Pr' w2)∨(bb=false∧Jx (pre++[⟨ua,uc,⟨row,w⟩⟩]) Pr' w2)):=by
   rcases hcs with ⟨rfl,h⟩|⟨rfl,h⟩
   ·exact ⟨true,rfl,.inl ⟨rfl,h⟩⟩
   ·exact ⟨false,rfl,.inr ⟨rfl,h⟩⟩
  refine .inl ⟨goes_free rfl,fun _ _=>trivial,?_⟩
  simp [Oper.semAt,execOp,go_sem,Act.eval,z0,z1,Oper.uponIn,Act.put]
  show Exit.then _ _ Exit.normal _ _
  have HGR:=Lib.hid hgr
  have HO2:=Lib.hid ho2
  have HCS:=Lib.hid hc2
  have HFZ:=Lib.hid hfz
  have HSP:=Lib.hid hsep
  have HZS:=Lib.hid hbe.size
  clear hgr ho2 hcs hc2 hfz hsep y0 y1 hRd hbe hbk hR hact hoff
  go_wp2
  try simp only [Exit.noGoto]
  refine ⟨.bool bb,?_,?_⟩
  ·have z2:(w2.setCell ⟨W.heap.size+1+1,0,none⟩ (.bool bb)).cell? ⟨W.heap.size+1+1,0,none⟩=some (.bool bb):=World.cell?_setCell_same _ _ _ z0
   simp [results,Try.results41,go_sem,z2]
  ·have hst:OffX (· =W.heap.size+1+1) w2 (w2.setCell ⟨W.heap.size+1+1,0,none⟩ (.bool bb)):=.set _ rfl
   have hz3:=HZV.out
   have hz4:=HZS.out
   have hz5:=HO2.out.size
   have hW2:OffX (fun k=>Pr k∧¬Kp k) W w2:=(OffX.of_below (HBV.out.st HHW.out)).trans HO2.out
   have hW3:OffX (fun k=>Pr k∧¬Kp k) W (w2.setCell ⟨W.heap.size+1+1,0,none⟩ (.bool bb)):=hW2.thenN hst (fun k e=>.inr (by have e:k=W.heap.size+1+1:=e;omega))
   have hnp:¬Pr' (W.heap.size+1+1):=fun h=>by
    rcases (HGR.out _ h).1 with h1|h1|h1
    ·exact HFZ.out h1
    ·have:=(HBK.out _ h1).2.1;omega
    ·omega
   refine ⟨Pr',fun k hk=>⟨?_,Nat.lt_of_lt_of_le (HGR.out k hk).2 hst.size⟩,hW3.mono (fun k hk=>.inr (.inr hk)),?_,?_,?_⟩
   ·rcases (HGR.out k hk).1 with h1|h1|h1
    ·exact .inl h1
    ·exact .inr (by have:=(HBK.out _ h1).2.1;omega)
    ·exact .inr (by omega)
   ·exact own_off HOW.out hW3 (fun k hk h=>(HSP.out k hk).1 h.1)
   ·have h9:K.St W m0:=HSW.out
    exact h9.off hW3 (fun h=>HKV.out.mp h.1)
   ·rcases HCS.out with ⟨rfl,h⟩|⟨rfl,h⟩
    ·exact .inl ⟨rfl,[_],rfl,hJ _ _ _ _ h (hst.mono fun k e=>by rw [show k=_ from e];exact hnp)⟩
    ·exact .inr ⟨rfl,pre++[⟨ua,uc,⟨row,w⟩⟩],by rw [List.map_append];exact hT,hJx _ _ _ _ h (hst.mono fun k e=>by rw [show k=_ from e];exact hnp)⟩
end Go.Proofs.Yteaaapdjplbljaa.Sm
