/- Parts; no condition. -/
import Derived.Test.YteaaapdjplbljaaGreatVb45
import Derived.Deep.CutBlock
set_option linter.unusedVariables false
set_option linter.unusedSimpArgs false
set_option linter.unnecessarySimpa false
set_option maxRecDepth 100000
set_option maxHeartbeats 8000000
namespace Go.Proofs.YteaaapdjplbljaaGreat
namespace Vi
open Go Go.Proofs Go.RowKit Go.Shelf Hp Ch Ad Ro Dj
theorem Ou:Gm Tryz.prog 66 (.agg #[.int .i64 0,.slice none 0 0,.int .u64 0,.int .i64 0]) 4 48:=⟨by kernel_rfl,rfl,by decide⟩
def raR (L n:Nat) (es:List EdgeD) (g:Value) (s t v:Int) (lv pv:Value) (i:Int):Nat->Value->World->Prop
 |0,u,_=>u=g
 |1,u,_=>u=.int .i64 s
 |2,u,_=>u=lv
 |3,u,_=>u=.int .i64 i
 |4,u,_=>u=pv
 |5,u,_=>u=.int .i64 v
 |6,u,_=>u=.int .i64 t
 |7,u,w=>∃x k,u=.tuple #[.agg #[.int .i64 x.v,.slice x.ao x.es.length x.cap,.int .u64 x.w,.int .i64 x.c],.int .i64 k]/\Cel w x.ao (x.es.map Ai)/\ByX n es s t v x/\∀y,x.ao=some y->L<=y.block/\∃r,w.heap[y.block]? =some (.cells r 3 (0,0))
 |8,u,w=>∃x k,u=.tuple #[.agg #[.int .i64 x.v,.slice x.ao x.es.length x.cap,.int .u64 x.w,.int .i64 x.c],.int .i64 k]/\Cel w x.ao (x.es.map Ai)/\ByX n es s t v x/\∀y,x.ao=some y->L<=y.block/\∃r,w.heap[y.block]? =some (.cells r 3 (0,0))
 |9,u,w=>∃x:VD,u=.agg #[.int .i64 x.v,.slice x.ao x.es.length x.cap,.int .u64 x.w,.int .i64 x.c]/\Cel w x.ao (x.es.map Ai)/\ByX n es s t v x/\∀y,x.ao=some y->L<=y.block/\∃r,w.heap[y.block]? =some (.cells r 3 (0,0))
 |10,u,_=>∃k,u=.int .i64 k
 |_,u,w=>∃b,u=.pointer (some ⟨b,0,none⟩)/\L<=b/\w.heap[b]? =some (.cells #[.int .i64 0,.slice none 0 0,.int .u64 0,.int .i64 0] 66 (0,0))
theorem At9 {L:Nat} {ao:Option Addr} {w w':World} (hb:Below w.heap.size w w') (h:∀y,ao=some y->L<=y.block/\∃r,w.heap[y.block]? =some (.cells r 3 (0,0))):∀y,ao=some y->L<=y.block/\∃r,w'.heap[y.block]? =some (.cells r 3 (0,0)):=fun y hy=>by
 obtain ⟨h1,r,h2⟩:=h y hy;exact ⟨h1,r,(hb.block _ (Bm7.1 h2).1).trans h2⟩
theorem Bi5 {L n:Nat} {es:List EdgeD} {g:Value} {s t v:Int} {lv pv:Value} {i:Int}:∀j u w' w'',Below w'.heap.size w' w''->raR L n es g s t v lv pv i j u w'->raR L n es g s t v lv pv i j u w''
 |0,_,_,_,_,h=>h
 |1,_,_,_,_,h=>h
 |2,_,_,_,_,h=>h
 |3,_,_,_,_,h=>h
 |4,_,_,_,_,h=>h
 |5,_,_,_,_,h=>h
 |6,_,_,_,_,h=>h
 |7,_,_,_,hb,⟨x,k,e,h,h2,r⟩=>⟨x,k,e,h.go hb,h2,At9 hb r⟩
 |8,_,_,_,hb,⟨x,k,e,h,h2,r⟩=>⟨x,k,e,h.go hb,h2,At9 hb r⟩
 |9,_,_,_,hb,⟨x,e,h,h2,r⟩=>⟨x,e,h.go hb,h2,At9 hb r⟩
 |10,_,_,_,_,h=>h
 |_+11,_,_,_,hb,⟨b,e,h,k⟩=>⟨b,e,h,(hb.block _ (Bm7.1 k).1).trans k⟩
def Bl7 (n:Nat) (es:List EdgeD) (s t v:Int) (wr w:World) (b:Nat) (x:VD):Prop:=
 Below wr.heap.size wr w/\ByX n es s t v x/\Cel w x.ao (x.es.map Ai)/\(∀y,x.ao=some y->y.block<w.heap.size)/\wr.heap.size<=b/\
  w.cell? ⟨b,0,none⟩=some (.int .i64 x.v)/\w.cell? ⟨b,1,none⟩=some (.slice x.ao x.es.length x.cap)/\w.cell? ⟨b,2,none⟩=some (.int .u64 x.w)/\w.cell? ⟨b,3,none⟩=some (.int .i64 x.c)
theorem Bd1 {n:Nat} {es:List EdgeD} {s t v:Int} {wr w2 W9:World} {b:Nat} {x:VD} {v0 v1 v2 v3:Value} (hb2:Below wr.heap.size wr w2) (hbL:wr.heap.size<=b)
  (hbb:w2.heap[b]? =some (.cells #[.int .i64 0,.slice none 0 0,.int .u64 0,.int .i64 0] 66 (0,0)))
  (x0:w2.cell? ⟨b,0,none⟩=some v0) (x1:w2.cell? ⟨b,1,none⟩=some v1) (x2:w2.cell? ⟨b,2,none⟩=some v2) (x3:w2.cell? ⟨b,3,none⟩=some v3)
  (a1:Cel w2 x.ao (x.es.map Ai)) (a2:ByX n es s t v x) (a3:∀y,x.ao=some y->wr.heap.size<=y.block/\∃r,w2.heap[y.block]? =some (.cells r 3 (0,0)))
  (hW:W9=(((w2.setCell ⟨b,0,none⟩ (.int .i64 x.v)).setCell ⟨b,1,none⟩ (.slice x.ao x.es.length x.cap)).setCell ⟨b,2,none⟩ (.int .u64 x.w)).setCell ⟨b,3,none⟩ (.int .i64 x.c)):Bl7 n es s t v wr W9 b x:=by
 have ho9:OffX (· =b) w2 W9:=by rw [hW];exact Tk w2 b _ _ _ _
 obtain ⟨r0,r1,r2,r3⟩:=Eu (.int .i64 x.v) (.slice x.ao x.es.length x.cap) (.int .u64 x.w) (.int .i64 x.c) x0 x1 x2 x3;rw [<-hW] at r0 r1 r2 r3;have hne:∀y,x.ao=some y->y.block≠b:=fun y hy e=>by
  obtain ⟨_,r,h⟩:=a3 y hy;rw [e,hbb] at h
  cases h
 refine ⟨hb2.trans (ho9.below hb2.size (fun k e=>by have e2:k=b:=e;omega)),a2,fun i u hu=>?_,fun y hy=>?_,hbL,r0,r1,r2,r3⟩
 ·obtain ⟨b',o,e,h⟩:=a1 i u hu
  exact ⟨b',o,e,ho9.cell h (fun e2=>hne _ e e2)⟩
 ·obtain ⟨_,r,h⟩:=a3 y hy
  have h1:=(Bm7.1 h).1;have h2:=ho9.size;omega
theorem Yw (W10:World) (x:VD) (zs:List VD) (k m oc oc':Nat) (oa ob:Option Addr) (hk:k<=zs.length) (hm:m=zs.length-k) (hz:zs.length<=12) (h1:Cel W10 oa (Ar (zs.take k))) (h2:Cel W10 ob (Ar (zs.drop k))) (hin:Da x zs=zs.take k++x::zs.drop k):
  ∃a1 c1 W11 a2 c2 W12 a3 c3 W13,
   (Builtin.append_ #[84,84] 84 #[.slice (some ⟨W10.heap.size,0,none⟩) 0 0,.slice oa k oc]).run Tryz.prog (W10.alloc (Obj.cells #[] 66))=.ok (.slice a1 k c1) W11/\
   (Builtin.append_ #[84,84] 84 #[.slice a1 k c1,.slice (some ⟨W11.heap.size,0,none⟩) 1 1]).run Tryz.prog (W11.alloc (Obj.cells #[.int .i64 x.v,.slice x.ao x.es.length x.cap,.int .u64 x.w,.int .i64 x.c] 66))=.ok (.slice a2 (k+1) c2) W12/\
   (Builtin.append_ #[84,84] 84 #[.slice a2 (k+1) c2,.slice ob m oc']).run Tryz.prog W12=.ok (.slice a3 (zs.length+1) c3) W13/\
   W13.ownsRow W10.heap.size 66 4 (.slice a3 (zs.length+1) c3) (zs.length+1) (Ar (Da x zs))/\Below W10.heap.size W10 W11/\Below W10.heap.size W10 W13:=by
 subst hm;have HE0:=World.ownsRow_lit (base:=W10.heap.size) (e:=66) (size:=4) W10 #[] 0 (Bm2 _) (by unfold maxLen;omega) (by simp);have b0:Below W10.heap.size W10 (W10.alloc (Obj.cells #[] 66)):=Below.of_al _ _;obtain ⟨a1,c1,W11,hr1,ho1,hb1⟩:=Qx (P:=Tryz.prog) 84 84 W10.heap.size 66 _ 4 48 Ou Tryz.underlying84 _ 0 0 [] HE0 oa k oc (Ar (zs.take k)) (h1.go b0) (On _) ⟨by rw [Hr,List.length_take_of_le hk],by omega,by omega,by simp⟩;rw [Nat.zero_add] at hr1 ho1;have b1:=b0.trans hb1;have b2:Below W10.heap.size W11 (W11.alloc (Obj.cells #[.int .i64 x.v,.slice x.ao x.es.length x.cap,.int .u64 x.w,.int .i64 x.c] 66)):=(Below.of_al W11 _).mono b1.size;obtain ⟨a2,c2,W12,hr2,ho2,hb2⟩:=Qx (P:=Tryz.prog) 84 84 W10.heap.size 66 _ 4 48 Ou Tryz.underlying84 a1 k c1 _ (World.ownsRow.alloc ho1 _) (some ⟨W11.heap.size,0,none⟩) 1 1 (Gj x) (fun j u hj=>⟨W11.heap.size,0,rfl,by have:=Zh W11 _ _ _ _ 66 j u hj;rw [Addr.add_lit] at this;exact this⟩) (Sj x) ⟨rfl,by omega,by omega,by have:=b1.size;simp;omega⟩;have b3:=(b1.trans b2).trans hb2;obtain ⟨a3,c3,W13,hr3,ho3,hb3⟩:=Qx (P:=Tryz.prog) 84 84 W10.heap.size 66 _ 4 48 Ou Tryz.underlying84 a2 (k+1) c2 _ ho2 ob (zs.length-k) oc' (Ar (zs.drop k)) (h2.go b3) (On _) ⟨by rw [Hr,List.length_drop],by omega,by omega,b3.size⟩;have e3:k+1+(zs.length-k)=zs.length+1:=by omega
 rw [e3] at hr3 ho3;have e4:[]++Ar (zs.take k)++Gj x++Ar (zs.drop k)=Ar (Da x zs):=by rw [hin,Oo,Ar,List.nil_append,Bq3]
 rw [e4] at ho3;exact ⟨a1,c1,W11,a2,c2,W12,a3,c3,W13,hr1,hr2,hr3,ho3,b1,b3.trans hb3⟩
theorem Yg {w:World} {base base':Nat} {e:TypeId} {size n:Nat} {v:Value} {xs:List Value} (h:w.ownsRow base e size v n xs) (hb:base'<=base):w.ownsRow base' e size v n xs:=⟨h.1,by
 rcases h.2 with h|⟨g,c,cur,e,h1,r⟩
 ·exact .inl h
 ·exact .inr ⟨g,c,cur,e,Bm4 hb h1,r⟩⟩
theorem Ua {W9 Wf:World} {v v':Value} {zs:List VD} {x:VD} (h:RowsV W9 v zs) (hx:Cel W9 x.ao (x.es.map Ai)) (hl:∀y,x.ao=some y->y.block<W9.heap.size) (hb:Below W9.heap.size W9 Wf) (hn:∀g,v'.ownBlock=some g->W9.heap.size<=g):RowsV Wf v' (Da x zs):=fun z hz=>by
 rw [Yz] at hz;have hz2:z∈zs\/z=x:=by
  rcases Bp3.1 hz with h1|h1
  ·exact .inl (List.mem_of_mem_take h1)
  ·rcases Bp2.1 h1 with h2|h2
   ·exact .inr h2
   ·exact .inl (List.mem_of_mem_drop h2)
 rcases hz2 with h1|rfl
 ·obtain ⟨h2,h3⟩:=h z h1
  refine ⟨h2.go hb,fun y hy hne=>?_⟩;have h4:=(h3 y hy hne).1;refine ⟨Nat.lt_of_lt_of_le h4 hb.size,fun e=>?_⟩;have:=hn _ e;omega
 ·refine ⟨hx.go hb,fun y hy hne=>?_⟩
  have h4:=hl y hy;refine ⟨Nat.lt_of_lt_of_le h4 hb.size,fun e=>?_⟩;have:=hn _ e;omega
theorem Vx (n:Nat) (es:List EdgeD) (R:List Int) (S:List SC) (ro:List Int) (ao ra:Option Addr) (cap rc:Nat) (s t:Int) (w:World) (hg:Ak ⟨(n:Int),es⟩=0) (hok:HierOK es n R S ro) (hn:n<=12) (hes:es.length<=40) (hc:Cel w ao (Ay es)) (hR:Cel w ra (R.map Ai)):
  Calls Tryz.prog 42 #[.agg #[.int .i64 (n:Int),.slice ao es.length cap],.slice ra R.length rc,.int .i64 s,.int .i64 t] w (Sx n es ro s t w):=by
 obtain ⟨W,hW⟩:∃W,W=w.alloc (Obj.cells #[.int .i64 (n:Int),.slice ao es.length cap] 24):=⟨_,rfl⟩;have hbw:Below w.heap.size w W:=by rw [hW];exact Below.of_al _ _
 have c0:W.cell? ⟨w.heap.size,0,none⟩=some (.int .i64 (n:Int)):=by rw [hW];go_simp
 have c1:W.cell? ⟨w.heap.size,1,none⟩=some (.slice ao es.length cap):=by rw [hW];go_simp
 have HVN:=Bm0 (Ud n es R S ro ao ra cap rc s t W hg hok hn hes (hc.go hbw) (hR.go hbw));have HBY:=Bm0 (fun (v:Int) U (hz:Below w.heap.size w U)=>Ac2 n es ao cap s v t U hg (by omega) (by omega) (hc.go hz));have HW:=Bm0 hW;have HB:=Bm0 hbw;unfold Jz at HVN;unfold Al7 Fl at HBY;unfold Sx;clear hW hbw hg hok hc hR
 go_enter Tryz.func42,Tryz.ntmps42
 go_upto_region 1 with (fail)
 rw [<-HW.out]
 go_wp2_with (go_at_call 41;refine HVN.out.mono ?_;rintro e w1 ⟨na,nc,L,k,rfl,h1,h2,h3⟩;(have HL1:=Bm0 h1);(have HB1:=Bm0 h2);(have HI:=Bm0 h3);(have d0:=Bm1 h2 c0);(have d1:=Bm1 h2 c1);clear h1 h2 h3)
 have hLl:(L.length:Int)<=12:=by
  rcases HI.out with ⟨_,_,_,_,_,h,_⟩|⟨_,h,_⟩
  ·omega
  ·rw [h];simp
 have HS0:=Bm0 (show Bk []=[] from rfl)
 go_loopg [12,13] L.length (fun gg v12 v13 wr=>∃(i:Nat) (ys zs:List VD),i<=L.length/\L.length-i<=gg/\v13=.int .i64 i/\Aside (ys.length=i)/\Aside (zs=Bk ys)/\Aside (wr.ownsRow w1.heap.size 66 4 v12 zs.length (Ar zs))/\Aside (ByL n es s t (L.take i) ys)/\Aside (RowsV wr v12 zs)/\Aside (Below w1.heap.size w1 wr))
 case atStart=>exact ⟨0,[],[],Bm3 _,by omega,rfl,(show ([]:List VD).length=0 from rfl),(show []=Bk [] from rfl),World.ownsRow_nil _ _ _ _,(show ByL n es s t (L.take 0) [] from ⟨by simp,fun i h=>absurd h (Nat.not_lt_zero _)⟩),(show RowsV w1 _ [] from fun x hx=>nomatch hx),Below.refl _ _⟩
 case round=>
  obtain ⟨i,ys,zs,hi,hgg,rfl,hyl,hzs,HO,HY,HR,HB9⟩:=hrel;have HYL:=Bm0 hyl.out;have HZS:=Bm0 hzs.out;clear hyl hzs;have hzl:zs.length<=12:=by rw [HZS.out,He];have:=HYL.out;omega
  by_cases hlt:i<L.length
  ·have hlt2:(i:Int)<(L.length:Int):=by omega
   have hi0:(0:Int)<=(i:Int):=by omega
   obtain ⟨qb,qo,rfl,y0⟩:=(HL1.out.go HB9.out).at hlt;have HTK:=Bm0 (Bn8 hlt);have e0:=Bm1 HB9.out d0;have e1:=Bm1 HB9.out d1;generalize L[i]=v at*
   go_upto_region 6 with (fail)
   go_cut [14] from 26 to 74 (fun v14 wx=>∃(b:Nat) (x:VD),v14=.pointer (some ⟨b,0,none⟩)/\Aside (Bl7 n es s t v wr wx b x))
   case first=>
    refine Qs 12 10 _ _ _ rfl rfl (by decide) rfl (raR wr.heap.size n es (.agg #[.int .i64 (n:Int),.slice ao es.length cap]) s t v (.slice (some ⟨qb,qo,none⟩) L.length nc) (.pointer (some ⟨qb,qo+i,none⟩)) (i:Int)) (by kernel_rfl) (by kernel_rfl) (by kernel_rfl) Bi5 ?hop ?hend
    case hop=>
     refine ⟨?_,?_,?_,?_,?_,?_,?_,?_,?_,?_,?_,?_,trivial⟩
     ·intro act w' hbe hd ho K hK
      have g9:act.tmps.getD 4 undef=.pointer (some ⟨w.heap.size,0,none⟩):=ho 4 (by kernel_rfl);have f0:=Bm1 hbe e0;have f1:=Bm1 hbe e1;refine .inl ⟨Aa rfl,?_⟩;simp [Oper.wp,execOp,Oper.upon,go_sem,Act.eval,g9,f0,f1];exact hK _ w' (Below.refl _ _) rfl
     ·intro act w' hbe hd ho K hK
      have g9:act.tmps.getD 2 undef=.int .i64 s:=ho 2 (by kernel_rfl);refine .inl ⟨Aa rfl,?_⟩;simp [Oper.wp,execOp,Oper.upon,go_sem,Act.eval,g9];exact hK _ w' (Below.refl _ _) rfl
     ·intro act w' hbe hd ho K hK
      have g9:act.tmps.getD 10 undef=.slice (some ⟨qb,qo,none⟩) L.length nc:=ho 10 (by kernel_rfl);refine .inl ⟨Aa rfl,?_⟩;simp [Oper.wp,execOp,Oper.upon,go_sem,Act.eval,g9];exact hK _ w' (Below.refl _ _) rfl
     ·intro act w' hbe hd ho K hK
      have g9:act.tmps.getD 13 undef=.int .i64 (i:Int):=ho 13 (by kernel_rfl);refine .inl ⟨Aa rfl,?_⟩;simp [Oper.wp,execOp,Oper.upon,go_sem,Act.eval,g9];exact hK _ w' (Below.refl _ _) rfl
     ·intro act w' hbe hd ho K hK
      have q0:act.tmps.getD 35 undef=.slice (some ⟨qb,qo,none⟩) L.length nc:=hd 2 (by rfl);have q1:act.tmps.getD 36 undef=.int .i64 (i:Int):=hd 3 (by rfl);refine .inl ⟨Aa rfl,?_⟩;simp [Oper.wp,execOp,Oper.upon,go_sem,Act.eval,q0,q1,hlt];exact hK _ w' (Below.refl _ _) rfl
     ·intro act w' hbe hd ho K hK
      have q0:act.tmps.getD 37 undef=.pointer (some ⟨qb,qo+i,none⟩):=hd 4 (by rfl);have f0:=Bm1 hbe y0;unfold Ai at f0;refine .inl ⟨Aa rfl,?_⟩;simp [Oper.wp,execOp,Oper.upon,go_sem,Act.eval,q0,f0];exact hK _ w' (Below.refl _ _) rfl
     ·intro act w' hbe hd ho K hK
      have g9:act.tmps.getD 3 undef=.int .i64 t:=ho 3 (by kernel_rfl);refine .inl ⟨Aa rfl,?_⟩;simp [Oper.wp,execOp,Oper.upon,go_sem,Act.eval,g9];exact hK _ w' (Below.refl _ _) rfl
     ·intro act w' hbe hd ho K hK
      have q0:act.tmps.getD 33 undef=.agg #[.int .i64 (n:Int),.slice ao es.length cap]:=hd 0 (by rfl);have q1:act.tmps.getD 34 undef=.int .i64 s:=hd 1 (by rfl);have q2:act.tmps.getD 38 undef=.int .i64 v:=hd 5 (by rfl);have q3:act.tmps.getD 39 undef=.int .i64 t:=hd 6 (by rfl);refine .inl ⟨Aa rfl,?_⟩;simp [Oper.wp,execOp,Oper.upon,go_sem,Act.eval,q0,q1,q2,q3];refine (HBY.out v w' (HB.out.st (HB1.out.st (HB9.out.st hbe)))).mono ?_;rintro e w6 ⟨la,l,lc,V,x,c,k',rfl,h1,h2,h3,h4⟩;exact hK _ w6 h2 ⟨⟨V,la,lc,l,x,c⟩,k',rfl,h1,⟨k',h3⟩,fun y hy=>⟨Bm4 hbe.size (h4 y hy).1,(h4 y hy).2⟩⟩
     ·intro act w' hbe hd ho K hK
      obtain ⟨x,k',q0,h1⟩:∃(x:VD) (k:Int),act.tmps.getD 40 undef=.tuple #[.agg #[.int .i64 x.v,.slice x.ao x.es.length x.cap,.int .u64 x.w,.int .i64 x.c],.int .i64 k]/\_:=hd 7 (by rfl);refine .inl ⟨Aa rfl,?_⟩;simp [Oper.wp,execOp,Oper.upon,go_sem,Act.eval,q0];exact hK _ w' (Below.refl _ _) ⟨x,k',rfl,h1⟩
     ·intro act w' hbe hd ho K hK
      obtain ⟨x,k',q0,h1⟩:∃(x:VD) (k:Int),act.tmps.getD 32 undef=.tuple #[.agg #[.int .i64 x.v,.slice x.ao x.es.length x.cap,.int .u64 x.w,.int .i64 x.c],.int .i64 k]/\_:=hd 8 (by rfl);refine .inl ⟨Aa rfl,?_⟩;simp [Oper.wp,execOp,Oper.upon,go_sem,Act.eval,q0];exact hK _ w' (Below.refl _ _) ⟨x,rfl,h1⟩
     ·intro act w' hbe hd ho K hK
      obtain ⟨x,k',q0,h1⟩:∃(x:VD) (k:Int),act.tmps.getD 32 undef=.tuple #[.agg #[.int .i64 x.v,.slice x.ao x.es.length x.cap,.int .u64 x.w,.int .i64 x.c],.int .i64 k]/\_:=hd 8 (by rfl);refine .inl ⟨Aa rfl,?_⟩;simp [Oper.wp,execOp,Oper.upon,go_sem,Act.eval,q0];exact hK _ w' (Below.refl _ _) ⟨k',rfl⟩
     ·intro act w' hbe hd ho K hK
      refine .inl ⟨Aa rfl,?_⟩;simp [Oper.wp,execOp,Oper.upon,go_sem,Act.eval];refine hK _ _ (Below.of_al _ _) ⟨w'.heap.size,rfl,hbe.size,?_⟩
      show (w'.heap.push _)[w'.heap.size]? =_
      rw [Array.getElem?_push_size]
    case hend=>
     intro vs act w2 done hb2 hR hon hoff hact;obtain ⟨x8,k8,a8,-,-,-⟩:=hR 8 (by decide) (fun h=>by cases h);obtain ⟨x,a9,a1,a2,a3⟩:=hR 9 (by decide) (fun h=>by cases h);obtain ⟨b,a11,hbL,hbb⟩:=hR 11 (by decide) (fun h=>by cases h);have q32:act.tmps.getD 32 undef=.tuple #[.agg #[.int .i64 x8.v,.slice x8.ao x8.es.length x8.cap,.int .u64 x8.w,.int .i64 x8.c],.int .i64 k8]:=(hon 8 (by decide)).trans a8;have q41:act.tmps.getD 41 undef=.agg #[.int .i64 x.v,.slice x.ao x.es.length x.cap,.int .u64 x.w,.int .i64 x.c]:=(hon 9 (by decide)).trans a9;have q14:act.tmps.getD 14 undef=.pointer (some ⟨b,0,none⟩):=(hon 11 (by decide)).trans a11;obtain ⟨x0,x1,x2,x3,zz⟩:=Mg hbb;have v0:=zz 0;have v1:=zz 1;have v2:=zz 2;have v3:=zz 3;obtain ⟨W9,hW9⟩:∃W9,W9=(((w2.setCell ⟨b,0,none⟩ (.int .i64 x.v)).setCell ⟨b,1,none⟩ (.slice x.ao x.es.length x.cap)).setCell ⟨b,2,none⟩ (.int .u64 x.w)).setCell ⟨b,3,none⟩ (.int .i64 x.c):=⟨_,rfl⟩;have HRX:=Bm0 (Bd1 hb2 hbL hbb x0 x1 x2 x3 a1 a2 a3 hW9)
     cases done with
     |true=>
      obtain ⟨k9,a10⟩:=hR 10 (by decide) (fun _=>rfl);have q42:act.tmps.getD 42 undef=.int .i64 k9:=(hon 10 (by decide)).trans a10;have z42:=(Bp5 (xs:=act.tmps) (i:=42) (d:=undef)).symm.trans q42;rw [if_pos rfl];simp only [Dx];simp [Oper.wp,execOp,Oper.upon,go_sem,Act.eval,q41,q42,q14,z42,x0,x1,x2,x3,v0,v1,v2,v3];rw [<-hW9];clear hW9;rw [hact];simp only [Al,Ae,Bo2,Bo1,Bo6,Bo5,Act.put,Bn5,Bn6,Nat.reduceAdd,Bo0,Bo3,Bo4];rw [a11]
      go_wp2_with fail
      go_meet
      exact ⟨b,x,rfl,HRX.out⟩
     |false=>
      rw [if_neg (by simp)];simp only [Dx];simp [Oper.wp,execOp,Oper.upon,go_sem,Act.eval,q41,q32,q14,x0,x1,x2,x3,v0,v1,v2,v3];rw [<-hW9];clear hW9;rw [hact];simp only [Al,Ae,Bo2,Bo1,Bo6,Bo5,Act.put,Bn5,Bn6,Nat.reduceAdd,Bo0,Bo3,Bo4];rw [a11]
      go_wp2_with fail
      go_meet
      exact ⟨b,x,rfl,HRX.out⟩
   case rest=>
    obtain ⟨b,x,rfl,HX⟩:=hcut;obtain ⟨W9,hW9⟩:∃W9,W9=wc:=⟨_,rfl⟩;subst hW9;obtain ⟨p1,p2,p3,p4,p5,r0,r1,r2,r3⟩:=HX.out;obtain ⟨oa,oc,rfl,p6⟩:=Cel.of_owns (Ag HO.out p1);have HRV:=Bm0 (HR.out.go p1);have HBX:=Bm0 p1;have HXI:=Bm0 p2;have HXC:=Bm0 p3;have HXL:=Bm0 p4;have HBL:=Bm0 p5;have HCL:=Bm0 p6;clear p1 p2 p3 p4 p5 p6 HX
    go_upto_block 2 with fail
    go_cut [16] from 43 to 60 (fun v16 wx=>v16=.int .i64 (Fd x zs:Nat)/\Aside (Below W9.heap.size W9 wx))
    case first=>
     go_wp2_with fail
     go_loopg [16] zs.length (fun gg v16 wr2=>∃j:Nat,j<=Fd x zs/\zs.length-j<=gg/\v16=.int .i64 j/\Aside (Below W9.heap.size W9 wr2))
     case atStart=>exact ⟨0,Bm3 _,by omega,rfl,Below.refl _ _⟩
     case round=>
      obtain ⟨j,hj,hg2,rfl,HB10⟩:=hrel;have hcl:=Ak4 x zs;have hzx:zs.length<=12:=hzl;have j0:(0:Int)<=(j:Int):=by omega
      have f2:=Bm1 HB10.out r2
      by_cases hjl:j<zs.length
      ·have j1:(j:Int)<(zs.length:Int):=by omega
       obtain ⟨zb,zo,hoa,y2⟩:=HCL.out (j*4+2) (.int .u64 zs[j].w) (Kl zs j hjl).2.2.1;have y3:=Bm1 HB10.out (show W9.cell? ⟨zb,zo+j*4+1+1,none⟩=some (.int .u64 zs[j].w) by rw [show zo+j*4+1+1=zo+(j*4+2) by omega];exact y2);subst hoa;have e1:=fun p=>Ab p y3;have e2:=fun p=>Ab p f2;have HLT:=Bm0 (fun h:zs[j].w<=x.w=>(show j+1<=Fd x zs by
        rcases Nat.lt_or_ge j (Fd x zs) with h1|h1
        ·exact h1
        ·obtain rfl:j=Fd x zs:=by omega
         exact absurd h (Bf5 hjl)))
       have HEQ:=Bm0 (fun h:¬zs[j].w<=x.w=>(show j=Fd x zs by
        rcases Nat.lt_or_ge j (Fd x zs) with h1|h1
        ·exact absurd (Ak3 h1 hjl) h
        ·omega))
       clear r0 r1 r2 r3 y2 y3 f2;generalize zs[j].w=zw at*
       by_cases hzw:zw<=x.w
       ·have HK:=Bm0 (HLT.out hzw)
        clear HLT HEQ hj
        go_step
        go_upto_region 8 with fail
        refine Af (by kernel_rfl) (by kernel_rfl) ?_
        repeat (go_big_quiet_step (fail))
        refine wpQuiet_nil ?_;rintro _ ⟨pa,rfl⟩;have HBa:=Bm0 (Ah wr pa);generalize ext wr pa=wa at HBa ⊢;clear e1 e2
        go_wp2
        go_roundg (zs.length-(j+1))
        case measure=>omega
        case rel=>exact ⟨j+1,HK.out,Bm2 _,by go_num,HB10.out.st HBa.out⟩
       ·have HK:=Bm0 (HEQ.out hzw)
        clear HLT HEQ hj
        go_step
        go_upto_region 8 with fail
        refine Af (by kernel_rfl) (by kernel_rfl) ?_
        repeat (go_big_quiet_step (fail))
        refine wpQuiet_nil ?_;rintro _ ⟨pa,rfl⟩;have HBa:=Bm0 (Ah wr pa);generalize ext wr pa=wa at HBa ⊢;clear e1 e2
        go_wp2_with fail
        go_meet
        exact ⟨by rw [HK.out],HB10.out.st HBa.out⟩
      ·have HK:=Bm0 (show j=Fd x zs by omega)
       have e2:=fun p=>Ab p f2;have hjl2:¬(j:Int)<(zs.length:Int):=by omega
       clear r0 r1 r2 r3 hjl hj hcl f2
       go_step
       go_upto_region 8 with fail
       refine Af (by kernel_rfl) (by kernel_rfl) ?_
       repeat (go_big_quiet_step (fail))
       refine wpQuiet_nil ?_;rintro _ ⟨pa,rfl⟩;have HBa:=Bm0 (Ah wr pa);generalize ext wr pa=wa at HBa ⊢;clear e2
       go_wp2_with fail
       go_meet
       exact ⟨by rw [HK.out],HB10.out.st HBa.out⟩
    case rest=>
     obtain ⟨rfl,HB11⟩:=hcut;obtain ⟨W10,hW10⟩:∃W10,W10=wc:=⟨_,rfl⟩;subst hW10;have s0:=Bm1 HB11.out r0;have s1:=Bm1 HB11.out r1;have s2:=Bm1 HB11.out r2;have s3:=Bm1 HB11.out r3;have hcz:=Ak4 x zs;have HIN:=Bm0 (Yz x zs);clear r0 r1 r2 r3;generalize Fd x zs=kc at*;have HSZ:=Bm0 (show w1.heap.size<=W9.heap.size from Bm4 HB9.out.size HBX.out.size)
     rcases HO.out.2 with ⟨e,_⟩|⟨g,cap',cur,e,_,_,hnc,_⟩
     ·injection e with e1 e2 e3
      obtain rfl:zs=[]:=List.length_eq_zero_iff.1 e2;subst e1 e3;obtain rfl:kc=0:=by simpa using hcz
      clear e2 hcz;obtain ⟨a1,c1,W11,a2,c2,W12,a3,c3,W13,h1,h2,h3,h4,h5,h6⟩:=Yw W10 x [] 0 0 0 0 none none (Bm2 _) rfl (by simp) (Cel.nil _ _) (Cel.nil _ _) HIN.out;simp only [Nat.zero_add,Bn6] at h2 h3 h4;have t0:=Bm1 h5 s0;have t1:=Bm1 h5 s1;have t2:=Bm1 h5 s2;have t3:=Bm1 h5 s3;have HR1:=Bm0 h1;have HR2:=Bm0 h2;have HR3:=Bm0 h3;have HO3:=Bm0 h4;have HB13:=Bm0 h6;clear h1 h2 h3 h4 h5 h6 s0 s1 s2 s3
      go_upto_region 11 with (at_builtin;refine Lib.wpList_append_run _ rfl _ _ _ _ rfl _ _ rfl rfl _ _ HR1.out ?_)
      clear HR1
      go_upto_region 12 with (at_builtin;refine Lib.wpList_append_run _ rfl _ _ _ _ rfl _ _ rfl rfl _ _ HR2.out ?_)
      clear HR2
      go_upto_region 5 with (at_builtin;refine Lib.wpList_append_run _ rfl _ _ _ _ rfl _ _ rfl rfl _ _ HR3.out ?_)
      clear HR3
      go_wp2
      go_roundg (L.length-(i+1))
      case measure=>omega
      case rel=>exact ⟨i+1,ys++[x],Da x [],by omega,Bm2 _,by go_num,(show (ys++[x]).length=i+1 by simp [HYL.out]),(show Da x []=Bk (ys++[x]) by rw [Ep,<-HZS.out]),(by have:=HO3.out;rw [Rx];exact Yg this (Bm4 HSZ.out HB11.out.size)),(show ByL n es s t (L.take (i+1)) (ys++[x]) by rw [HTK.out];exact HY.out.snoc HXI.out),Ua HRV.out HXC.out HXL.out (HB11.out.st HB13.out) (fun g hg=>Bm4 HB11.out.size (HO3.out.lt g hg).1),((HB9.out.st HBX.out).st HB11.out).st HB13.out⟩
     ·injection e with e1 _ e3
      subst e1 e3;obtain ⟨a1,c1,W11,a2,c2,W12,a3,c3,W13,h1,h2,h3,h4,h5,h6⟩:=Yw W10 x zs kc (zs.length-kc) oc (oc-kc) (some ⟨g,0,none⟩) (if oc=kc then some ⟨g,0,none⟩ else some ⟨g,kc*4,none⟩) hcz rfl hzl (by rw [Ae6];exact Ba2 (HCL.out.go HB11.out) _) (by
       split
       ·rw [List.drop_of_length_le (by omega)];exact Cel.nil _ _
       ·rw [Ae7];exact Ba3 (HCL.out.go HB11.out) _) HIN.out
      have t0:=Bm1 h5 s0;have t1:=Bm1 h5 s1;have t2:=Bm1 h5 s2;have t3:=Bm1 h5 s3;have HR1:=Bm0 h1;have HR2:=Bm0 h2;have HR3:=Bm0 h3;have HO3:=Bm0 h4;have HB13:=Bm0 h6;clear h1 h2 h3 h4 h5 h6 s0 s1 s2 s3
      go_upto_region 11 with (at_builtin;refine Lib.wpList_append_run _ rfl _ _ _ _ rfl _ _ rfl rfl _ _ HR1.out ?_)
      clear HR1
      go_upto_region 12 with (at_builtin;refine Lib.wpList_append_run _ rfl _ _ _ _ rfl _ _ rfl rfl _ _ HR2.out ?_)
      clear HR2
      go_upto_region 5 with (at_builtin;refine Lib.wpList_append_run _ rfl _ _ _ _ rfl _ _ rfl rfl _ _ HR3.out ?_)
      clear HR3
      go_wp2
      all_goals
       go_roundg (L.length-(i+1))
       case measure=>omega
       case rel=>exact ⟨i+1,ys++[x],Da x zs,by omega,Bm2 _,by go_num,(show (ys++[x]).length=i+1 by simp [HYL.out]),(show Da x zs=Bk (ys++[x]) by rw [Ep,<-HZS.out]),(by have:=HO3.out;rw [Rx];exact Yg this (Bm4 HSZ.out HB11.out.size)),(show ByL n es s t (L.take (i+1)) (ys++[x]) by rw [HTK.out];exact HY.out.snoc HXI.out),Ua HRV.out HXC.out HXL.out (HB11.out.st HB13.out) (fun g hg=>Bm4 HB11.out.size (HO3.out.lt g hg).1),((HB9.out.st HBX.out).st HB11.out).st HB13.out⟩
  ·obtain rfl:i=L.length:=by omega
   have HY9:=Bm0 (show ByL n es s t L ys by have:=HY.out;rw [Bq6] at this;exact this);obtain ⟨ao9,cap9,e9,hc9⟩:=Cel.of_owns HO.out;subst e9;have HC9:=Bm0 hc9;clear hc9
   go_wp2
   refine bodyPost_ret (v:=.tuple #[.slice ao9 zs.length cap9,.int .i64 k]) (by simp [results,Tryz.results42,go_sem];try rfl) rfl ?_;exact ⟨ao9,cap9,zs,k,rfl,HC9.out,fun x hx=>(HR.out x hx).1,(HB.out.st HB1.out).st HB9.out,L,HI.out,ys,HY9.out,HZS.out⟩
end Vi
end Go.Proofs.YteaaapdjplbljaaGreat
