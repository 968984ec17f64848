/- Parts; no condition. -/
import Derived.Test.YteaaapdjplbljaaGreatVc13
set_option linter.unusedVariables false
set_option linter.unusedSimpArgs false
set_option linter.unnecessarySimpa false
set_option maxRecDepth 100000
set_option maxHeartbeats 8000000
namespace Go.Proofs.YteaaapdjplbljaaGreat
section
open Go Go.Proofs Go.RowKit Go.Shelf Hp Ch
def Sg (w:World) (e:Ending) (w':World):Prop:=∃d:Int,e=.returned (.int .i64 d)/\(-1000000000000000000<=d/\d<=1000000000000000000)/\Below w.heap.size w w'
def Pr (w:World) (e:Ending) (w':World):Prop:=∃d:Int,e=.returned (.int .u64 d)/\(0<=d/\d<=18446744073709551615)/\Below w.heap.size w w'
theorem MapW.len {w:World} {b n:Nat} {f:Int->Option Int} (h:MapW w b n f):∃k:Nat,k<=n/\∀ty,(Builtin.len_ #[148] ty #[.map (some b)]).run Tryz.prog w=.ok (.int .i64 (k:Int)) w:=by
 obtain ⟨D,k,q⟩:=h;have hl:=k.len Lz;obtain ⟨es,clock,hb,F,hs,rfl⟩:=k;have e1:Maps.size (DataW.map ((es.toList.map (Go.WideElems.rg Tryz.prog 3 (plainElem Tryz.prog 37))).foldr (DataW.insert (H:=Unit)) []))=es.size:=by simp [Maps.size,length_sorted]
 rw [e1] at hl;exact ⟨es.size,hs,hl⟩
theorem Ax1 (O:List (List (Int×Int))) (gone:List Bool) (vo vg vr:Value) (v settles:Nat) (hops B:Int) (w:World) (hn:NetW w vo vg O gone) (hv:v<O.length) (hO:NetOK O gone B) (hB:0<=B/\B<=288230376151711744) (hse:settles<=1000000) (hlen:O.length<=26) (hrow:∀l∈O,l.length<=1000000) (hvr:∃a n c,vr=.slice a n c):
  Calls Tryz.prog 227 #[.agg #[vo,vg],.int .i64 v,.agg #[.int .i64 hops,.int .i64 settles,vr]] w (Sg w):=by
 obtain ⟨W,hW⟩:∃W,W=(w.alloc (Obj.cells #[vo,vg] 179)).alloc (Obj.cells #[.int .i64 hops,.int .i64 (settles:Int),vr] 27):=⟨_,rfl⟩;have hbw:Below w.heap.size w W:=by rw [hW];exact (Below.of_al _ _).al _
 have HK:=Bi5 (Xu O gone vo vg vr v settles hops B W (hn.go hbw) hv hO hB hse (by omega) hrow hvr);have HL:=Bi5 (fun W' (hb:Below W.heap.size W W')=>Hv O gone vo vg v B W' ((hn.go hbw).go hb) hv hO (by omega) (by omega) hrow);obtain ⟨av,an,ac,rfl⟩:=hvr;have HO:=Bi5 (show O.length*O.length<=26*26 from Nat.mul_le_mul hlen hlen);obtain ⟨ao',co',go',cg',rows,rfl,rfl,-⟩:=hn;have HB:=Bi5 hbw;have c0:W.cell? ⟨w.heap.size,0,none⟩=some (.slice ao' O.length co'):=by rw [hW];go_simp
 have c1:W.cell? ⟨w.heap.size,1,none⟩=some (.slice go' gone.length cg'):=by rw [hW];go_simp
 have c2:W.cell? ⟨w.heap.size+1,0,none⟩=some (.int .i64 hops):=by rw [hW];go_simp
 have c3:W.cell? ⟨w.heap.size+1,1,none⟩=some (.int .i64 settles):=by rw [hW];go_simp
 have c4:W.cell? ⟨w.heap.size+1,2,none⟩=some (.slice av an ac):=by rw [hW];go_simp
 have HW:=Bi5 hW;clear hW hbw hB hse hlen hrow hO;unfold Sg;unfold Wd at HK;unfold Sd at HL
 go_enter Tryz.func227,Tryz.ntmps227
 go_upto_region 1 with (fail)
 rw [<-HW.out]
 go_wp2_with fail
 refine HK.out.mono ?_;rintro e w1 ⟨l,ao,bo,ca,cbf,rfl,hcl,hcf,hki,hb2,hfa,hfb⟩;have c0:=Bi6 hb2 c0;have c1:=Bi6 hb2 c1;have HLN:=Bi5 hki.len;have HB1:=Bi5 (HB.out.st hb2);have HL1:=Bi5 (HL.out w1 hb2);clear hcl hcf hki hb2 hfa hfb HK HL
 go_wp2_with fail
 refine HL1.out.mono ?_;rintro e w2 ⟨bt,bf,rfl,hmt,hmf,hne,hbt,hbf,hb3⟩;obtain ⟨k1,hk1,e1⟩:=hmt.len;obtain ⟨k2,hk2,e2⟩:=hmf.len;have HB2:=Bi5 (HB1.out.st hb3);have hl1:(l.length:Int)<=676:=by have:=HLN.out;have:=HO.out;omega
 have hk1':(k1:Int)<=100000000000000000:=by omega
 have hk2':(k2:Int)<=100000000000000000:=by omega
 clear hmt hmf hne hbt hbf hb3 HL1 c0 c1 c2 c3 c4
 go_wp2
 go_ret
 exact ⟨_,rfl,⟨by omega,by omega⟩,HB2.out⟩
theorem Xs {w w1 w2:World} {cb n se v:Nat} {hops d:Int} {vr:Value} {s:CS} (hb:Below w1.heap.size w1 w2) (h:w1.cell? ⟨cb,0,none⟩=some (.slice (some ⟨s.ob,0,none⟩) n s.cO)/\w1.cell? ⟨cb,1,none⟩=some (.slice (some ⟨s.gb,0,none⟩) n s.cG)/\w1.cell? ⟨cb,4,none⟩=some (.int .i64 hops)/\w1.cell? ⟨cb,5,none⟩=some (.int .i64 (se:Int))/\w1.cell? ⟨cb,6,none⟩=some vr/\w1.cell? ⟨cb,7,none⟩=some (.slice (some ⟨s.db,0,none⟩) n s.cD)/\w1.cell? ⟨s.db,v,none⟩=some (.int .i64 d)/\Below w.heap.size w w1):w2.cell? ⟨cb,0,none⟩=some (.slice (some ⟨s.ob,0,none⟩) n s.cO)/\w2.cell? ⟨cb,1,none⟩=some (.slice (some ⟨s.gb,0,none⟩) n s.cG)/\w2.cell? ⟨cb,4,none⟩=some (.int .i64 hops)/\w2.cell? ⟨cb,5,none⟩=some (.int .i64 (se:Int))/\w2.cell? ⟨cb,6,none⟩=some vr/\w2.cell? ⟨cb,7,none⟩=some (.slice (some ⟨s.db,0,none⟩) n s.cD)/\w2.cell? ⟨s.db,v,none⟩=some (.int .i64 d)/\Below w.heap.size w w2:=by
 obtain ⟨c0,c1,c2,c3,c4,c5,c6,hz⟩:=h;exact ⟨Bi6 hb c0,Bi6 hb c1,Bi6 hb c2,Bi6 hb c3,Bi6 hb c4,Bi6 hb c5,Bi6 hb c6,hz.st hb⟩
theorem Ag4 {A:Int->Int->Int->Prop} {E:Int->Int->Int->Int->Prop} (n cb se:Nat) (hops:Int) (vr:Value) (out:List Int) (m:Nat) (w:World) (s:CS) (v:Nat) (h:CoI A E n cb se hops vr out m w s) (hv:v<n)
  (hn:n<=26) (hm:m<=1000000) (hse:se<=1000000) (hvr:∃a n c,vr=.slice a n c):
  Calls Tryz.prog 164 #[.pointer (some ⟨cb,0,none⟩),.int .i64 (v:Int)] w (Pr w):=by
 have hsn:=h.nn;have hcb:=h.cb;obtain ⟨o1,o2,o3⟩:=h.opt;obtain ⟨l1,l2,l3⟩:=h.core.lens;have hnO:s.c.O.length=n:=h.cc.inv.len;have hrow:∀l∈s.c.O,l.length<=1000000:=fun l hl=>Bi9 (h.room.row l hl) (by omega);have hBb:=h.big hn;have hpw:(0:Int)<=2 ^ out.length:=Int.pow_nonneg (by decide);have HDI:=Bi5 (fun W (hb:Below w.heap.size w W)=>(Ax1 s.c.O s.gone _ _ vr v se hops (4294967296*2 ^ out.length) W (h.core.go hb).net (by omega) h.netOK ⟨by omega,hBb⟩ hse (by omega) hrow hvr));have r0:=(h.core.re 0 _ rfl).1;have r1:=(h.core.re 1 _ rfl).1;have r4:=(h.core.re 4 _ rfl).1;have r5:=(h.core.re 5 _ rfl).1;have r6:=(h.core.re 6 _ rfl).1;have r7:=(h.core.re 7 _ rfl).1;have hd:v<s.dep.length:=by omega
 have r8:w.cell? ⟨s.db,v,none⟩=some (.int .i64 s.dep[v]):=(h.core.dp.cellAt v (by rw [hsn];omega)).trans (by simp [hd]);have hdb:=h.dep _ (Bj7 hd);have hol:=Di h.nodes.1 h.nodes.2;rw [hcb,hsn] at r0 r1 r7;rw [hcb] at r4 r5 r6;rw [o1] at r4;rw [o2] at r5;rw [o3] at r6;rw [hsn] at HDI;have hv0:(0:Int)<=(v:Int):=by omega
 have hv1:(v:Int)<(n:Int):=by omega
 generalize s.dep[v]=d at r8 hdb;have hd0:=hdb.1;have hd1:d<=26:=by have:=hdb.2;omega
 have HS:=Bi5 (show w.cell? ⟨cb,0,none⟩=some (.slice (some ⟨s.ob,0,none⟩) n s.cO)/\w.cell? ⟨cb,1,none⟩=some (.slice (some ⟨s.gb,0,none⟩) n s.cG)/\w.cell? ⟨cb,4,none⟩=some (.int .i64 hops)/\w.cell? ⟨cb,5,none⟩=some (.int .i64 (se:Int))/\w.cell? ⟨cb,6,none⟩=some vr/\w.cell? ⟨cb,7,none⟩=some (.slice (some ⟨s.db,0,none⟩) n s.cD)/\w.cell? ⟨s.db,v,none⟩=some (.int .i64 d)/\Below w.heap.size w w from ⟨r0,r1,r4,r5,r6,r7,r8,Below.refl _ _⟩);clear h hsn hcb o1 o2 o3 l1 l2 l3 hnO hrow hBb hpw r0 r1 r4 r5 r6 r7 r8 hd hdb hol;unfold Pr;unfold Sg at HDI
 go_enter Tryz.func164,Tryz.ntmps164
 go_upto_region 1 with (fail)
 go_region_held3 (fun w'=>w'.cell? ⟨cb,0,none⟩=some (.slice (some ⟨s.ob,0,none⟩) n s.cO)/\w'.cell? ⟨cb,1,none⟩=some (.slice (some ⟨s.gb,0,none⟩) n s.cG)/\w'.cell? ⟨cb,4,none⟩=some (.int .i64 hops)/\w'.cell? ⟨cb,5,none⟩=some (.int .i64 (se:Int))/\w'.cell? ⟨cb,6,none⟩=some vr/\w'.cell? ⟨cb,7,none⟩=some (.slice (some ⟨s.db,0,none⟩) n s.cD)/\w'.cell? ⟨s.db,v,none⟩=some (.int .i64 d)/\Below w.heap.size w w') (first|exact Xs (Below.refl _ w).drew HS.out|exact Xs (by assumption) (by assumption)) (first
  |(go_at_call 227;refine (HDI.out _ (by go_split_ands;assumption)).mono ?_;rintro e w1 ⟨x,rfl,hx,hb1⟩;(have hx0:=hx.1;have hx1:=hx.2;have HB1:=Bi5 hb1)))
 all_goals
  generalize IntKind.i64.wrap (IntKind.i64.wrap (1099511627776+x)+IntKind.i64.wrap (2*d))=y;generalize IntKind.i64.wrap (1099511627776+x)=y1;generalize IntKind.i64.wrap (2*d)=y2;have hy:0<=IntKind.u64.wrap y/\IntKind.u64.wrap y<=18446744073709551615:=by
   rw [Bn7];omega
  generalize IntKind.u64.wrap y=z at*;have HY:=Bi5 hy;clear hy hx hx0 hx1
  go_wp2
  go_ret
  exact ⟨z,rfl,HY.out,by go_split_ands;assumption⟩
end
section
namespace Hp
def Me (l:List IK) (u:Int):Option Int:=(l.find? (fun y=>decide (y.1=u))).map (·.2)
def Yy (l:List IK):Prop:=∀y∈l,∀z∈l,y.1=z.1->y=z
theorem Dl {l:List IK} (h:Yy l) {y:IK} (hy:y∈l):Me l y.1=some y.2:=by
 unfold Me
 cases e:l.find? (fun z=>decide (z.1=y.1)) with
 |none=>
  have:=List.find?_eq_none.1 e y hy;simp at this
 |some z=>
  have h1:=List.find?_some e;have h2:=List.mem_of_find?_eq_some e;have h3:z.1=y.1:=by simpa using h1
  rw [h z h2 y hy h3];rfl
theorem Ra {l:List IK} {u:Int} (h:∀y∈l,y.1≠u):Me l u=none:=by
 unfold Me
 cases e:l.find? (fun z=>decide (z.1=u)) with
 |none=>rfl
 |some z=>
  have h1:=List.find?_some e;have h2:=List.mem_of_find?_eq_some e;exact absurd (by simpa using h1) (h z h2)
theorem Xt (l:List IK) (u:Int) (h:Yy l):(∃y∈l,y.1=u/\Me l u=some y.2)\/((∀y∈l,y.1≠u)/\Me l u=none):=by
 by_cases hx:∃y∈l,y.1=u
 ·obtain ⟨y,hy,rfl⟩:=hx
  exact .inl ⟨y,hy,rfl,Dl h hy⟩
 ·have:∀y∈l,y.1≠u:=fun y hy e=>hx ⟨y,hy,e⟩
  exact .inr ⟨this,Ra this⟩
def wt1 (l:List IK) (u:Nat):Nat:=match Me l u with
 |some k=>(18446744073709551616-k).toNat
 |none=>0
def wtN (l:List IK):Nat->Nat
 |0=>0
 |n+1=>wtN l n+wt1 l n
theorem Aq2 {l l':List IK}:∀{n:Nat},(∀u,u<n->wt1 l' u<=wt1 l u)->wtN l' n<=wtN l n
 |0,_=>Bi7 _
 |n+1,h=>Nat.add_le_add (Aq2 (n:=n) fun u hu=>h u (by omega)) (h n (by omega))
theorem Zf {l l':List IK}:∀{n v:Nat},(∀u,u<n->wt1 l' u<=wt1 l u)->v<n->wt1 l' v<wt1 l v->wtN l' n<wtN l n
 |n+1,v,h,hv,hlt=>by
  by_cases e:v=n
  ·subst e
   exact Nat.add_lt_add_of_le_of_lt (Aq2 fun u hu=>h u (by omega)) hlt
  ·exact Nat.add_lt_add_of_lt_of_le (Zf (n:=n) (fun u hu=>h u (by omega)) (by omega) hlt) (h n (by omega))
theorem Ay9 {l l':List IK} {n v:Nat} {d:Int} (h:Yy l) (hv:v<n) (hd:((v:Int),d)∈l) (hd1:d<=18446744073709551615) (hm:∀y,y∈l'↔y∈l/\y.1≠(v:Int)):wtN l' n<wtN l n:=by
 have h':Yy l':=fun y hy z hz e=>h y ((hm y).1 hy).1 z ((hm z).1 hz).1 e;refine Zf (v:=v) ?_ hv ?_
 ·intro u hu
  unfold wt1
  rcases Xt l' u h' with ⟨y,hy,e,hk⟩|⟨_,hk⟩
  ·have:=Dl h ((hm y).1 hy).1
   rw [e] at this;rw [hk,this];exact Bi7 _
  ·rw [hk]
   exact Bi8 _
 ·have h1:=Dl h hd
  have h2:Me l' (v:Int)=none:=Ra (fun y hy=>((hm y).1 hy).2);unfold wt1;rw [h2];simp only at h1;rw [h1];simp only;omega
theorem Aq1 {l l' l2:List IK} {n v:Nat} {d k:Int} (h:Yy l) (hv:v<n) (hd:((v:Int),d)∈l) (hdk:d<k) (hk1:k<=18446744073709551615) (hm:∀y,y∈l'↔y∈l/\y.1≠(v:Int)) (hm2:∀y,y∈l2↔(y=((v:Int),k)\/(y∈l'/\y.1≠(v:Int)))):
  wtN l2 n<wtN l n/\Yy l2:=by
 have h2:Yy l2:=by
  intro y hy z hz e
  rcases (hm2 y).1 hy with rfl|⟨hy1,hy2⟩<;>rcases (hm2 z).1 hz with rfl|⟨hz1,hz2⟩
  ·rfl
  ·exact absurd e.symm hz2
  ·exact absurd e hy2
  ·exact h y ((hm y).1 hy1).1 z ((hm z).1 hz1).1 e
 refine ⟨Zf (v:=v) ?_ hv ?_,h2⟩
 ·intro u hu
  unfold wt1
  rcases Xt l2 u h2 with ⟨y,hy,e,hk⟩|⟨_,hk⟩
  ·rw [hk]
   rcases (hm2 y).1 hy with rfl|⟨hy1,hy2⟩
   ·have h3:=Dl h hd
    simp only at e h3;rw [<-e,h3];simp only;omega
   ·have h3:=Dl h ((hm y).1 hy1).1
    rw [e] at h3;rw [h3];exact Bi7 _
  ·rw [hk]
   exact Bi8 _
 ·have h3:=Dl h hd
  have h4:=Dl h2 ((hm2 _).2 (.inl rfl):((v:Int),k)∈l2);unfold wt1;simp only at h3 h4;rw [h3,h4];simp only;omega
theorem HeapOK.once {l:List IK} {p:List Int} (h:HeapOK l p):Yy l:=by
 intro y hy z hz e;obtain ⟨i,hi,rfl⟩:=Du.1 hy;obtain ⟨j,hj,rfl⟩:=Du.1 hz;rw [h.c.inj hi hj e]
end Hp
end
end Go.Proofs.YteaaapdjplbljaaGreat
