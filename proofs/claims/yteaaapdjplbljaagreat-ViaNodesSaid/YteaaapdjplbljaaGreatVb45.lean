/- Parts; no condition. -/
import Derived.Test.YteaaapdjplbljaaGreatVb44
set_option linter.unusedVariables false
set_option linter.unusedSimpArgs false
set_option linter.unnecessarySimpa false
set_option maxRecDepth 100000
set_option maxHeartbeats 8000000
namespace Go.Proofs.YteaaapdjplbljaaGreat
section
namespace Vi
open Go Go.Proofs Go.RowKit Go.Shelf Hp
theorem Qx {P:Program} {w:World} (t ty:TypeId) (L:Nat) (E:TypeId) (z:Value) (sz bytes:Nat) (hE:Gm P E z sz bytes) (ht:P.underlying t=some (.slice E))
  (ao:Option Addr) (n cap:Nat) (xs:List Value) (hown:w.ownsRow L E sz (.slice ao n cap) n xs) (bo:Option Addr) (m c:Nat) (news:List Value) (hnews:Cel w bo news) (h1:∀u∈news,u.oneCell'=true)
  (hl:news.length=m*sz/\n+m<=9223372036854775807/\(n+m)*bytes<=140737488355328/\L<=w.heap.size):
  ∃ao' cap' w',(Builtin.append_ #[t,t] ty #[.slice ao n cap,.slice bo m c]).run P w=.ok (.slice ao' (n+m) cap') w'/\w'.ownsRow L E sz (.slice ao' (n+m) cap') (n+m) (xs++news)/\Below L w w':=by
 obtain ⟨hE,hz1,hz2⟩:=hE;obtain ⟨i,hi,hz,hsz,hby⟩:=info_parts hE;obtain ⟨l1,l2,l3,l5⟩:=hl
 by_cases hm:m=0
 ·subst hm
  have hn:news=[]:=List.length_eq_zero_iff.1 (by omega);subst hn;refine ⟨ao,cap,w,?_,by simpa using hown,Below.refl _ _⟩
  rcases hown.2 with ⟨e,rfl⟩|⟨g,cap',cur,e,_,_,hnc,_⟩
  ·cases e
   cases bo<;>simp [Builtin.append_,run_underlying ht,sizeOf,typeInfo,hi,Builtin.lenOf,Builtin.firstCells,loadCells,loadCellsFrom,storeCells]
  ·cases e
   cases bo<;>simp [Builtin.append_,run_underlying ht,sizeOf,typeInfo,hi,Builtin.lenOf,Builtin.firstCells,hnc,storeCells,loadCells,loadCellsFrom]
 ·have hms:0<m*sz:=Nat.mul_pos (by omega) hz2
  have hh:∃u,news[0]? =some u:=⟨_,Bm5 (by omega)⟩;obtain ⟨u,hu⟩:=hh;obtain ⟨b,o,rfl,_⟩:=hnews 0 u hu;have hn2:∀j u,news[j]? =some u->w.cell? ((⟨b,o,none⟩:Addr).add j)=some u:=fun j u hj=>by
   obtain ⟨b',o',e,h⟩:=hnews j u hj
   cases e
   rw [Addr.add_lit];exact h
  obtain ⟨g,cap',w',hr,ho,hg,_,_⟩:=run_append_lies w t ty L E i z sz bytes ht hi hz hsz hby hz1 hz2 (.slice ao n cap) n xs hown ⟨b,o,none⟩ m c news l1 hn2 h1 (by omega) (by unfold maxLen;omega) l3 l5 _ rfl;exact ⟨_,cap',w',hr,ho,(Below.refl _ w).grown hg l5 (fun k hk=>(hown.lt k hk).1)⟩
theorem On:∀(l:List VD),∀u∈Ar l,u.oneCell'=true
 |[],u,h=>nomatch h
 |x::l,u,h=>by
  rw [Ar] at h
  rcases Bp3.1 h with h|h
  ·exact Sj x u h
  ·exact On l u h
theorem Ae6 (l:List VD) (k:Nat):Ar (l.take k)=(Ar l).take (k*4):=by
 induction l generalizing k with
 |nil=>simp [Ar]
 |cons x l ih=>
  cases k with
  |zero=>simp [Ar]
  |succ k=>
   rw [List.take_succ_cons,Ar,Ar,ih,show (k+1)*4=k*4+4 by omega,List.take_append];have h4:(Gj x).length=4:=rfl;rw [List.take_of_length_le (l:=Gj x) (by rw [h4];omega),h4,Nat.add_sub_cancel]
theorem Ae7 (l:List VD) (k:Nat):Ar (l.drop k)=(Ar l).drop (k*4):=by
 induction l generalizing k with
 |nil=>simp [Ar]
 |cons x l ih=>
  cases k with
  |zero=>simp [Ar]
  |succ k=>
   rw [List.drop_succ_cons,Ar,ih,show (k+1)*4=k*4+4 by omega,List.drop_append];have h4:(Gj x).length=4:=rfl;rw [List.drop_of_length_le (l:=Gj x) (by rw [h4];omega),h4,Nat.add_sub_cancel,List.nil_append]
theorem Ba2 {w:World} {ao:Option Addr} {cs:List Value} (h:Cel w ao cs) (k:Nat):Cel w ao (cs.take k):=fun i u hu=>by
 rw [List.getElem?_take] at hu
 split at hu
 ·exact h i u hu
 ·cases hu
theorem Ba3 {w:World} {b:Nat} {cs:List Value} (h:Cel w (some ⟨b,0,none⟩) cs) (k:Nat):Cel w (some ⟨b,k,none⟩) (cs.drop k):=fun i u hu=>by
 rw [List.getElem?_drop] at hu;obtain ⟨b',o',e,h2⟩:=h (k+i) u hu
 cases e
 rw [Nat.zero_add] at h2;exact ⟨b,k,rfl,h2⟩
def Fd (x:VD) (p:List VD):Nat:=(p.takeWhile (fun y=>decide (y.w<=x.w))).length
theorem Yz (x:VD) (p:List VD):Da x p=p.take (Fd x p)++x::p.drop (Fd x p):=by
 unfold Da Fd;have h:p.takeWhile (fun y=>decide (y.w<=x.w))=p.take (p.takeWhile (fun y=>decide (y.w<=x.w))).length:=by
  have h2:=List.takeWhile_append_dropWhile (p:=fun y:VD=>decide (y.w<=x.w)) (l:=p)
  conv=>rhs;arg 2;rw [<-h2]
  rw [List.take_left'];rfl
 have h3:p.dropWhile (fun y=>decide (y.w<=x.w))=p.drop (p.takeWhile (fun y=>decide (y.w<=x.w))).length:=by
  have h2:=List.takeWhile_append_dropWhile (p:=fun y:VD=>decide (y.w<=x.w)) (l:=p)
  conv=>rhs;arg 2;rw [<-h2]
  rw [List.drop_left'];rfl
 rw [<-h,<-h3]
theorem Ak4 (x:VD) (p:List VD):Fd x p<=p.length:=(List.takeWhile_sublist _).length_le
theorem Ak3 {x:VD}:∀{p:List VD} {k:Nat} (_:k<Fd x p) (hk:k<p.length),p[k].w<=x.w
 |[],_,_,hk=>absurd hk (Nat.not_lt_zero _)
 |a::p,k,h,hk=>by
  by_cases ha:a.w<=x.w
  ·have e:Fd x (a::p)=Fd x p+1:=by
    unfold Fd;simp only [List.takeWhile_cons,ha,decide_true,if_true,Bn5]
   cases k with
   |zero=>exact ha
   |succ k=>exact Ak3 (p:=p) (k:=k) (by omega) (by simpa using hk)
  ·have e:Fd x (a::p)=0:=by
    unfold Fd;simp [ha]
   omega
theorem Bf5 {x:VD} {p:List VD} (hk:Fd x p<p.length):¬p[Fd x p].w<=x.w:=by
 induction p with
 |nil=>cases hk
 |cons a p ih=>
  by_cases ha:a.w<=x.w
  ·have e:Fd x (a::p)=Fd x p+1:=by
    unfold Fd;simp only [List.takeWhile_cons,ha,decide_true,if_true,Bn5]
   simp only [e,List.getElem_cons_succ];exact ih (by rw [e] at hk;simpa using hk)
  ·have e:Fd x (a::p)=0:=by
    unfold Fd;simp [ha]
   simp only [e,List.getElem_cons_zero];exact ha
end Vi
end
section
namespace Vi
open Go Go.Proofs Go.RowKit Go.Shelf Hp Ch Ad Ro Dj
structure PickR (P:Int->Prop) (k:Nat) (row:List Int):Prop where
 asc:row.Pairwise (· <·)
 mem:∀v,v∈row↔0<=v/\v<(k:Int)/\P v
 len:row.length<=k
theorem PickR.zero {P:Int->Prop}:PickR P 0 []:=⟨.nil,fun v=>⟨fun h=>(nomatch h),fun h=>by have:=h.1;have:=h.2.1;omega⟩,Bm2 _⟩
theorem PickR.no {P:Int->Prop} {k:Nat} {row:List Int} (h:PickR P k row) (hp:¬P (k:Int)):PickR P (k+1) row:=⟨h.asc,fun v=>by
 rw [h.mem];constructor
 ·rintro ⟨a,b,c⟩
  exact ⟨a,by omega,c⟩
 ·rintro ⟨a,b,c⟩
  refine ⟨a,?_,c⟩
  rcases Int.lt_or_le v (k:Int) with h1|h1
  ·exact h1
  ·obtain rfl:v=(k:Int):=by omega
   exact absurd c hp,by have:=h.len;omega⟩
theorem PickR.yes {P:Int->Prop} {k:Nat} {row:List Int} (h:PickR P k row) (hp:P (k:Int)):PickR P (k+1) (row++[(k:Int)]):=by
 refine ⟨Br0.2 ⟨h.asc,List.pairwise_singleton _ _,fun a ha b hb=>?_⟩,fun v=>?_,by rw [Bp0,List.length_singleton];have:=h.len;omega⟩
 ·rw [Bn7.1 hb]
  exact ((h.mem a).1 ha).2.1
 ·rw [Bp3,h.mem,Bn7]
  constructor
  ·rintro (⟨a,b,c⟩|rfl)
   ·exact ⟨a,by omega,c⟩
   ·exact ⟨by omega,by omega,hp⟩
  ·rintro ⟨a,b,c⟩
   rcases Int.lt_or_le v (k:Int) with h1|h1
   ·exact .inl ⟨a,h1,c⟩
   ·exact .inr (by omega)
theorem Al9 {n:Nat} {A:Int->Int->Int->Prop} (hA:∀u v w,A u v w->Ac n u/\Ac n v) {p:Int->Prop} {u v d:Int} (h:Ch.Way A p u v d):Ac n v:=by
 induction h with
 |one h=>exact (hA _ _ _ h).2
 |cons _ _ _ ih=>exact ih
theorem Ai2 {A:Int->Int->Int->Prop} {r:Int->Int} {s v x:Int} (h:FarV A s v x):(∃d,Peak A r s v d)↔Peak A r s v x:=by
 refine ⟨fun ⟨d,hd⟩=>?_,fun h=>⟨x,h⟩⟩
 rcases h with ⟨h,_⟩|⟨_,h⟩
 ·rw [h.uniq hd.2.1]
  exact hd
 ·exact absurd hd.2.1.1 (h _)
def rnR (n:Nat) (es:List EdgeD) (g:Value) (s t:Int):Nat->Value->World->Prop
 |0,v,_=>v=g
 |1,v,_=>v=.int .i64 s
 |2,v,w=>∃b d,v=.slice (some ⟨b,0,none⟩) n n/\Cel w (some ⟨b,0,none⟩) (d.map Cb)/\AllIs es n s false [] d
 |3,v,_=>v=g
 |4,v,_=>v=.int .i64 t
 |_,v,w=>∃b d,v=.slice (some ⟨b,0,none⟩) n n/\Cel w (some ⟨b,0,none⟩) (d.map Cb)/\AllIs es n t true [] d
theorem Bi1 {n:Nat} {es:List EdgeD} {g:Value} {s t:Int}:∀i v w' w'',Below w'.heap.size w' w''->rnR n es g s t i v w'->rnR n es g s t i v w''
 |0,_,_,_,_,h=>h
 |1,_,_,_,_,h=>h
 |2,_,_,_,hb,⟨b,d,e,h,r⟩=>⟨b,d,e,h.go hb,r⟩
 |3,_,_,_,_,h=>h
 |4,_,_,_,_,h=>h
 |_+5,_,_,_,hb,⟨b,d,e,h,r⟩=>⟨b,d,e,h.go hb,r⟩
theorem Ud (n:Nat) (es:List EdgeD) (R:List Int) (S:List SC) (ro:List Int) (ao ra:Option Addr) (cap rc:Nat) (s t:Int) (w:World) (hg:Ak ⟨(n:Int),es⟩=0) (hok:HierOK es n R S ro) (hn:n<=12) (hes:es.length<=40) (hc:Cel w ao (Ay es)) (hR:Cel w ra (R.map Ai)):
  Calls Tryz.prog 41 #[.agg #[.int .i64 (n:Int),.slice ao es.length cap],.slice ra R.length rc,.int .i64 s,.int .i64 t] w (Jz n es ro s t w):=by
 obtain ⟨W,hW⟩:∃W,W=w.alloc (Obj.cells #[.int .i64 (n:Int),.slice ao es.length cap] 24):=⟨_,rfl⟩;have hbw:Below w.heap.size w W:=by rw [hW];exact Below.of_al _ _
 have c0:W.cell? ⟨w.heap.size,0,none⟩=some (.int .i64 (n:Int)):=by rw [hW];go_simp
 have c1:W.cell? ⟨w.heap.size,1,none⟩=some (.slice ao es.length cap):=by rw [hW];go_simp
 have HNs:=Bm0 (fun U=>Dm n es ao cap s U);have HNt:=Bm0 (fun U=>Dm n es ao cap t U);have HNO:=Bm0 (fun x=>(show Eg n x=false↔Ac n x by
  unfold Eg Ac;constructor
  ·intro h
   simp at h;omega
  ·intro h
   simp;omega))
 have HW:=Bm0 hW;have HB:=Bm0 hbw;unfold Jz
 by_cases hall:Eg n s=false/\Eg n t=false
 ·obtain ⟨h1,h2⟩:=hall
  have hs:=(HNO.out s).1 h1;have ht:=(HNO.out t).1 h2;obtain ⟨s,rfl⟩:∃q:Nat,s=(q:Int):=⟨s.toNat,by have:=hs.1;omega⟩;obtain ⟨t,rfl⟩:∃q:Nat,t=(q:Int):=⟨t.toNat,by have:=ht.1;omega⟩;have hsn:s<n:=by have:=hs.2;omega
  have htn:t<n:=by have:=ht.2;omega
  rw [h1] at HNs;rw [h2] at HNt;simp only [Bool.not_false] at HNs HNt;have HND:=Bm0 (And.intro hs ht);have hA:∀(bk:Bool) u v w,Bd bk (Am es) u v w->Ac n u/\Ac n v/\1<=w:=fun bk u v w h=>by
   have:=XD.ok (Si hg) u v w (Im.2 h);exact ⟨this.1,this.2.1,this.2.2.1⟩
  have HA:=Bm0 hA;have HF1:=Bm0 (fun WX (hz:Below W.heap.size W WX)=>Rb n s es ao cap false WX hg (Bm4 hn (by decide)) (Bm4 hes (by decide)) hsn ((hc.go hbw).go hz));have HF2:=Bm0 (fun WX (hz:Below W.heap.size W WX)=>Rb n t es ao cap true WX hg (Bm4 hn (by decide)) (Bm4 hes (by decide)) htn ((hc.go hbw).go hz));have HPK:=Bm0 (fun (s v:Nat) back d hs hv hd=>Vv n s v es R S ro ao ra cap rc back d hg hok hn hes hs hv hd);have HCR:=Bm0 (fun WX (hz:Below W.heap.size W WX)=>And.intro ((hc.go hbw).go hz) ((hR.go hbw).go hz));have ht0:(0:Int)<=(t:Int):=by omega
  have ht1:(t:Int)<(n:Int):=by omega
  have hni:(n:Int)<=12:=by omega
  clear h1 h2 HNO hs ht hg hc hR hbw hW hok hA
  go_enter Tryz.func41,Tryz.ntmps41
  go_upto_region 1 with (fail)
  rw [<-HW.out]
  go_upto_region 3 with (first
   |(go_at_call_of 79 (#[.agg #[.int .i64 (n:Int),.slice ao es.length cap],.int .i64 (s:Int)]:Array Value);refine (HNs.out _).mono ?_;rintro e w1 ⟨rfl,hb1⟩;(have HB1:=Bm0 hb1);(have d0:=Bm1 hb1 c0);(have d1:=Bm1 hb1 c1);clear hb1)
   |(go_at_call_of 79 (#[.agg #[.int .i64 (n:Int),.slice ao es.length cap],.int .i64 (t:Int)]:Array Value);refine (HNt.out _).mono ?_;rintro e w2 ⟨rfl,hb2⟩;(have HB2:=Bm0 (HB1.out.st hb2));(have e0:=Bm1 hb2 d0);(have e1:=Bm1 hb2 d1);clear hb2))
  refine Fg 6 _ _ rfl rfl (rnR n es (.agg #[.int .i64 (n:Int),.slice ao es.length cap]) (s:Int) (t:Int)) (by decide) (by kernel_rfl) (by kernel_rfl) (by kernel_rfl) (by kernel_rfl) Bi1 ?hop ?hend
  case hop=>
   refine ⟨?_,?_,?_,?_,?_,?_,trivial⟩
   ·intro act w' hbe hd ho K hK
    have g9:act.tmps.getD 4 undef=.pointer (some ⟨w.heap.size,0,none⟩):=ho 4 (by kernel_rfl);have f0:=Bm1 hbe e0;have f1:=Bm1 hbe e1;refine .inl ⟨Aa rfl,?_⟩;simp [Oper.wp,execOp,Oper.upon,go_sem,Act.eval,g9,f0,f1];exact hK _ w' (Below.refl _ _) rfl
   ·intro act w' hbe hd ho K hK
    have g9:act.tmps.getD 2 undef=.int .i64 (s:Int):=ho 2 (by kernel_rfl);refine .inl ⟨Aa rfl,?_⟩;simp [Oper.wp,execOp,Oper.upon,go_sem,Act.eval,g9];exact hK _ w' (Below.refl _ _) rfl
   ·intro act w' hbe hd ho K hK
    have q0:act.tmps.getD 24 undef=.agg #[.int .i64 (n:Int),.slice ao es.length cap]:=hd 0 (by rfl);have q1:act.tmps.getD 25 undef=.int .i64 (s:Int):=hd 1 (by rfl);refine .inl ⟨Aa rfl,?_⟩;simp [Oper.wp,execOp,Oper.upon,go_sem,Act.eval,q0,q1];refine (HF1.out w' (HB2.out.st hbe)).mono ?_;rintro e w6 ⟨b,dd,rfl,h1,h2,h3,h4⟩;exact hK _ w6 h2 ⟨b,dd,rfl,h1,h4⟩
   ·intro act w' hbe hd ho K hK
    have g9:act.tmps.getD 4 undef=.pointer (some ⟨w.heap.size,0,none⟩):=ho 4 (by kernel_rfl);have f0:=Bm1 hbe e0;have f1:=Bm1 hbe e1;refine .inl ⟨Aa rfl,?_⟩;simp [Oper.wp,execOp,Oper.upon,go_sem,Act.eval,g9,f0,f1];exact hK _ w' (Below.refl _ _) rfl
   ·intro act w' hbe hd ho K hK
    have g9:act.tmps.getD 3 undef=.int .i64 (t:Int):=ho 3 (by kernel_rfl);refine .inl ⟨Aa rfl,?_⟩;simp [Oper.wp,execOp,Oper.upon,go_sem,Act.eval,g9];exact hK _ w' (Below.refl _ _) rfl
   ·intro act w' hbe hd ho K hK
    have q0:act.tmps.getD 27 undef=.agg #[.int .i64 (n:Int),.slice ao es.length cap]:=hd 3 (by rfl);have q1:act.tmps.getD 28 undef=.int .i64 (t:Int):=hd 4 (by rfl);refine .inl ⟨Aa rfl,?_⟩;simp [Oper.wp,execOp,Oper.upon,go_sem,Act.eval,q0,q1];refine (HF2.out w' (HB2.out.st hbe)).mono ?_;rintro e w6 ⟨b,dd,rfl,h1,h2,h3,h4⟩;exact hK _ w6 h2 ⟨b,dd,rfl,h1,h4⟩
  case hend=>
   intro vs act wc hbc hR hon hoff hact;obtain ⟨b1,d1',a1,a2,a3⟩:=hR 2 (by decide);obtain ⟨b2,d2,a4,a5,a6⟩:=hR 5 (by decide);have q4:act.tmps.getD 26 undef=.slice (some ⟨b1,0,none⟩) n n:=(hon 2 (by decide)).trans a1;have q5:act.tmps.getD 29 undef=.slice (some ⟨b2,0,none⟩) n n:=(hon 5 (by decide)).trans a4;have z5:=(Bp5 (xs:=act.tmps) (i:=29) (d:=undef)).symm.trans q5;simp only [Dx];simp [Oper.wp,execOp,Oper.upon,go_sem,Act.eval,q4,q5,z5];rw [hact];simp only [Al,Ae,Bo2,Bo1,Bo6,Bo5,Act.put,Bn5,Bn6,Nat.reduceAdd,Bo0,Bo3,Bo4];have HC1:=Bm0 a2;have HC2:=Bm0 a5;have HI1:=Bm0 a3;have HI2:=Bm0 a6;have HBc:=Bm0 (HB2.out.st hbc);have hl1:=a3.1;have hl2:=a6.1;have f0:=Bm1 hbc e0;have f1:=Bm1 hbc e1;have m0:=Ls a2 hl1 htn;have HXT:=Bm0 (a3.far (fun u v w h=>(HA.out false u v w h).2.2) (v:=(t:Int)) ⟨ht0,ht1⟩);clear hR hon hoff hact q4 q5 z5 a1 a2 a3 a4 a5 a6 hbc c0 c1 d0 d1 e0 e1;generalize vs 0=u0;generalize vs 1=u1;generalize vs 2=u2;generalize vs 3=u3;generalize vs 4=u4;generalize vs 5=u5
   by_cases hfx:gD d1' (t:Int)<4611686018427387904
   ·have HDX:=Bm0 (show ∃d,Dist (Am es) (s:Int) (t:Int) d by
     rcases HXT.out with ⟨h,_⟩|⟨h,_⟩
     ·exact ⟨_,h⟩
     ·rw [h] at hfx
      exact absurd hfx (by decide))
    generalize gD d1' (t:Int)=x0 at m0 hfx
    go_wp2
    go_loopg [12,13] n (fun gg v12 v13 wr=>∃(k:Nat) (row:List Int),k<=n/\n-k<=gg/\v13=.int .i64 k/\Aside (wr.ownsRow wc.heap.size 3 1 v12 row.length (row.map Ai))/\Aside (PickR (fun v=>(∃d,Peak (Bd false (Am es)) (rk ro) (s:Int) v d)/\∃d,Peak (Bd true (Am es)) (rk ro) (t:Int) v d) k row)/\Aside (Below wc.heap.size wc wr))
    case atStart=>exact ⟨0,[],Bm3 _,by omega,rfl,World.ownsRow_nil _ _ _ _,(show PickR _ 0 [] from .zero),Below.refl _ _⟩
    case round=>
     obtain ⟨k,row,hk,hgg,rfl,HR,HM,HBk⟩:=hrel;have HBr:=Bm0 (HBc.out.st HBk.out);have p0:=Bm1 HBk.out f0;have p1:=Bm1 HBk.out f1
     by_cases hlt:k<n
     ·have hlt3:(k:Int)<(n:Int):=by omega
      have hk0:(0:Int)<=(k:Int):=by omega
      have m1:=Ls (HC1.out.go HBk.out) hl1 hlt;have m2:=Ls (HC2.out.go HBk.out) hl2 hlt;have hx:=HI1.out.far (fun u v w h=>(HA.out false u v w h).2.2) (v:=(k:Int)) ⟨hk0,hlt3⟩;have hy:=HI2.out.far (fun u v w h=>(HA.out true u v w h).2.2) (v:=(k:Int)) ⟨hk0,hlt3⟩;obtain ⟨B1,hB1,hP1⟩:=HPK.out s k false _ (by omega) hlt hx;obtain ⟨B2,hB2,hP2⟩:=HPK.out t k true _ (by omega) hlt hy;rw [<-Ai2 hx] at hB1;rw [<-Ai2 hy] at hB2;have HQ1:=Bm0 hB1;have HQ2:=Bm0 hB2;have P1:=Bm0 (fun p=>hP1 (ext wr p) (HCR.out _ (HBr.out.st (Ah wr p))).1 (HCR.out _ (HBr.out.st (Ah wr p))).2);have P2:=Bm0 (fun p=>hP2 (ext wr p) (HCR.out _ (HBr.out.st (Ah wr p))).1 (HCR.out _ (HBr.out.st (Ah wr p))).2);have HL:=Bm0 HM.out.len;generalize gD d1' (k:Int)=x at*;generalize gD d2 (k:Int)=y at*;clear hx hy hB1 hB2 hP1 hP2;have g0:=fun p=>Ab p p0;have g1:=fun p=>Ab p p1;have g3:=fun p=>Ab p m1;have g4:=fun p=>Ab p m2
      cases B1 with
      |false=>
       have HST:=Bm0 (HM.out.no fun h=>by have h2:=HQ1.out.2 h.1;cases h2)
       go_wp2
       refine Af (by kernel_rfl) (by kernel_rfl) ?_
       repeat (go_big_quiet_step (first|(go_at_call_of 94 (#[.agg #[.int .i64 (n:Int),.slice ao es.length cap],.slice ra R.length rc,.int .i64 (s:Int),.int .i64 (k:Int),.bool false,.int .u64 x]:Array Value);exact Calls.ext_of (P1.out _))|(go_at_call_of 94 (#[.agg #[.int .i64 (n:Int),.slice ao es.length cap],.slice ra R.length rc,.int .i64 (t:Int),.int .i64 (k:Int),.bool true,.int .u64 y]:Array Value);exact Calls.ext_of (P2.out _))))
       refine wpQuiet_nil ?_;rintro _ ⟨ps,rfl⟩;have HBs:=Bm0 (Ah wr ps);generalize ext wr ps=ws at HBs ⊢;clear g0 g1 g3 g4
       go_wp2
       go_roundg (n-(k+1))
       case measure=>omega
       case rel=>exact ⟨k+1,row,by omega,Bm2 _,by go_num,Ag HR.out HBs.out,HST.out,HBk.out.st HBs.out⟩
      |true=>
       cases B2 with
       |false=>
        have HST:=Bm0 (HM.out.no fun h=>by have h2:=HQ2.out.2 h.2;cases h2)
        go_wp2
        refine Af (by kernel_rfl) (by kernel_rfl) ?_
        repeat (go_big_quiet_step (first|(go_at_call_of 94 (#[.agg #[.int .i64 (n:Int),.slice ao es.length cap],.slice ra R.length rc,.int .i64 (s:Int),.int .i64 (k:Int),.bool false,.int .u64 x]:Array Value);exact Calls.ext_of (P1.out _))|(go_at_call_of 94 (#[.agg #[.int .i64 (n:Int),.slice ao es.length cap],.slice ra R.length rc,.int .i64 (t:Int),.int .i64 (k:Int),.bool true,.int .u64 y]:Array Value);exact Calls.ext_of (P2.out _))))
        refine wpQuiet_nil ?_;rintro _ ⟨ps,rfl⟩;have HBs:=Bm0 (Ah wr ps);generalize ext wr ps=ws at HBs ⊢;clear g0 g1 g3 g4
        go_wp2
        go_roundg (n-(k+1))
        case measure=>omega
        case rel=>exact ⟨k+1,row,by omega,Bm2 _,by go_num,Ag HR.out HBs.out,HST.out,HBk.out.st HBs.out⟩
       |true=>
        have HST:=Bm0 (HM.out.yes ⟨HQ1.out.1 rfl,HQ2.out.1 rfl⟩)
        go_wp2
        refine Af (by kernel_rfl) (by kernel_rfl) ?_
        repeat (go_big_quiet_step (first|(go_at_call_of 94 (#[.agg #[.int .i64 (n:Int),.slice ao es.length cap],.slice ra R.length rc,.int .i64 (s:Int),.int .i64 (k:Int),.bool false,.int .u64 x]:Array Value);exact Calls.ext_of (P1.out _))|(go_at_call_of 94 (#[.agg #[.int .i64 (n:Int),.slice ao es.length cap],.slice ra R.length rc,.int .i64 (t:Int),.int .i64 (k:Int),.bool true,.int .u64 y]:Array Value);exact Calls.ext_of (P2.out _))))
        refine wpQuiet_nil ?_;rintro _ ⟨ps,rfl⟩;have HBs:=Bm0 (Ah wr ps);generalize ext wr ps=ws at HBs ⊢;clear g0 g1 g3 g4;have HRs:=Bm0 (Ag HR.out HBs.out);have HB9:=Bm0 (HBk.out.st HBs.out)
        go_wp2_with (at_builtin;go_must (refine Ca wc.heap.size 3 _ 1 8 Ce Tryz.underlying25 _ row.length (row.map Ai) ⟨ws.heap.size,0,none⟩ 1 1 [.int .i64 (k:Int)] rfl rfl (World.ownsRow.alloc HRs.out _) (cell_one_new _ _ _) (Cd rfl) ⟨rfl,by decide,(by have:=HL.out;omega),(by have:=HL.out;omega),(by have:=HB9.out.size;simp;omega)⟩ ?_);intro g6 cap6 w6 hown6 hgrow6 hbl6 hat6 hlt6;(have HO6:=Bm0 hown6);(have HB6:=Bm0 ((HB9.out.al _).trans hbl6));clear hown6 hgrow6 hbl6 hat6 hlt6)
        go_roundg (n-(k+1))
        case measure=>omega
        case rel=>exact ⟨k+1,row++[(k:Int)],by omega,Bm2 _,by go_num,by rw [Bp0,Bq1];exact HO6.out,HST.out,HB6.out⟩
     ·obtain rfl:n=k:=by omega
      obtain ⟨a9,k9,rfl,hce⟩:=Cel.of_owns HR.out;have HCE:=Bm0 hce;clear hce
      go_wp2
      refine bodyPost_ret (v:=.tuple #[.slice a9 row.length k9,.int .i64 0]) (by simp [results,Tryz.results41,go_sem];try rfl) rfl ?_;have hp:=HM.out;refine ⟨a9,k9,row,0,rfl,HCE.out,HB.out.st HBr.out,.inl ⟨rfl,HND.out.1,HND.out.2,HDX.out,hp.asc,hp.len,fun v=>?_⟩⟩;rw [hp.mem];refine ⟨fun h=>h.2.2,fun h=>?_⟩;have hv:Ac n v:=by
       obtain ⟨⟨d,_,hd,_⟩,_⟩:=h
       rcases hd.1 with ⟨e,_⟩|h1
       ·rw [<-e];exact HND.out.1
       ·exact Al9 (fun u v w h=>⟨(HA.out false u v w h).1,(HA.out false u v w h).2.1⟩) h1
      exact ⟨hv.1,hv.2,h⟩
   ·have hfe:gD d1' (t:Int)=4611686018427387904/\∀e,¬Way0 (Am es) Any (s:Int) (t:Int) e:=by
     rcases HXT.out with ⟨_,h1,h2⟩|⟨h,h2⟩
     ·omega
     ·exact ⟨h,h2⟩
    have HNW:=Bm0 hfe.2;rw [hfe.1] at m0;clear hfx hfe
    go_wp2
    refine bodyPost_ret (v:=.tuple #[.slice none 0 0,.int .i64 9]) (by simp [results,Tryz.results41,go_sem];try rfl) rfl ?_;exact ⟨none,0,[],9,rfl,Cel.nil _ _,HB.out.st HBc.out,.inr ⟨by decide,rfl,.inr (.inl ⟨rfl,rfl,HND.out.1,HND.out.2,HNW.out⟩)⟩⟩
 ·have HBD:=Bm0 (show ¬(Ac n s/\Ac n t) from fun h=>hall ⟨(HNO.out s).2 h.1,(HNO.out t).2 h.2⟩)
  by_cases h1:Eg n s=true
  ·rw [h1] at HNs
   simp only [Bool.not_true] at HNs;clear hall h1 HNO hW hbw hg hc hR hok
   go_enter Tryz.func41,Tryz.ntmps41
   go_upto_region 1 with (fail)
   rw [<-HW.out]
   go_wp2_with (go_at_call 79;refine (HNs.out _).mono ?_;rintro e w1 ⟨rfl,hb1⟩;(have HB1:=Bm0 hb1);clear hb1)
   refine bodyPost_ret (v:=.tuple #[.slice none 0 0,.int .i64 7]) (by simp [results,Tryz.results41,go_sem];try rfl) rfl ?_;exact ⟨none,0,[],7,rfl,Cel.nil _ _,HB.out.st HB1.out,.inr ⟨by decide,rfl,.inr (.inr ⟨rfl,rfl,HBD.out⟩)⟩⟩
  ·have h1':Eg n s=false:=by simpa using h1
   have h2:Eg n t=true:=by
    by_cases h2:Eg n t=true
    ·exact h2
    ·exact absurd ⟨h1',by simpa using h2⟩ hall
   rw [h1'] at HNs;rw [h2] at HNt;simp only [Bool.not_true,Bool.not_false] at HNs HNt;clear hall h1 h1' h2 HNO hW hbw hg hc hR hok
   go_enter Tryz.func41,Tryz.ntmps41
   go_upto_region 1 with (fail)
   rw [<-HW.out]
   go_wp2_with (first
    |(go_at_call_of 79 (#[.agg #[.int .i64 (n:Int),.slice ao es.length cap],.int .i64 s]:Array Value);refine (HNs.out _).mono ?_;rintro e w1 ⟨rfl,hb1⟩;(have HB1:=Bm0 hb1);(have d0:=Bm1 hb1 c0);(have d1:=Bm1 hb1 c1);clear hb1)
    |(go_at_call_of 79 (#[.agg #[.int .i64 (n:Int),.slice ao es.length cap],.int .i64 t]:Array Value);refine (HNt.out _).mono ?_;rintro e w2 ⟨rfl,hb2⟩;(have HB2:=Bm0 (HB1.out.st hb2));clear hb2))
   refine bodyPost_ret (v:=.tuple #[.slice none 0 0,.int .i64 7]) (by simp [results,Tryz.results41,go_sem];try rfl) rfl ?_;exact ⟨none,0,[],7,rfl,Cel.nil _ _,HB.out.st HB2.out,.inr ⟨by decide,rfl,.inr (.inr ⟨rfl,rfl,HBD.out⟩)⟩⟩
end Vi
end
section
open Go Go.Proofs Go.RowKit
section
variable {a:Act} {P:Program} {Q:Exit->Act->World->Prop} {w:World}
def Bg7 (l:List Oper) (n m:Nat) (st om fin:Oper):Bool:=
 st.guard.isNone&&om.guard.isNone&&fin.guard.isNone&&(st.after.all fun e=>!Region.binds .any e||decide (e.on<n))&&(fin.after.all fun e=>!Region.binds .any e||decide (e.on<n+1))&&
  ((List.range n).all fun i=>i==m||(List.range (n+1)).any fun j=>decide (i<j)&&decide (j≠m)&&Region.waitsFor .any l.toArray j i)&&(fin.after.any fun e=>Region.binds .any e&&decide (e.on=n))&&(fin.after.any fun e=>Region.binds .any e&&decide (e.on=m))
def Ae2 (P:Program) (Q:Exit->Act->World->Prop) (l:List Oper) (n m:Nat) (om fin:Oper) (a:Act) (w:World) (R:Nat->Value->World->Prop) (listed:Array Bool) (a':Act) (w':World):Prop:=
 listed.size=n+2/\((listed.getD n false=false/\listed.getD (n+1) false=false/\(∀i o,i<n->l[i]? =some o->listed.getD i false=true->∀e∈o.after,Region.binds .any e=true->listed.getD e.on false=true)/\
   ∃vs:Nat->Value,a'=Al a (Ae l) vs n/\Below w.heap.size w w'/\∀i,i<n->listed.getD i false=true->R i (vs i) w')\/
  ((∀i,i<n->i≠m->listed.getD i false=true)/\listed.getD m false=false/\listed.getD n false=true/\listed.getD (n+1) false=false/\Dx P Q [om,fin] a' w')\/
  ((∀i,i<n+1->listed.getD i false=true)/\listed.getD (n+1) false=false/\Dx P Q [fin] a' w')\/
  ((∀i,i<n+2->listed.getD i false=true)/\Q .normal a' w'))
theorem Qs {id:Nat} {l:List Oper} (n m:Nat) (st om fin:Oper) (hst:l=l.take n++[st,fin]) (hln:(l.take n).length=n) (hmn:m<n) (hom:l[m]? =some om) (R:Nat->Value->World->Prop)
  (hm:P.follows .mixedOrders=true) (hB:Ps (l.take n) a.tmps.size=true) (hS:Bg7 l n m st om fin=true)
  (hmono:∀i v w' w'',Below w'.heap.size w' w''->R i v w'->R i v w'')
  (hop:Bs (fun i o=>∀(act:Act) w',Below w.heap.size w w'->(∀j,Bx l i j=true->R j (act.tmps.getD (Ae l j) undef) w')->(∀t,Hb l n t=true->act.tmps.getD t undef=a.tmps.getD t undef)->
   ∀K:Act->World->Prop,(∀v w'',Below w'.heap.size w' w''->R i v w''->K (act.put o.dst v) w'')->(No l act o true/\o.wp P act w' K Q)\/(No l act o false/\K (act.put o.dst undef) w')) 0 (l.take n))
  (hend:∀(vs:Nat->Value) act w' (done:Bool),Below w.heap.size w w'->(∀i,i<n->(i=m->done=true)->R i (vs i) w')->(∀j,j<n->act.tmps.getD (Ae l j) undef=vs j)->(∀t,Hb l n t=true->act.tmps.getD t undef=a.tmps.getD t undef)->act=Al a (Ae l) vs n->
   Dx P Q (if done then [st,fin] else [st,om,fin]) act w'):(Code.region id l.toArray true).wp P Q a w:=by
 have hlen:l.length=n+2:=by rw [hst,Bp0,hln];rfl
 have hat:∀i,i<n->l[i]? =(l.take n)[i]?:=fun i hi=>by rw [Br1 hi]
 have hda:∀i,i<n->Ae l i=Ae (l.take n) i:=fun i hi=>by unfold Ae;rw [hat i hi]
 have hatq:∀q,l[n+q]? =([st,fin]:List Oper)[q]?:=fun q=>by
  rw [hst,Bp8 (by omega),hln,Nat.add_sub_cancel_left]
 have hatn:l[n]? =some st:=hatq 0;have hatf:l[n+1]? =some fin:=hatq 1;have hg:=fun i (hi:i<n)=>Cq hB (Bm5 (show i<(l.take n).length by omega));have hD:∀i,i<n->Ae l i<a.tmps.size:=fun i hi=>by rw [hda i hi];exact (hg i hi).2.1
 have hinj:∀i j,i<n->j<n->Ae l i=Ae l j->i=j:=fun i j hi hj e=>by
  rw [hda i hi,hda j hj] at e
  rcases Nat.lt_trichotomy i j with k|k|k
  ·exact absurd e ((hg j hj).2.2.2 i k)
  ·exact k
  ·exact absurd e.symm ((hg i hi).2.2.2 j k)
 have hord:∀i o,i<n->l[i]? =some o->∀e∈o.after,Region.binds .any e=true->e.on<i:=fun i o hi ho=>(Cq hB ((hat i hi).symm.trans ho)).2.2.1;have hon:∀vs j,j<n->(Al a (Ae l) vs n).tmps.getD (Ae l j) undef=vs j:=fun vs j hj=>by
  rw [Bp5,Fp hinj hj (hD j hj)];rfl
 have hoff:∀vs t,Hb l n t=true->(Al a (Ae l) vs n).tmps.getD t undef=a.tmps.getD t undef:=fun vs t ht=>by
  rw [Bp5,Bp5,Dy (fun i hi e=>by
   have:=List.all_eq_true.1 ht i (Bp4.2 hi);simp [e] at this)]
 unfold Bg7 at hS;simp only [Bool.and_eq_true] at hS;obtain ⟨⟨⟨⟨⟨⟨⟨s1,s2⟩,s3⟩,s4⟩,s5⟩,s6⟩,s7⟩,s8⟩:=hS;have hg1:=Option.isNone_iff_eq_none.1 s1;have hg2:=Option.isNone_iff_eq_none.1 s2;have hg3:=Option.isNone_iff_eq_none.1 s3;have hsd:∀e∈st.after,Region.binds .any e=true->e.on<n:=fun e he hb=>by
  rw [Array.all_eq_true_iff_forall_mem] at s4;have:=s4 e he;rw [hb] at this
  simpa using this
 have hfd:∀e∈fin.after,Region.binds .any e=true->e.on<n+1:=fun e he hb=>by
  rw [Array.all_eq_true_iff_forall_mem] at s5;have:=s5 e he;rw [hb] at this
  simpa using this
 have hfn:∃e∈fin.after,Region.binds .any e=true/\e.on=n:=by
  obtain ⟨i,hi,h⟩:=Array.any_eq_true.1 s7;simp only [Bool.and_eq_true,decide_eq_true_eq] at h;exact ⟨_,Array.getElem_mem hi,h.1,h.2⟩
 have hfm:∃e∈fin.after,Region.binds .any e=true/\e.on=m:=by
  obtain ⟨i,hi,h⟩:=Array.any_eq_true.1 s8;simp only [Bool.and_eq_true,decide_eq_true_eq] at h;exact ⟨_,Array.getElem_mem hi,h.1,h.2⟩
 have hwait:∀i,i<n->i≠m->∃j,i<j/\j<=n/\j≠m/\∃o,l[j]? =some o/\∃e∈o.after,Region.binds .any e=true/\e.on=i:=fun i hi hne=>by
  have k1:=List.all_eq_true.1 s6 i (Bp4.2 hi);simp only [Bool.or_eq_true,beq_iff_eq,hne,false_or] at k1;obtain ⟨j,hj,k2⟩:=List.any_eq_true.1 k1;simp only [Bool.and_eq_true,decide_eq_true_eq] at k2;obtain ⟨o,ho,k3⟩:=Region.waitsFor_spec k2.2;exact ⟨j,k2.1.1,by have:=Bp4.1 hj;omega,k2.1.2,o,by simpa using ho,k3⟩
 have ha:=Gr (a:=a) (a':=a) hinj rfl rfl hD (fun _ _=>rfl);have hsetl:∀(listed:Array Bool) i j,listed.size=n+2->i<n+2->(listed.setIfInBounds i true).getD j false=if j=i then true else listed.getD j false:=fun listed i j hsz hi=>by
  by_cases e:j=i
  ·subst e
   rw [if_pos rfl,Bp5,Array.getElem?_setIfInBounds_self_of_lt (by omega)];rfl
  ·rw [if_neg e,getD_set_ne false (fun k=>e k.symm)]
 refine Dl hm (Ae2 P Q l n m om fin a w R) ?_ ?_ ?_
 ·have hz:∀i,(Array.replicate l.toArray.size false).getD i false=false:=fun i=>getD_replicate_false ..
  exact ⟨by simp [hlen],.inl ⟨hz _,hz _,fun i o _ _ k=>(by rw [hz i] at k;cases k),_,ha,(Below.refl _ w).drew,fun i _ k=>by rw [hz i] at k;cases k⟩⟩
 ·rintro listed a' w' i ⟨hsz,hJ⟩ hi
  obtain ⟨h1,o,h2,h3⟩:=mem_ready.1 hi;have h2':l[i]? =some o:=by simpa using h2
  have hlt:i<n+2:=by have:=(Bn3.1 h2').1;omega
  have hun:listed.getD i false=false:=getD_both h1;have h3':∀e∈o.after,Region.binds .any e=true->listed.getD e.on false=true:=h3
  rcases hJ with ⟨hn0,hn1,hcl,vs,rfl,hb,hR⟩|⟨hall,hm0,hn0,hn1,htw⟩|⟨hall,hn1,htw⟩|⟨hall,_⟩
  ·by_cases hin:i<n
   ·have h2h:(l.take n)[i]? =some o:=(hat i hin).symm.trans h2'
    have hdo:o.dst=some (Ae l i):=by rw [hda i hin];exact (Cq hB h2h).1
    have hK:∀(v:Value) (w'':World),Below w'.heap.size w' w''->R i v w''->Ae2 P Q l n m om fin a w R (listed.setIfInBounds i true) ((Al a (Ae l) vs n).put o.dst v) w'':=by
     intro v w'' hb2 hr;refine ⟨by simp [hsz],.inl ⟨by rw [hsetl _ _ _ hsz hlt,if_neg (by omega)];exact hn0,by rw [hsetl _ _ _ hsz hlt,if_neg (by omega)];exact hn1,?_,Gn vs i v,by rw [hdo];exact Gf hinj hD hin,hb.st hb2,?_⟩⟩
     ·intro j oj hjn hj hl e he hb'
      rw [hsetl _ _ _ hsz hlt] at hl ⊢
      split
      ·rfl
      ·by_cases hji:j=i
       ·subst hji
        rw [h2'] at hj
        cases hj
        exact h3' e he hb'
       ·rw [if_neg hji] at hl
        exact hcl j oj hjn hj hl e he hb'
     ·intro j hj hl
      rw [hsetl _ _ _ hsz hlt] at hl
      by_cases hji:j=i
      ·subst hji
       rw [show Gn vs j v j=v from if_pos rfl];exact hr
      ·rw [if_neg hji] at hl
       rw [show Gn vs i v j=vs j from if_neg hji];exact hmono j _ _ _ hb2 (hR j hj hl)
    have hopi:=Dp (l.take n) 0 hop i o h2h;rw [Nat.zero_add] at hopi;have hdeps:∀j,Bx l i j=true->R j ((Al a (Ae l) vs n).tmps.getD (Ae l j) undef) w':=by
     intro j hj;unfold Bx at hj;simp only [h2'] at hj;obtain ⟨e,he,k2⟩:=List.any_eq_true.1 hj;simp only [Bool.and_eq_true,beq_iff_eq] at k2;have h5:=hord i o hin h2' e (Array.mem_toList_iff.1 he) k2.1;have h4:=h3' e (Array.mem_toList_iff.1 he) k2.1;rw [k2.2] at h5 h4;rw [hon vs j (by omega)];exact hR j (by omega) h4
    unfold wpOp;simp only [h2]
    rcases hopi _ w' hb hdeps (fun t ht=>hoff vs t ht) (Ae2 P Q l n m om fin a w R (listed.setIfInBounds i true)) hK with ⟨hw,h⟩|⟨hw,h⟩
    ·rw [if_pos hw]
     exact .inl h
    ·rw [if_neg (by rw [show Region.wanted o (yielded l.toArray (Al a (Ae l) vs n).tmps)=false from hw];simp)]
     exact h
   ·have hin2:i=n:=by
     by_cases e:i=n+1
     ·subst e
      rw [hatf] at h2'
      cases h2'
      obtain ⟨e1,he,hb',h5⟩:=hfn;have:=h3' e1 he hb';rw [h5,hn0] at this
      cases this
     ·omega
    subst hin2;have ho:o=st:=Bo9 (h2'.symm.trans hatn);subst ho;have hall:∀d j,i-j=d->j<i->j≠m->listed.getD j false=true:=by
     intro d
     induction d using Nat.strongRecOn with
     |_ d ih=>
      intro j hd hj hne;obtain ⟨k,k1,k2,k0,ok,k3,e,he,hb',rfl⟩:=hwait j hj hne
      by_cases hk:k=i
      ·subst hk
       rw [h2'] at k3
       cases k3
       exact h3' e he hb'
      ·exact hcl k ok (by omega) k3 (ih (i-k) (by omega) k rfl (by omega) k0) e he hb'
    unfold wpOp;simp only [h2];rw [if_pos (by simp [Region.wanted,hg1])]
    cases hdn:listed.getD m false with
    |true=>
     have hgo:=hend vs _ w' true hb (fun j hj _=>hR j hj (by by_cases e:j=m;rw [e];exact hdn;exact hall _ j rfl hj e)) (fun j hj=>hon vs j hj) (fun t ht=>hoff vs t ht) rfl;rw [if_pos rfl] at hgo;refine .inl (Oper.wp_mono (fun a1 w1 hq=>?_) hgo);refine ⟨by simp [hsz],.inr (.inr (.inl ⟨fun j hj=>?_,?_,hq⟩))⟩
     ·rw [hsetl _ _ _ hsz hlt]
      split
      ·rfl
      ·by_cases e:j=m
       ·rw [e];exact hdn
       ·exact hall _ j rfl (by omega) e
     ·rw [hsetl _ _ _ hsz hlt,if_neg (by omega)]
      exact hn1
    |false=>
     have hgo:=hend vs _ w' false hb (fun j hj e=>hR j hj (hall _ j rfl hj (fun e2=>by cases e e2))) (fun j hj=>hon vs j hj) (fun t ht=>hoff vs t ht) rfl;rw [if_neg (by simp)] at hgo;refine .inl (Oper.wp_mono (fun a1 w1 hq=>?_) hgo);refine ⟨by simp [hsz],.inr (.inl ⟨fun j hj hne=>?_,?_,?_,?_,hq⟩)⟩
     ·rw [hsetl _ _ _ hsz hlt]
      split
      ·rfl
      ·exact hall _ j rfl hj hne
     ·rw [hsetl _ _ _ hsz hlt,if_neg (by omega)]
      exact hdn
     ·rw [hsetl _ _ _ hsz hlt,if_pos rfl]
     ·rw [hsetl _ _ _ hsz hlt,if_neg (by omega)]
      exact hn1
  ·have him:i=m:=by
    by_cases e:i=m
    ·exact e
    ·by_cases e2:i<n
     ·rw [hall i e2 e] at hun
      cases hun
     ·by_cases e3:i=n
      ·rw [e3,hn0] at hun
       cases hun
      ·obtain rfl:i=n+1:=by omega
       rw [hatf] at h2'
       cases h2'
       obtain ⟨e1,he,hb',h5⟩:=hfm;have:=h3' e1 he hb';rw [h5,hm0] at this
       cases this
   subst him;have ho:o=om:=Bo9 (h2'.symm.trans hom);subst ho;unfold wpOp;simp only [h2];rw [if_pos (by simp [Region.wanted,hg2])];refine .inl (Oper.wp_mono (fun a1 w1 hq=>?_) htw);refine ⟨by simp [hsz],.inr (.inr (.inl ⟨fun j hj=>?_,?_,hq⟩))⟩
   ·rw [hsetl _ _ _ hsz hlt]
    split
    ·rfl
    ·by_cases e:j=n
     ·rw [e];exact hn0
     ·rename_i e2
      exact hall j (by omega) e2
   ·rw [hsetl _ _ _ hsz hlt,if_neg (by omega)]
    exact hn1
  ·have hin:i=n+1:=by
    by_cases e:i<n+1
    ·rw [hall i e] at hun
     cases hun
    ·omega
   subst hin;rw [hatf] at h2'
   cases h2'
   unfold wpOp;simp only [h2];rw [if_pos (by simp [Region.wanted,hg3])];refine .inl (Oper.wp_mono (fun a1 w1 hq=>?_) htw);refine ⟨by simp [hsz],.inr (.inr (.inr ⟨fun j hj=>?_,hq⟩))⟩;rw [hsetl _ _ _ hsz hlt]
   split
   ·rfl
   ·exact hall j (by omega)
  ·rw [hall i hlt] at hun
   cases hun
 ·rintro listed a' w' ⟨hsz,hJ⟩ hr
  have hall:∀d i,i=d->i<n+2->listed.getD i false=true:=by
   intro d
   induction d using Nat.strongRecOn with
   |_ d ih=>
    rintro i rfl hi
    cases hl:listed.getD i false with
    |true=>rfl
    |false=>
     have hin:i∈Region.ready .any l.toArray listed:=by
      refine mem_ready.2 ⟨Go.getD_in (by omega) hl,l[i]'(by omega),by simp [hlen,hi],fun e he hb'=>?_⟩;have h6:e.on<i:=by
       by_cases k:i<n
       ·exact hord i _ k (Bm5 (by omega)) e he hb'
       ·by_cases k2:i=n
        ·subst k2
         have:l[i]'(by omega)=st:=by
          have h:=hatn;rw [Bm5 (by omega)] at h;exact Bo9 h
         rw [this] at he;exact hsd e he hb'
        ·obtain rfl:i=n+1:=by omega
         have:l[n+1]'(by omega)=fin:=by
          have h:=hatf;rw [Bm5 (by omega)] at h;exact Bo9 h
         rw [this] at he;exact hfd e he hb'
      exact ih e.on h6 e.on rfl (by omega)
     rw [hr] at hin
     cases hin
  rcases hJ with ⟨hn0,_⟩|⟨_,hm0,_⟩|⟨_,hn1,_⟩|⟨_,hq⟩
  ·rw [hall n n rfl (by omega)] at hn0
   cases hn0
  ·rw [hall m m rfl (by omega)] at hm0
   cases hm0
  ·rw [hall (n+1) (n+1) rfl (by omega)] at hn1
   cases hn1
  ·exact hq
end
end
end Go.Proofs.YteaaapdjplbljaaGreat
