/- Parts; no condition. -/
import Derived.Test.YteaaapdjplbljaaGreatVc36
import Derived.Lib.AppendZeros
set_option linter.unusedVariables false
set_option linter.unusedSimpArgs false
set_option linter.unnecessarySimpa false
set_option maxRecDepth 100000
set_option maxHeartbeats 8000000
namespace Go.Proofs.YteaaapdjplbljaaGreat
section
namespace Dj
open Go Go.Proofs Go.RowKit Ch Ad
theorem Vq {A:Int->Int->Int->Prop} {n:Nat} {M s:Int} (hM:0<=M) (hA:∀u v w,A u v w->Aa n u/\Aa n v/\1<=w/\w<=M):∀(k:Nat) (t d:Int) (L:List Int),Aa n t->Dist A s t d->(∀v∈L,Aa n v/\∃e,Dist A s v e/\d<e)->L.Nodup->n<=L.length+k->d<=M*(k:Int)
 |k,t,d,L,ht,hd,hL,hN,hk=>by
  have hin:t∉L:=fun h=>by
   obtain ⟨-,e,h1,h2⟩:=hL t h;have:=h1.2 _ hd.1;omega
  have hlen:(t::L).length<=n:=by
   have h9:=Da (t::L) (Kj n) (List.nodup_cons.2 ⟨hin,hN⟩) (fun u hu=>Cm.2 (by
    rcases Bl7.1 hu with rfl|hu
    ·exact ht
    ·exact (hL u hu).1))
   rw [Dn] at h9;exact h9
  rw [Bk0] at hlen
  cases k with
  |zero=>omega
  |succ k=>
   by_cases hst:s=t
   ·have:=hd.2 0 (.inl ⟨hst,rfl⟩)
    have:=Int.mul_nonneg hM (show (0:Int)<=((k+1:Nat):Int) by omega);omega
   ·obtain ⟨m,w,h1,h2⟩:=hd.pred hst
    have h3:=hA _ _ _ h1;have h4:=Vq hM hA k m (d-w) (t::L) h3.1 h2 (fun v hv=>by
     rcases Bl7.1 hv with rfl|hv
     ·exact ⟨ht,d,hd,by omega⟩
     ·obtain ⟨h5,e,h6,h7⟩:=hL v hv
      exact ⟨h5,e,h6,by omega⟩) (List.nodup_cons.2 ⟨hin,hN⟩) (by rw [Bk0];omega)
    have e:((k+1:Nat):Int)=(k:Int)+1:=by omega
    rw [e,Int.mul_add,Int.mul_one];omega
def Vd (b:Bool) (e:EdgeD):Int:=if b then e.f else e.t
def XD (es:List EdgeD) (bk:Bool):Nums:=fun i u v w=>∃j:Nat,i=(j:Int)/\∃h:j<es.length,Vg bk es[j]=u/\Vd bk es[j]=v/\es[j].w=w
def EOK (n:Nat) (es:List EdgeD):Prop:=∀e∈es,Aa n e.f/\Aa n e.t/\1<=e.w/\e.w<=4294967296
theorem EOK.key {n:Nat} {es:List EdgeD} (h:EOK n es) (bk:Bool):∀e∈es,Aa n (Vg bk e):=fun e he=>by
 unfold Vg
 cases bk
 ·exact (h e he).1
 ·exact (h e he).2.1
theorem EOK.oth {n:Nat} {es:List EdgeD} (h:EOK n es) (bk:Bool):∀e∈es,Aa n (Vd bk e):=fun e he=>by
 unfold Vd
 cases bk
 ·exact (h e he).2.1
 ·exact (h e he).1
theorem XD.ok {n:Nat} {es:List EdgeD} {bk:Bool} (h:EOK n es):∀u v w,(XD es bk).rel u v w->Aa n u/\Aa n v/\1<=w/\w<=4294967296:=by
 rintro u v w ⟨i,j,rfl,hj,rfl,rfl,rfl⟩;have he:=Bj7 hj;exact ⟨h.key bk _ he,h.oth bk _ he,(h _ he).2.2.1,(h _ he).2.2.2⟩
theorem XD.uniq {es:List EdgeD} {bk:Bool} {i u v w v' w':Int} (h:XD es bk i u v w) (h':XD es bk i u v' w'):v'=v/\w'=w:=by
 obtain ⟨j,e1,hj,h1,h2,h3⟩:=h;obtain ⟨j',e2,hj',h1',h2',h3'⟩:=h';have:j=j':=by omega
 subst this;exact ⟨h2'.symm.trans h2,h3'.symm.trans h3⟩
theorem Wk {n:Nat} {es:List EdgeD} {bk:Bool} {v:Nat} {x:Pd} (h:EOK n es) (hx:x∈It es bk v):∃j:Nat,x.1=(j:Int)/\j<es.length/\x.2∈es/\es[j]? =some x.2/\XD es bk x.1 (v:Int) (Vd bk x.2) x.2.w:=by
 obtain ⟨i,hi,rfl⟩:=List.mem_map.1 hx;obtain ⟨j,rfl,hj,hk⟩:=Dk.1 hi;have e:(Er es (j:Int)).2=es[j]:=by
  unfold Er;rw [Bj9,Bj1,Bj0 hj];rfl
 refine ⟨j,rfl,hj,by rw [e];exact Bj7 hj,by rw [e,Bj0 hj],⟨j,rfl,hj,?_,by rw [e],by rw [e]⟩⟩;unfold kfE at hk;rw [Bj1,Bj0 hj,Bl0] at hk;have:=(h.key bk _ (Bj7 hj)).1;omega
theorem Ay0 {es:List EdgeD} {bk:Bool} {v:Nat} {i y w:Int} (h:XD es bk i (v:Int) y w):∃x∈It es bk v,x.1=i:=by
 obtain ⟨j,rfl,hj,h1,-,-⟩:=h;refine ⟨Er es (j:Int),List.mem_map.2 ⟨(j:Int),Dk.2 ⟨j,rfl,hj,?_⟩,rfl⟩,rfl⟩;unfold kfE;rw [Bj1,Bj0 hj,Bl0,h1,Bj9]
end Dj
end
section
open Go Go.Proofs Go.RowKit Go.Shelf
theorem Wr {P:Program} {w:World} (t ty:TypeId) (base:Nat) (E:TypeId) (z:Value) (bytes:Nat) (hE:Gq P E z 1 bytes) (ht:P.underlying t=some (.slice E))
  (v:Value) (n:Nat) (xs:List Value) (hown:w.ownsRow base E 1 v n xs) (ad:Addr) (c:Nat) (x:Value) (hx:∀j u,[x][j]? =some u->w.cell? (ad.add j)=some u) (h1:x.oneCell'=true)
  (hl:n+1<=9223372036854775807/\(n+1)*bytes<=140737488355328/\base<=w.heap.size):
  ∃g cap w',(Builtin.append_ #[t,t] ty #[v,.slice (some ad) 1 c]).run P w=.ok (.slice (some ⟨g,0,none⟩) (n+1) cap) w'/\w'.ownsRow base E 1 (.slice (some ⟨g,0,none⟩) (n+1) cap) (n+1) (xs++[x])/\w'.ownsRow base E 1 v n xs/\
   w.grownBy w' v.ownBlock/\(v.ownBlock=some g\/g=w.heap.size)/\g<w'.heap.size:=by
 obtain ⟨hE,hz1,hz2⟩:=hE;obtain ⟨i,hi,hz,hsz,hby⟩:=info_parts hE;obtain ⟨l2,l3,l5⟩:=hl;have h1':∀u∈[x],u.oneCell'=true:=fun u hu=>by obtain rfl:=Bk2.1 hu;exact h1
 obtain ⟨g,cap,w',hr,ho,hg,hat,hlt⟩:=run_append_lies w t ty base E i z 1 bytes ht hi hz hsz hby hz1 hz2 v n xs hown ad 1 c [x] rfl hx h1' (by omega) (by unfold maxLen;omega) l3 l5 _ rfl;refine ⟨g,cap,w',hr,ho,?_,hg,hat,hlt⟩
 rcases hown.2 with ⟨rfl,rfl⟩|⟨g0,cap0,cur,rfl,hbg,hg0,hnc,hcm,hcs,htake⟩
 ·have:xs=[]:=List.eq_nil_of_length_eq_zero (by simpa using hown.1)
  subst this;exact World.ownsRow_nil _ _ _ _
 ·by_cases hroom:n+1<=cap0
  ·have hr2:=run_append_room (P:=P) w t ty E i ht hi g0 n cap0 cur hg0 ad 1 c [x] (by rw [hsz];rfl) hx h1' hroom (by rw [hsz,hcs];simp;omega)
   rw [hr] at hr2
   injection hr2 with h2 h3
   subst h3;refine ⟨hown.1,.inr ⟨g0,cap0,_,rfl,hbg,setRow_heap w g0 cur _ E _ hg0,hnc,hcm,?_,?_⟩⟩
   ·rw [hsz]
    have hcs':cur.toList.length=cap0:=by rw [Array.length_toList,hcs,Nat.mul_one]
    simp only [List.size_toArray,Bl5,List.length_take,List.length_drop,List.length_singleton,hcs'];omega
   ·rw [hsz] at*
    have hxl:xs.length=n*1:=hown.1;rw [htake,Bm8]
    show List.take (n*1) (xs++_)=xs
    rw [<-hxl,List.take_left'];rfl
  ·have holds:∀j u,xs[j]? =some u->w.cell? ((⟨g0,0,none⟩:Addr).add j)=some u:=hown.cells (g:=g0) rfl
   have hr2:=run_append_grow (P:=P) w t ty E i z ht hi hz ⟨g0,0,none⟩ n cap0 xs (by rw [hsz];exact hown.1) holds ad 1 c [x] (by rw [hsz];rfl) hx (by omega) (by omega) (growslice_fits (by omega) (by rw [hby];exact l3));rw [hr] at hr2
   injection hr2 with h2 h3
   subst h3;exact ⟨hown.1,.inr ⟨g0,cap0,cur,rfl,hbg,(show (w.drew.alloc _).heap[g0]? =w.heap[g0]? by first|exact heap_alloc_old w.drew _ _ (Bj2.1 hg0).1|exact heap_alloc_old w.drew _ (Bj2.1 hg0).1).trans hg0,hnc,hcm,hcs,htake⟩⟩
end
section
open Go Go.Proofs Go.RowKit
theorem Ug:Gq Tryz.prog 37 (.int .u64 0) 1 8:=⟨by kernel_rfl,rfl,by decide⟩
theorem Bf7 {w:World} {b:Nat} {x:Value} (h:w.cell? ⟨b,0,none⟩=some x):∀j u,[x][j]? =some u->w.cell? ((⟨b,0,none⟩:Addr).add j)=some u:=by
 intro j u hj
 cases j with
 |zero=>
  obtain rfl:x=u:=by simpa using hj
  exact h
 |succ j=>simp at hj
theorem Ab6 {w w':World} {v:Value} (h:w.grownBy w' v.ownBlock):OffX (fun k=>v.ownBlock=some k) w w':=⟨h.os,h.tape,h.output,h.size,fun k hk hn=>h.block k hk (fun e=>hn e.symm)⟩
theorem Ub {w:World} {base n:Nat} {e:TypeId} {v:Value} {xs:List Value} (h:w.ownsRow base e 1 v n xs):∀k,v.ownBlock=some k->base<=k/\k<w.heap.size:=by
 intro k hk
 rcases h.2 with ⟨rfl,_⟩|⟨g,cap,cur,rfl,hb,hg,_⟩
 ·cases hk
 ·obtain rfl:g=k:=Bl4 hk
  exact ⟨hb,(Bj2.1 hg).1⟩
end
section
open Go Go.Proofs Go.RowKit Go.Shelf Hp Ch
def Eb (bk:Bool):Value:=.agg #[.bool bk,.slice none 0 0,.slice none 0 0,.slice none 0 0,.int .u64 0]
theorem Ya (f:Value) (w:World):Calls Tryz.prog 242 #[.slice none 0 0,f] w fun e w'=>e=.returned (.int .i64 (-1))/\w=w':=by
 go_enter Tryz.func242,Tryz.ntmps242
 go_wp2
 refine wp_loop_rounds 1 ?_;rw [rounds_succ]
 go_wp2
 go_ret
 exact ⟨rfl,rfl⟩
theorem Rq (f:Value) (w:World):Calls Tryz.prog 186 #[.slice none 0 0,f] w fun e w'=>e=.returned (.bool false)/\w=w':=by
 have HI:=Bi5 (Ya f w);have h9:decide ((0:Int)<=-1)=false:=by decide
 go_enter Tryz.func186,Tryz.ntmps186
 go_wp2_with (go_at_call 242;refine HI.out.mono ?_;rintro e w1 ⟨rfl,hw1⟩;obtain rfl:=hw1.symm)
 go_ret
 exact ⟨rfl,rfl⟩
theorem Pb (n:Nat) (es:List EdgeD) (ao:Option Addr) (cap:Nat) (s:Int) (bk:Bool) (w:World) (hg:Ak ⟨(n:Int),es⟩=0) (hes:es.length<=1000000) (hs:Aa n s) (hc:Cel w ao (Ax es)):
  Calls Tryz.prog 133 #[.agg #[.int .i64 (n:Int),.slice ao es.length cap],.int .i64 s,Eb bk] w fun e w'=>e=.returned (.int .i64 0)/\Below w.heap.size w w':=by
 obtain ⟨W,hW⟩:∃W,W=(w.alloc (Obj.cells #[.int .i64 (n:Int),.slice ao es.length cap] 24)).alloc (Obj.cells #[.bool bk,.slice none 0 0,.slice none 0 0,.slice none 0 0,.int .u64 0] 135):=⟨_,rfl⟩;have hbw:Below w.heap.size w W:=by rw [hW];exact (Below.of_al _ _).al _
 have c0:W.cell? ⟨w.heap.size,0,none⟩=some (.int .i64 (n:Int)):=by rw [hW];go_simp
 have c1:W.cell? ⟨w.heap.size,1,none⟩=some (.slice ao es.length cap):=by rw [hW];go_simp
 have c5:W.cell? ⟨w.heap.size+1,3,none⟩=some (.slice none 0 0):=by rw [hW];go_simp
 have HR:=Bi5 (Dm ⟨(n:Int),es⟩ ao cap W (by show es.length<=_;omega) (hc.go hbw));rw [hg] at HR;have HND:=Bi5 (fun U=>Hc ⟨(n:Int),es⟩ ao cap s U);rw [show Bs (⟨(n:Int),es⟩:GD).n s=true by unfold Bs;rw [decide_eq_true hs.1,decide_eq_true hs.2];rfl] at HND;have HCF:=Bi5 Rq;have HW:=Bi5 hW;have HB:=Bi5 hbw;unfold Eb;clear hW hbw hc hg hs
 go_enter Tryz.func133,Tryz.ntmps133
 go_upto_region 1 with (fail)
 rw [<-HW.out]
 go_wp2_with (first
  |(go_at_call 72;refine HR.out.mono ?_;rintro e w1 ⟨rfl,hb1⟩;(have HB1:=Bi5 hb1);(have x0:=Bi6 hb1 c0);(have x1:=Bi6 hb1 c1);(have x5:=Bi6 hb1 c5);clear hb1)
  |(go_at_call 75;refine (HND.out _).mono ?_;rintro e w2 ⟨rfl,hb2⟩;(have HB2:=Bi5 (HB1.out.st hb2));(have y5:=Bi6 hb2 x5);clear hb2)
  |(go_at_call 186;refine (HCF.out _ _).mono ?_;rintro e w3 ⟨rfl,hw3⟩;obtain rfl:=hw3.symm))
 go_ret
 exact ⟨rfl,HB.out.st HB2.out⟩
theorem Qm {w:World} {B B' n:Nat} {e:TypeId} {v:Value} {xs:List Value} (h:w.ownsRow B e 1 v n xs) (hB:B'<=B):w.ownsRow B' e 1 v n xs:=⟨h.1,h.2.imp id (fun ⟨g,c,cur,e,h1,r⟩=>⟨g,c,cur,e,by omega,r⟩)⟩
def Hk (es:List EdgeD):List Int:=es.map (·.w)
theorem Kv (n:Nat) (es:List EdgeD) (ao:Option Addr) (cap:Nat) (bk:Bool) (w:World) (hg:Ak ⟨(n:Int),es⟩=0) (hes:es.length<=1000000) (hc:Cel w ao (Ax es)):
  Calls Tryz.prog 135 #[.agg #[.int .i64 (n:Int),.slice ao es.length cap],Eb bk] w fun e w'=>∃a c,e=.returned (.slice a es.length c)/\w'.ownsRow w.heap.size 37 1 (.slice a es.length c) es.length ((Hk es).map Bz)/\Below w.heap.size w w':=by
 obtain ⟨W,hW⟩:∃W,W=(w.alloc (Obj.cells #[.int .i64 (n:Int),.slice ao es.length cap] 24)).alloc (Obj.cells #[.bool bk,.slice none 0 0,.slice none 0 0,.slice none 0 0,.int .u64 0] 135):=⟨_,rfl⟩;have hbw:Below w.heap.size w W:=by rw [hW];exact (Below.of_al _ _).al _
 have c0:W.cell? ⟨w.heap.size,0,none⟩=some (.int .i64 (n:Int)):=by rw [hW];go_simp
 have c1:W.cell? ⟨w.heap.size,1,none⟩=some (.slice ao es.length cap):=by rw [hW];go_simp
 have c5:W.cell? ⟨w.heap.size+1,3,none⟩=some (.slice none 0 0):=by rw [hW];go_simp
 have HR:=Bi5 (Dm ⟨(n:Int),es⟩ ao cap W (by show es.length<=_;omega) (hc.go hbw));rw [hg] at HR;have HC:=Bi5 (hc.go hbw);have HW:=Bi5 hW;have HB:=Bi5 hbw;have hel:(es.length:Int)<=1000000:=by omega
 unfold Eb;clear hW hbw hc hg
 go_enter Tryz.func135,Tryz.ntmps135
 go_upto_region 1 with (fail)
 rw [<-HW.out]
 go_upto_region 6 with (go_at_call 72;refine HR.out.mono ?_;rintro e w1 ⟨rfl,hb1⟩;(have HB1:=Bi5 hb1);(have x1:=Bi6 hb1 c1);(have x5:=Bi6 hb1 c5);clear hb1)
 clear c0 c1 c5
 go_loopg [4,35] es.length (fun gg v4 v35 wr=>∃k:Nat,k<=es.length/\es.length-k<=gg/\v35=.int .i64 (k:Int)/\Aside (wr.ownsRow W.heap.size 37 1 v4 k (((Hk es).take k).map Bz))/\Aside (Below W.heap.size W wr))
 case atStart=>exact ⟨0,Bi8 _,by omega,rfl,World.ownsRow_nil _ _ _ _,HB1.out⟩
 case round=>
  obtain ⟨k,hk,hgg,rfl,h1,h2⟩:=hrel;have HOW:=Bi5 h1.out;have HBR:=Bi5 h2.out;clear h1 h2
  by_cases hlt:k<es.length
  ·have hlt2:(k:Int)<(es.length:Int):=by omega
   have hk0:(0:Int)<=(k:Int):=by omega
   obtain ⟨eb,eo,hea,a0,a1,a2⟩:=(HC.out.go HBR.out).edge hlt;have HT:=Bi5 (show (Hk es).take (k+1)=(Hk es).take k++[es[k].w] by unfold Hk;rw [<-List.map_take,<-List.map_take,Bk3 hlt,Bm6];rfl);generalize es[k]=x at*;obtain ⟨xf,xt,xw⟩:=x;simp only at a0 a1 a2 HT;subst hea
   go_upto_region 8 with (fail)
   obtain ⟨W1,hW1⟩:∃W1,W1=wr.alloc (Obj.cells #[.int .i64 xf,.int .i64 xt,.int .u64 xw] 109):=⟨_,rfl⟩;have hb1:Below wr.heap.size wr W1:=by rw [hW1];exact Below.of_al _ _
   have x2:W1.cell? ⟨wr.heap.size,2,none⟩=some (.int .u64 xw):=by rw [hW1];go_simp
   rw [<-hW1];have hown:=Af HOW.out (hb1.st (Below.of_al W1 (Obj.cells #[.int .u64 xw] 37)));obtain ⟨g6,c6,w6,r6,o6,p6,g7,t6,l6⟩:=Wr (P:=Tryz.prog) 60 60 W.heap.size 37 _ 8 Ug Tryz.underlying60 u4 k (((Hk es).take k).map Bz) hown ⟨W1.heap.size,0,none⟩ 1 (.int .u64 xw) (Bf7 (by go_simp)) rfl ⟨by omega,by omega,by have:=(HBR.out.st hb1).size;simp;omega⟩;have HR6:=Bi5 r6;have HO6:=Bi5 o6;have HB6:=Bi5 (show Below W.heap.size W w6 from by
    have h1:=HBR.out.st hb1;exact h1.trans (((Below.of_al W1 (Obj.cells #[.int .u64 xw] 37)).mono h1.size).trans ((Ab6 g7).below (by have:=h1.size;simp;omega) (fun k h=>(Ub hown k h).1))))
   clear hW1 hown r6 o6 p6 g7 t6 l6 HOW a0 a1 a2;generalize wr.heap.size=zz at*
   go_wp2_with (at_builtin;refine Lib.wpList_append_run _ rfl _ _ _ _ rfl _ _ rfl rfl _ _ HR6.out ?_)
   go_roundg (es.length-(k+1))
   case measure=>omega
   case rel=>exact ⟨k+1,by omega,Bi7 _,by go_num,by rw [HT.out,Bm6];exact HO6.out,HB6.out⟩
  ·obtain rfl:k=es.length:=by omega
   obtain ⟨a6,c6,e6,h6⟩:=Cel.of_owns HOW.out;subst e6;have HT:=Bi5 (show (Hk es).take es.length=Hk es from List.take_of_length_le (by unfold Hk;simp));clear h6
   go_wp2
   go_ret
   rw [HT.out] at HOW;exact ⟨a6,c6,rfl,Qm HOW.out HB.out.size,HB.out.st HBR.out⟩
end
section
open Go Go.Proofs Go.RowKit Go.Shelf Hp Ch
def Eg (n:Nat):Nat:=(n+63) / 64
def BitZ (W:World) (b a n:Nat):Prop:=W.cell? ⟨b,0,none⟩=some (.int .i64 (n:Int))/\W.cell? ⟨b,1,none⟩=some (.slice (some ⟨a,0,none⟩) (Eg n) (Eg n))/\(∀i,i<Eg n->W.cell? ⟨a,i,none⟩=some (.int .u64 0))/\b<W.heap.size/\a<W.heap.size
theorem BitZ.kept {W W':World} {b a n:Nat} (h:BitZ W b a n) (hz:W.heap.size<=W'.heap.size) (hb:W'.heap[b]? =W.heap[b]?) (ha:W'.heap[a]? =W.heap[a]?):BitZ W' b a n:=by
 obtain ⟨h1,h2,h3,h4,h5⟩:=h;exact ⟨(Bl2 (w:=W) (w':=W') (a:=⟨b,0,none⟩) hb).trans h1,(Bl2 (w:=W) (w':=W') (a:=⟨b,1,none⟩) hb).trans h2,fun i hi=>(Bl2 (w:=W) (w':=W') (a:=⟨a,i,none⟩) ha).trans (h3 i hi),by omega,by omega⟩
theorem BitZ.go {W W':World} {b a n:Nat} (h:BitZ W b a n) (hb:Below W.heap.size W W'):BitZ W' b a n:=h.kept hb.size (hb.block _ h.2.2.2.1) (hb.block _ h.2.2.2.2)
def Pt (n:Nat) (w:World) (e:Ending) (w':World):Prop:=∃b a,e=.returned (.pointer (some ⟨b,0,none⟩))/\BitZ w' b a n/\w.heap.size<=b/\w.heap.size<=a/\Below w.heap.size w w'
theorem Ap0 (n:Nat) (hn:n<=65536) (w:World):
  Calls Tryz.prog 244 #[.int .i64 (n:Int)] w (Pt n w):=by
 have h1:¬(n:Int)<0:=by omega
 have h2:¬(65536:Int)<(n:Int):=by omega
 have h3:(0:Int)<=(n:Int):=by omega
 have hq:((n:Int)+64-1).tdiv 64=((Eg n:Nat):Int):=by unfold Eg;rw [show (n:Int)+64-1=((n+63:Nat):Int) by omega];exact rfl
 have hk:Eg n<=60000:=by unfold Eg;omega
 obtain ⟨k,hk9⟩:∃k,k=Eg n:=⟨_,rfl⟩;rw [<-hk9] at hq hk;have HK:=Bi5 hk9.symm;clear hk9
 go_enter Tryz.func244,Tryz.ntmps244
 go_wp2_with (at_make;go_must ((with_reducible refine Ef 0 37 _ 1 8 Ug Tryz.underlying60 k ?_ ?_ ?_ ?_ ?_ ?_ ?_ ?_);rotate_left 4;(· rfl);(· rfl);(· exact ⟨by simp,by simp,by omega,by omega,by simp⟩);intro w1 hown hbl hsz1;(have HO1:=Bi5 hown;have HB1:=Bi5 hbl;clear hown hbl)))
 go_ret
 have hb2:Below w1.heap.size w1 (w1.alloc (Obj.cells #[.int .i64 (n:Int),.slice (some ⟨w.heap.size,0,none⟩) k k] 337)):=Below.of_al _ _;refine ⟨w1.heap.size,w.heap.size,rfl,⟨by go_simp,by rw [HK.out];go_simp,fun i hi=>?_,by simp,by simp;omega⟩,by omega,Bi7 _,HB1.out.al _⟩;rw [HK.out] at hi;obtain ⟨a',c',e',hc'⟩:=Cel.of_owns HO1.out
 cases e'
 obtain ⟨b',o',e2,h9⟩:=hc' i (.int .u64 0) (by rw [show (Value.int IntKind.u64 0).cells=#[Value.int .u64 0] from rfl,Nat.mul_one,toList_madeCells_one,Bm5];simp [hi])
 cases e2
 rw [Nat.zero_add] at h9;exact Bi6 hb2 h9
theorem Ad7 (b a n:Nat) (w:World) (h:BitZ w b a n):
  Calls Tryz.prog 246 #[.pointer (some ⟨b,0,none⟩)] w fun e w'=>e=.returned (.int .i64 (n:Int))/\w=w':=by
 obtain ⟨h1,-⟩:=h
 go_enter Tryz.func246,Tryz.ntmps246
 go_wp2
 go_ret
 exact ⟨rfl,rfl⟩
theorem Oc (b a n:Nat) (i:Int) (w:World) (h:BitZ w b a n) (hn:n<=65536) (h0:0<=i) (h1:i<(n:Int)):
  Calls Tryz.prog 193 #[.pointer (some ⟨b,0,none⟩),.int .i64 i] w fun e w'=>e=.returned (.bool false)/\w=w':=by
 have HS:=Bi5 (Ad7 b a n w h);obtain ⟨c0,c1,c2,-⟩:=h;obtain ⟨j,rfl⟩:∃j:Nat,i=(j:Int):=⟨i.toNat,by omega⟩;have hj:j / 64<Eg n:=by unfold Eg;omega
 have hd:((j:Int)).tdiv 64=((j / 64:Nat):Int):=rfl;have hm:((j:Int)).tmod 64=((j % 64:Nat):Int):=rfl;have hm2:j % 64<64:=Nat.mod_lt _ (by decide);have c3:=c2 _ hj;have hk9:Eg n<=1024:=by unfold Eg;omega
 generalize Eg n=k at*;generalize j / 64=q at*;generalize j % 64=r at*;have hq0:(0:Int)<=(q:Int):=by omega
 have hq1:(q:Int)<(k:Int):=by omega
 have hr0:(0:Int)<=(r:Int):=by omega
 have hqw:wrap64 (q:Int)=(q:Int):=by unfold wrap64;omega
 have hrw:wrap64 (r:Int)=(r:Int):=by unfold wrap64;omega
 have hb:(bits BinOp.and IntKind.u64 0 1==1)=false:=by decide
 clear c2
 go_enter Tryz.func193,Tryz.ntmps193
 go_wp2_with (go_at_call 246;refine HS.out.mono ?_;rintro e w1 ⟨rfl,hw1⟩;obtain rfl:=hw1.symm)
 go_ret
 exact ⟨rfl,rfl⟩
theorem Ys (n:Nat) (hn:n<=65536) (w:World):
  Calls Tryz.prog 192 #[.int .i64 (n:Int),.slice none 0 0] w (Pt n w):=by
 have hmf:∀(fn:Fn) (first cap:Array Value) (w:World),(Instr.makeFunc fn first cap).run Tryz.prog w=.ok (.func fn first cap) w:=fun _ _ _ _=>rfl;have HN:=Bi5 (Ap0 n hn w);unfold Pt at HN
 go_enter Tryz.func192,Tryz.ntmps192
 go_upto_region 4 with (go_at_call 244;refine HN.out.mono ?_;rintro e w1 ⟨b,a,rfl,h1⟩;(have HB1:=Bi5 h1);clear h1)
 refine wp_loop_rounds 1 ?_;rw [rounds_succ]
 go_wp2
 go_ret
 exact ⟨_,_,rfl,HB1.out⟩
end
section
namespace Dj
open Go Go.Proofs Go.RowKit Go.Shelf Hp Ch
structure DjK where
 (B ab lo hi nb na eb ea xb sb rb hp n wc:Nat)
 (es:List EdgeD)
 (bk:Bool)
 (wa:Option Addr)
 (va:Value)
def DjK.xs (K:DjK):List Value:=[.pointer (some ⟨K.ab,0,none⟩),.bool K.bk,.slice none 0 0,.slice none 0 0,.slice none 0 0,.int .u64 0,.slice K.wa K.es.length K.wc,.pointer (some ⟨K.nb,0,none⟩),.pointer (some ⟨K.eb,0,none⟩),.pointer (some ⟨K.sb,0,none⟩),.pointer (some ⟨K.hp,0,none⟩)]
def DjK.C (K:DjK) (k:Nat):Prop:=k=K.xb\/(K.lo<=k/\k<K.hi)\/k=K.nb\/k=K.na\/k=K.eb\/k=K.ea\/(Value.slice K.wa K.es.length K.wc).ownBlock=some k
structure DjK.Con (K:DjK) (W:World):Prop where
 bx:PB W K.xb K.xs
 adj:Ad.AdjM W K.lo K.hi K.ab K.n K.es
 nd:BitZ W K.nb K.na K.n
 ed:BitZ W K.eb K.ea K.es.length
 ws:W.ownsRow 0 37 1 (.slice K.wa K.es.length K.wc) K.es.length ((Hk K.es).map Bz)
 hi:K.hi<=W.heap.size
theorem DjK.Con.lt {K:DjK} {W:World} (h:K.Con W):∀k,K.C k->k<W.heap.size:=by
 rintro k (rfl|hk|rfl|rfl|rfl|rfl|hk)
 ·exact PB.lt (x:=.pointer (some ⟨K.ab,0,none⟩)) (xs:=K.xs.tail) h.bx
 ·have:=h.hi
  omega
 ·exact h.nd.2.2.2.1
 ·exact h.nd.2.2.2.2
 ·exact h.ed.2.2.2.1
 ·exact h.ed.2.2.2.2
 ·exact (h.ws.lt k hk).2
theorem DjK.Con.kept {K:DjK} {W W':World} (h:K.Con W) (hz:W.heap.size<=W'.heap.size) (hk:∀k,K.C k->W'.heap[k]? =W.heap[k]?):K.Con W':=
 ⟨h.bx.eq (hk _ (.inl rfl)),h.adj.kept fun k h1 h2=>hk k (.inr (.inl ⟨h1,h2⟩)),h.nd.kept hz (hk _ (by unfold DjK.C;simp)) (hk _ (by unfold DjK.C;simp)),h.ed.kept hz (hk _ (by unfold DjK.C;simp)) (hk _ (by unfold DjK.C;simp)),Ai h.ws (fun k e=>hk k (.inr (.inr (.inr (.inr (.inr (.inr e))))))),by have:=h.hi;omega⟩
structure DS where
 far:List (Option Int)
 l:List IK
 p:List Int
def Cg (s:DS) (u:Nat) (d:Int):DS:=if (As s.far u d).1 then ⟨(As s.far u d).2,(Bf s.l s.p u d).2.1,(Bf s.l s.p u d).2.2⟩ else s
def DjK.M (K:DjK) (v:Value) (k:Nat):Prop:=SX K.sb K.rb k\/HX K.hp v K.va k
structure DjK.Mem (K:DjK) (W:World) (v:Value) (s:DS):Prop where
 con:K.Con W
 st:StW W K.sb K.rb s.far
 hw:HeapW W K.hp v K.va s.l s.p
 ok:HeapOK s.l s.p
 lens:s.far.length=K.n/\s.p.length=K.n
 sep:∀k,K.C k->¬K.M v k
 sp2:∀k,SX K.sb K.rb k->¬HX K.hp v K.va k
 ge:∀k,K.C k\/K.M v k->K.B<=k
 bs:K.B<=W.heap.size
section
variable {K:DjK} {W W':World} {v:Value} {s:DS}
theorem DjK.Mem.llen (h:K.Mem W v s):s.l.length<=K.n:=by
 have:=Mh h.ok;have:=h.lens.2;omega
theorem DjK.Mem.mlt (h:K.Mem W v s):∀k,K.M v k->k<W.heap.size:=by
 have h1:=h.st.lt;rintro k ((rfl|rfl)|hk|hk|hk)
 ·exact h1.1
 ·exact h1.2
 ·exact hk▸h.hw.pb.lt
 ·exact (h.hw.ol.lt k hk).2
 ·exact (h.hw.oa.lt k hk).2
theorem DjK.Mem.off {X:Nat->Prop} (h:K.Mem W v s) (ho:OffX X W W') (hX:∀k,K.C k\/K.M v k->¬X k):K.Mem W' v s:=
 ⟨h.con.kept ho.size (fun k hk=>ho.block k (h.con.lt k hk) (hX k (.inl hk))),h.st.off ho (hX _ (.inr (.inl (.inl rfl)))) (hX _ (.inr (.inl (.inr rfl)))),h.hw.off ho (fun k hk=>hX k (.inr (.inr hk))),h.ok,h.lens,h.sep,h.sp2,h.ge,by have:=ho.size;have:=h.bs;omega⟩
theorem DjK.Mem.go (h:K.Mem W v s) (hb:Below W.heap.size W W'):K.Mem W' v s:=h.off (X:=fun _=>False) (.of_below hb) (fun _ _ h=>h)
end
def Dg (K:DjK) (W:World) (v:Value) (s':DS) (e:Ending) (w':World):Prop:=
 e=.returned (.tuple #[])/\∃v',K.Mem w' v' s'/\OffX (K.M v) W w'/\(v'.ownBlock=v.ownBlock\/∃g,v'.ownBlock=some g/\W.heap.size<=g)
theorem Ac9 (K:DjK) (W:World) (v:Value) (s:DS) (i u:Nat) (h:K.Mem W v s) (hi:i<K.es.length) (hu:u<K.n) (hn:K.n<=60000) (he:K.es.length<=60000):
  Calls Tryz.prog 248 #[.pointer (some ⟨K.xb,0,none⟩),.int .i64 (i:Int),.int .i64 (u:Int)] W fun e w'=>e=.returned (.bool true)/\W=w':=by
 have H1:=Bi5 (Oc K.eb K.ea K.es.length (i:Int) W h.con.ed (by omega) (by omega) (by omega));have H2:=Bi5 (Oc K.nb K.na K.n (u:Int) W h.con.nd (by omega) (by omega) (by omega));have x7:=(h.con.bx 7 _ rfl).1;have x8:=(h.con.bx 8 _ rfl).1;clear h
 go_enter Tryz.func248,Tryz.ntmps248
 go_wp2_with (first
  |(go_at_call_of 193 (Value.pointer (some ⟨K.eb,0,none⟩));refine H1.out.mono ?_;rintro e w1 ⟨rfl,hw1⟩;obtain rfl:=hw1.symm)
  |(go_at_call 193;refine H2.out.mono ?_;rintro e w1 ⟨rfl,hw1⟩;obtain rfl:=hw1.symm))
 go_ret
 exact ⟨rfl,rfl⟩
theorem Gv (K:DjK) (W:World) (v:Value) (s:DS) (u:Nat) (d:Int) (h:K.Mem W v s) (hu:u<K.n) (hn:K.n<=60000):
  Calls Tryz.prog 194 #[.pointer (some ⟨K.xb,0,none⟩),.int .i64 (u:Int),.int .u64 d] W (Dg K W v (Cg s u d)):=by
 have HLS:=Bi5 (La K.sb K.rb u d s.far W h.st (by rw [h.lens.1];exact hu));have HH:=Bi5 h;have HU:=Bi5 (show Cg s u d=if (As s.far u d).1 then ⟨(As s.far u d).2,(Bf s.l s.p u d).2.1,(Bf s.l s.p u d).2.2⟩ else s from rfl);have x5:=(h.con.bx 5 _ rfl).1;have x9:=(h.con.bx 9 _ rfl).1;have x10:=(h.con.bx 10 _ rfl).1;unfold Dg
 cases hle:(As s.far u d).1 with
 |false=>
  have HF:=Bi5 (Fi hle);rw [hle] at HLS HU;clear hle h
  go_enter Tryz.func194,Tryz.ntmps194
  go_wp2_with (go_at_call 247;refine HLS.out.mono ?_;rintro e w1 ⟨rfl,hs1,ho1⟩;(have HS1:=Bi5 hs1);(have HO1:=Bi5 ho1);clear hs1 ho1)
  try simp only [Exit.noGoto]
  refine bodyPost_end (results_none rfl _ _ _) rfl ?_;refine ⟨rfl,v,?_,HO1.out.mono (fun k hk=>.inl hk),.inl rfl⟩;rw [HU.out,if_neg (by simp)];have h1:=HH.out;have h2:=HS1.out;rw [HF.out.1] at h2;have ho:=HO1.out;exact ⟨h1.con.kept ho.size (fun k hk=>ho.block k (h1.con.lt k hk) (fun e=>h1.sep k hk (.inl e))),h2,h1.hw.off ho (fun k hk e=>h1.sp2 k e hk),h1.ok,h1.lens,h1.sep,h1.sp2,h1.ge,by have:=ho.size;have:=h1.bs;omega⟩
 |true=>
  have HF:=Bi5 (Gj hle);rw [hle] at HLS HU;have HPT:=Bi5 (fun WX (hx:HeapW WX K.hp v K.va s.l s.p)=>Hb K.hp u d v K.va s.l s.p WX hx h.ok (by rw [h.lens.2];exact hu) (by have:=h.llen;omega));unfold Fo at HPT;have HKX:=Bi5 (fun (w1:World) (ho1:OffX (SX K.sb K.rb) W w1)=>(show w1.cell? ⟨K.xb,10,none⟩=some (.pointer (some ⟨K.hp,0,none⟩)) from ho1.cell x10 (fun e=>h.sep _ (.inl rfl) (.inl e))));clear hle h
  go_enter Tryz.func194,Tryz.ntmps194
  go_wp2_with (first
   |(go_at_call 247;refine HLS.out.mono ?_;rintro e w1 ⟨rfl,hs1,ho1⟩;(have HS1:=Bi5 hs1);(have HO1:=Bi5 ho1);(have y10:=HKX.out w1 ho1);clear hs1 ho1)
   |(go_at_call 163;refine (HPT.out _ (HH.out.hw.off HO1.out (fun k hk e=>HH.out.sp2 k e hk))).mono ?_;rintro e w3 ⟨rfl,v3,hh3,ho3,hv3⟩;(have HH3:=Bi5 hh3);(have HO3:=Bi5 ho3);(have HV3:=Bi5 hv3);clear hh3 ho3 hv3))
  try simp only [Exit.noGoto]
  refine bodyPost_end (results_none rfl _ _ _) rfl ?_;have h0:=HH.out;have ho1:=HO1.out;have ho3:=HO3.out;have hs1:=ho1.size;obtain ⟨l1,l2,-⟩:=Dt h0.ok (v:=u) (by rw [h0.lens.2];exact hu) d;have hoff:OffX (K.M v) W w3:=(ho1.mono (fun k hk=>.inl hk)).trans (ho3.mono (fun k hk=>.inr hk));have hnew:∀k,K.M v3 k->K.M v k\/W.heap.size<=k:=by
   rintro k (hk|hk|hk|hk)
   ·exact .inl (.inl hk)
   ·exact .inl (.inr (.inl hk))
   ·rcases HV3.out with e|⟨g,e,hg⟩
    ·exact .inl (.inr (.inr (.inl (e▸hk))))
    ·rw [e] at hk
     cases hk
     exact .inr (by omega)
   ·exact .inl (.inr (.inr (.inr hk)))
  refine ⟨rfl,v3,⟨?_,?_,?_,?_,?_,?_,?_,?_,?_⟩,hoff,?_⟩
  ·exact h0.con.kept hoff.size (fun k hk=>hoff.block k (h0.con.lt k hk) (h0.sep k hk))
  ·first|rw [HU.out,if_pos rfl]|rw [HU.out]
   exact HS1.out.off ho3 (fun e=>h0.sp2 _ (.inl rfl) e) (fun e=>h0.sp2 _ (.inr rfl) e)
  ·first|rw [HU.out,if_pos rfl]|rw [HU.out]
   exact HH3.out
  ·first|rw [HU.out,if_pos rfl]|rw [HU.out]
   exact l1
  ·first|rw [HU.out,if_pos rfl]|rw [HU.out]
   exact ⟨(Qw _ _ _).trans h0.lens.1,l2.trans h0.lens.2⟩
  ·intro k hk hm
   rcases hnew k hm with h1|h1
   ·exact h0.sep k hk h1
   ·have:=h0.con.lt k hk
    omega
  ·intro k hk hm
   have hlt:k<W.heap.size:=by rcases hk with rfl|rfl;exact h0.st.lt.1;exact h0.st.lt.2
   rcases hm with hm|hm|hm
   ·exact h0.sp2 k hk (.inl hm)
   ·rcases HV3.out with e|⟨g,e,hg⟩
    ·exact h0.sp2 k hk (.inr (.inl (e▸hm)))
    ·rw [e] at hm
     cases hm
     omega
   ·exact h0.sp2 k hk (.inr (.inr hm))
  ·rintro k (hk|hk)
   ·exact h0.ge k (.inl hk)
   ·rcases hnew k hk with h1|h1
    ·exact h0.ge k (.inr h1)
    ·have:=h0.bs
     omega
  ·have:=h0.bs
   have:=hoff.size;omega
  ·rcases HV3.out with e|⟨g,e,hg⟩
   ·exact .inl e
   ·exact .inr ⟨g,e,by omega⟩
end Dj
end
section
namespace Dj
open Go Go.Proofs Go.RowKit Ch Hp Ad
theorem Dj.full {X:Nums} {s:Int} {far:Int->Option Int} {l:List (Int×Int)} {cur:Int} {out:List (Int×Int)} {done done':Int->Int->Prop} (h:Dj X s far l cur out done)
  (hc:∀a∈out,∀i v w,done' a.1 i->X i a.1 v w->done a.1 i):Dj X s far l cur out done':=
 ⟨h.sound,h.start,h.heap,h.lab,h.rest,fun a ha i v w hd hx=>h.gone a ha i v w (hc a ha i v w hd hx) hx,h.once,h.low⟩
theorem Bg0 {n:Nat} {es:List EdgeD} {bk:Bool} (hE:EOK n es) {v:Nat} {x:Pd} (hx:x∈It es bk v) {st:DS} (hho:HeapOK st.l st.p) (h1:st.far.length=n) (h3:st.p.length=n)
  {s d:Int} {out:List (Int×Int)} {done:Int->Int->Prop} (ha:((v:Int),d)∈out) (h:Dj (XD es bk) s (Em st.far) st.l d out done) {t:Nat} (htt:Vd bk x.2=(t:Int)):
  Dj (XD es bk) s (Em (Cg st t (d+x.2.w)).far) (Cg st t (d+x.2.w)).l d out (fun u j=>done u j\/(u=(v:Int)/\j=x.1))/\
   Cz n (Cg st t (d+x.2.w)).far (Cg st t (d+x.2.w)).l<=Cz n st.far st.l:=by
 obtain ⟨j,-,-,hxe,-,hX⟩:=Wk hE hx;have ht:t<n:=by have:=(hE.oth bk _ hxe).2;omega
 have hw1:=(hE _ hxe).2.2.1;rw [htt] at hX;have hpos:∀u v w,(XD es bk).rel u v w->1<=w:=fun u v w k=>(XD.ok hE u v w k).2.2.1
 cases hl:(As st.far t (d+x.2.w)).1 with
 |false=>
  obtain ⟨_,e,he,hle⟩:=Fi hl;have hr:Cg st t (d+x.2.w)=st:=by unfold Cg;rw [hl];rfl
  rw [hr];exact ⟨Dj.skip h ha (fun v' w' k=>XD.uniq hX k) (by rw [Co];exact he) hle,Bi7 _⟩
 |true=>
  obtain ⟨hf,hlt⟩:=Gj hl;have hr:Cg st t (d+x.2.w)=⟨st.far.set t (some (d+x.2.w)),(Bf st.l st.p t (d+x.2.w)).2.1,(Bf st.l st.p t (d+x.2.w)).2.2⟩:=by unfold Cg;rw [hl,hf];rfl
  rw [hr];simp only;have hfar:∀e,Em st.far (t:Int)=some e->d+x.2.w<e:=fun e he=>hlt e (by rw [<-Co];exact he);obtain ⟨l1,l2,l3,l4,l5⟩:=Dt hho (v:=t) (by rw [h3];exact ht) (d+x.2.w);have hput:∀y,y∈(Bf st.l st.p t (d+x.2.w)).2.1↔(y=((t:Int),d+x.2.w)\/(y∈st.l/\y.1≠(t:Int))):=by
   cases hb:(Bf st.l st.p t (d+x.2.w)).1 with
   |true=>exact l3 hb
   |false=>
    obtain ⟨_,k,hk,hle⟩:=l4 hb;have:=hfar k (h.heap _ _ hk).1;omega
  refine ⟨?_,On (by rw [h1];exact ht) ?_ hput⟩
  ·rw [Mm (by rw [h1];exact ht)]
   exact Dj.reach hpos h ha rfl hX (fun v' w' k=>XD.uniq hX k) hfar hput
  ·refine Cq.2 ?_
   cases hfx:st.far.getD t none with
   |none=>exact .inl rfl
   |some e=>
    rcases h.rest (t:Int) e (by rw [Co];exact hfx) with h9|⟨a,ha2,h9⟩
    ·exact .inr ⟨e,h9⟩
    ·have h5:=h.lab a ha2
     have h6:=h5.1;rw [h9,Co,hfx] at h6;have:=Bl4 h6;have:=hlt e hfx;omega
def DS.zero (n:Nat):DS:=⟨List.replicate n none,[],List.replicate n (-1)⟩
theorem Bb9 {n s:Nat} (hs:s<n) (X:Nums) (done:Int->Int->Prop):Dj X (s:Int) (Em (Cg (DS.zero n) s 0).far) (Cg (DS.zero n) s 0).l 0 [] done:=by
 obtain ⟨l1,l2,l3,l4,l5⟩:=Dt (Gb n) (v:=s) (by rw [Bl6];exact hs) 0;have hg:(List.replicate n (none:Option Int)).getD s none=none:=by rw [Bj1,Bm5];split<;>rfl
 have hle:As (List.replicate n none) s 0=(true,(List.replicate n none).set s (some 0)):=by unfold As;rw [hg]
 have hr:Cg (DS.zero n) s 0=⟨(List.replicate n none).set s (some 0),(Bf [] (List.replicate n (-1)) s 0).2.1,(Bf [] (List.replicate n (-1)) s 0).2.2⟩:=by unfold Cg DS.zero;simp only;rw [hle];rfl
 rw [hr];simp only;have hf:Em ((List.replicate n (none:Option Int)).set s (some 0))=upd (fun _=>none) (s:Int) (some 0):=by
  rw [Mm (by rw [Bl6];exact hs)]
  congr 1
  funext u
  unfold Em
  split
  ·rw [Bj1,Bm5]
   split<;>rfl
  ·rfl
 rw [hf];have hm:∀y,y∈(Bf [] (List.replicate n (-1)) s 0).2.1↔y∈[((s:Int),(0:Int))]:=by
  intro y
  cases hb:(Bf [] (List.replicate n (-1)) s 0).1 with
  |true=>rw [l3 hb];simp
  |false=>
   obtain ⟨_,k,hk,_⟩:=l4 hb
   cases hk
 have h0:=Dj.begin X (s:Int) done;exact ⟨h0.sound,h0.start,fun v k hk=>h0.heap v k ((hm _).1 hk),(fun a ha=>nomatch ha),fun v d hd=>(h0.rest v d hd).imp (fun k=>(hm _).2 k) id,h0.gone,h0.once,h0.low⟩
def OkD (es:List EdgeD) (bk:Bool) (n:Nat) (s:Int) (pre:List (Int×Int)):Prop:=pre.Pairwise (fun a b=>a.1≠b.1)/\∀a∈pre,Dist (XD es bk).rel s a.1 a.2/\Aa n a.1
def Ai3 (es:List EdgeD) (bk:Bool) (n:Nat) (s:Int) (pre:List (Int×Int)):Prop:=OkD es bk n s pre/\∀v e,Way0 (XD es bk).rel Any s v e->∃a∈pre,a.1=v
def Yj (x:Int×Int):Array Value:=#[.int .i64 x.1,.int .u64 x.2]
end Dj
end
section
open Go Go.Proofs Go.RowKit
def Bi2 {α:Type} (F:Fence) (n:Nat) (P:Program) (g:Nat) (lb:Array Value) (encs:α->Array Value) (Ok Done:List α->Prop) (Kp:Nat->Prop) (w:World):Prop:=
 ∀(l:Nat) (J Jx:List α->World->Prop) (W:World),KeepX Kp w W->(∀pre W1 W2,J pre W1->OffX (W.heap.size<=·) W1 W2->J pre W2)->(∀pre W1 W2,Jx pre W1->OffX (W.heap.size<=·) W1 W2->Jx pre W2)->
  (∀pre x W1,J pre W1->Ok (pre++[x])->W.heap.size<=W1.heap.size->YieldAt F (n-1) P l (encs x) W1 fun e W'=>
   (e=.returned (.bool true)/\J (pre++[x]) W'/\OffX (fun k=>k<W.heap.size/\¬Kp k) W1 W')\/(e=.returned (.bool false)/\Jx (pre++[x]) W'/\OffX (fun k=>k<W.heap.size/\¬Kp k) W1 W'))->
  J [] W->
  CallsIn F n P g (#[.func (.yield l) #[] #[]]++lb) W fun e W'=>(∃v,e=.returned v)/\((∃parts,Done parts/\J parts W')\/∃pre,Ok pre/\Jx pre W')
def Bh0 {α:Type} (X:Nat->Prop) (I:List α->World->Prop) (Ix:Code->List α->World->Prop) (xs:List α) (W:World):Exit->Act->World->Prop
 | .normal,_,W'=>OffX X W W'/\I xs W'
 | .ret,_,W'=>OffX X W W'/\Ix .ret xs W'
 | .exit id,_,W'=>OffX X W W'/\Ix (.exit id) xs W'
 | .goto t,_,W'=>OffX X W W'/\Ix (.goto t) xs W'
 | .panic _,_,_=>False
 | .outgrown,_,_=>False
variable {F:Fence} {n:Nat} {P:Program}
def Ay7 (Kp:Nat->Prop) (D k:Nat):Prop:=k<D/\¬Kp k
def Yw (D k:Nat):Prop:=D+1<=k
theorem Wg {α:Type} {g:Operand} {ps:Array Tmp} {assign body:Code} {Q:Exit->Act->World->Prop} {a:Act} {w:World}
  (hro:F.round=none) (h1:1<=n) {gf:Nat} {lb:Array Value} (hg:a.eval g=.func (.func gf) #[] lb) (hFg:F.fn gf) (eg:∀args w,(callFunc gf args).run P w=.ok (.enter gf args) w)
  {encs:α->Array Value} {Ok Done:List α->Prop} {Kp:Nat->Prop} (hseq:Bi2 F (n-1) P gf lb encs Ok Done Kp w) (hB:∀k,Kp k->k<w.heap.size) (hps:∀x,(encs x).size=ps.size)
  (I:List α->World->Prop) (Ix:Code->List α->World->Prop)
  (hI:∀pre W W',I pre W->OffX (Yw w.heap.size) W W'->I pre W') (hIx:∀c pre W W',Ix c pre W->OffX (Yw w.heap.size) W W'->Ix c pre W') (h0:I [] w) (a₁:α->World->Act) (W₁:α->World->World) (hW₁:∀x W,Below W.heap.size W (W₁ x W))
  (hassign:∀(l:Nat) (x:α) (W:World) (K:Act->World->Prop),K (a₁ x W) (W₁ x W)->
   assign.wpIn (F.inRound l) (n-1-1) P (Exit.then K (fun _ _ _=>False)) { tmps:=(ps.zip (encs x)).foldl (fun t (p,v)=>t.setIfInBounds p v) a.tmps,defers:=[] } W)
  (hbody:∀(l:Nat) (pre:List α) (x:α) (W0 W:World),I pre W->Ok (pre++[x])->w.heap.size+2<=W0.heap.size->OffX (Yw w.heap.size) (W₁ x W0) W->
   body.wpIn (F.inRound l) (n-1-1) P (Bh0 (Ay7 Kp w.heap.size) I Ix (pre++[x]) W) (a₁ x W0) W)
  (hdone:∀(D:Nat) (parts:List α) (W:World),D=w.heap.size->Done parts->I parts W->W.heap[D]? =some (.deferred (some []))->Q .normal { a with defers:={ target:=.collected D,args:=#[] }::a.defers } W)
  (hstop:∀(D:Nat) (c:Code) (pre:List α) (W:World),D=w.heap.size->Ok pre->Ix c pre W->W.heap[D]? =some (.deferred (some []))->c.wpIn F n P Q { a with defers:={ target:=.collected D,args:=#[] }::a.defers } W):
  (Code.rangeFunc g ps assign body).wpIn F n P Q a w:=by
 refine wpIn_rangeFunc fun fn hfn=>?_;rw [hro];obtain ⟨R,hR⟩:∃R:LoopState->Option Code->Loop,R=fun st pe=>{ state:=st,pending:=pe,fn,tmps:=a.tmps,params:=ps,assign,body,defers:=w.heap.size }:=⟨_,rfl⟩;obtain ⟨D,hD⟩:∃D,w.heap.size=D:=⟨_,rfl⟩;obtain ⟨V,hV⟩:∃V,V=(w.alloc (.deferred (some []))).alloc (.loop (R .ready none)):=⟨_,rfl⟩;have loopV:V.heap[D+1]? =some (.loop (R .ready none)):=by
  have:=World.alloc_heap_new (w.alloc (.deferred (some []))) (.loop (R .ready none));rw [World.size_alloc,hD] at this;rw [hV];exact this
 have markV:V.heap[D]? =some (.deferred (some [])):=by
  have:=World.alloc_heap_new w (.deferred (some []));rw [hD] at this;rw [hV,Below.heap_alloc _ _ _ (by rw [World.size_alloc];omega)];exact this
 have growV:Below w.heap.size w V:=by rw [hV];exact ((Below.refl _ w).alloc (Bi7 _) _).alloc (by simp) _
 have sizeV:V.heap.size=D+2:=by rw [hV];simp;omega
 have isR:∀st pe,(R st pe).params=ps/\(R st pe).tmps=a.tmps/\(R st pe).fn=fn/\(R st pe).assign=assign/\(R st pe).body=body/\(R st pe).state=st/\(R st pe).pending=pe:=fun st pe=>by rw [hR];exact ⟨rfl,rfl,rfl,rfl,rfl,rfl,rfl⟩
 refine ⟨D+1,[{ target:=.collected D,args:=#[] }],V,{ target:=.fn (.func gf) lb,args:=#[.func (.yield (D+1)) #[] #[]] },V,gf,#[.func (.yield (D+1)) #[] #[]]++lb,V,?_,?_,?_,?_,fun _=>h1,?_⟩
 ·have:=run_enterLoop_outer (P:=P) (w:=w) fn a.tmps ps assign body
  rw [this,hV,hR,hD]
 ·simp only [resolve,hg]
  simp [go_sem]
 ·intro f' hf'
  simp [Target.leads] at hf';subst hf';exact hFg
 ·simp [invoke,go_sem,eg]
 ·rw [hD] at hI hIx hbody hdone hstop hB growV
  refine (hseq (D+1) (fun pre W=>I pre W/\W.heap[D+1]? =some (.loop (R .ready none))/\W.heap[D]? =some (.deferred (some [])))
   (fun pre W=>∃c,Ix c pre W/\W.heap[D+1]? =some (.loop (R .done (some c)))/\W.heap[D]? =some (.deferred (some [])))
   V ⟨growV.size,fun k hk=>growV.block k (by have:=hB k hk;omega)⟩ ?_ ?_ ?round ⟨hI _ _ _ h0 (.of_below (by rw [hD];exact growV)),loopV,markV⟩).mono ?_
  ·rintro pre W1 W2 ⟨hi,hl,hk⟩ ho
   refine ⟨hI _ _ _ hi (ho.mono fun k e=>by have e:V.heap.size<=k:=e;show D+1<=k;omega),?_,?_⟩
   ·rw [ho.block (D+1) (Bj2.1 hl).1 (fun e=>by have e:V.heap.size<=D+1:=e;omega)];exact hl
   ·rw [ho.block D (Bj2.1 hk).1 (fun e=>by have e:V.heap.size<=D:=e;omega)];exact hk
  ·rintro pre W1 W2 ⟨c,hi,hl,hk⟩ ho
   refine ⟨c,hIx _ _ _ _ hi (ho.mono fun k e=>by have e:V.heap.size<=k:=e;show D+1<=k;omega),?_,?_⟩
   ·rw [ho.block (D+1) (Bj2.1 hl).1 (fun e=>by have e:V.heap.size<=D+1:=e;omega)];exact hl
   ·rw [ho.block D (Bj2.1 hk).1 (fun e=>by have e:V.heap.size<=D:=e;omega)];exact hk
  case round=>
   rintro pre x W0 ⟨hi0,hl0,hk0⟩ hpx hsz0;have hlt0:D+1<W0.heap.size:=(Bj2.1 hl0).1;have hgr:=hW₁ x W0;obtain ⟨e1,e2,e3,e4,e5,e6,e7⟩:=isR .ready none;have hy:=run_yield (P:=P) (args:=encs x) hl0 (by rw [e1];exact hps x);rw [e1,e2,e3,e4,e5] at hy;have hl:(W₁ x W0).heap[D+1]? =some (.loop (R .ready none)):=(hgr.block _ hlt0).trans hl0;have hk:(W₁ x W0).heap[D]? =some (.deferred (some [])):=(hgr.block _ (by omega)).trans hk0;have hi:I pre (W₁ x W0):=hI _ _ _ hi0 (.of_below hgr);refine ⟨fn,_,assign,body,hy,roundIn_of_wpIn hfn (hassign _ x W0 _ ⟨_,run_beginRound hl e6,?_⟩)⟩;obtain ⟨W,hW⟩:∃W,W=W₁ x W0:=⟨_,rfl⟩;rw [<-hW] at hl hk hi hgr ⊢;have hlt:D+1<W.heap.size:=(Bj2.1 hl).1;obtain ⟨Wb,hWb⟩:∃Wb,Wb=W.putObj (D+1) (.loop { R .ready none with state:=.busy }):=⟨_,rfl⟩;rw [<-hWb];have hlb:Wb.heap[D+1]? =some (.loop { R .ready none with state:=.busy }):=by rw [hWb];exact World.putObj_heap_same hlt
   have hkb:Wb.heap[D]? =some (.deferred (some [])):=by rw [hWb];exact (World.putObj_heap_other (by omega)).trans hk
   have hob:OffX (Yw D) W Wb:=by rw [hWb];exact .put _ (Bi7 _)
   have hsb:W.heap.size<=Wb.heap.size:=hob.size;have hnk:¬Kp (D+1):=fun h=>by have:=hB _ h;omega
   have hx1:OffX (fun k=>k<V.heap.size/\¬Kp k) W0 Wb:=(OffX.of_below hgr).trans (by rw [hWb];exact .put _ ⟨by omega,hnk⟩);refine wpIn_mono (hbody _ pre x W0 Wb (hI _ _ _ hi hob) hpx (by omega) (by rw [<-hW];exact hob)) ?_;have fin:∀(jump:Option Code) (W3:World),OffX (Ay7 Kp D) Wb W3->∃W4,(Instr.endRound (D+1) jump).run P W3=.ok (.bool jump.isNone) W4/\OffX (Yw D) W3 W4/\OffX (fun k=>k<V.heap.size/\¬Kp k) W0 W4/\
     W4.heap[D+1]? =some (.loop (R (if jump.isNone then .ready else .done) jump))/\W4.heap[D]? =some (.deferred (some [])):=by
    intro jump W3 hk3;have hl3:W3.heap[D+1]? =some (.loop { R .ready none with state:=.busy }):=(hk3.block _ (Bj2.1 hlb).1 (fun h=>by have:=h.1;omega)).trans hlb;have hd3:W3.heap[D]? =some (.deferred (some [])):=(hk3.block _ (Bj2.1 hkb).1 (fun h=>by have:=h.1;omega)).trans hkb;have he:=run_endRound (P:=P) jump hl3;refine ⟨_,he,.put _ (Bi7 _),hx1.trans ((hk3.mono fun k h=>⟨by have:=h.1;omega,h.2⟩).trans (.put _ ⟨by omega,hnk⟩)),?_,(World.putObj_heap_other (by omega)).trans hd3⟩;rw [World.putObj_heap_same (Bj2.1 hl3).1,hR]
   rintro e a3 W3 hp
   cases e with
   |normal=>
    obtain ⟨hk3,hi3⟩:=hp;obtain ⟨W4,r1,r2,r3,r4,r5⟩:=fin none W3 hk3;exact ⟨_,_,r1,.inl ⟨rfl,⟨hI _ _ _ hi3 r2,r4,r5⟩,r3⟩⟩
   |ret=>
    obtain ⟨hk3,hi3⟩:=hp;obtain ⟨W4,r1,r2,r3,r4,r5⟩:=fin (some .ret) W3 hk3;exact ⟨_,_,r1,.inr ⟨rfl,⟨.ret,hIx _ _ _ _ hi3 r2,r4,r5⟩,r3⟩⟩
   |exit id=>
    obtain ⟨hk3,hi3⟩:=hp;obtain ⟨W4,r1,r2,r3,r4,r5⟩:=fin (some (.exit id)) W3 hk3;exact ⟨_,_,r1,.inr ⟨rfl,⟨.exit id,hIx _ _ _ _ hi3 r2,r4,r5⟩,r3⟩⟩
   |goto t=>
    obtain ⟨hk3,hi3⟩:=hp;obtain ⟨W4,r1,r2,r3,r4,r5⟩:=fin (some (.goto t)) W3 hk3;exact ⟨_,_,r1,.inr ⟨rfl,⟨.goto t,hIx _ _ _ _ hi3 r2,r4,r5⟩,r3⟩⟩
   |panic ch=>exact hp.elim
   |outgrown=>exact hp.elim
  ·rintro e W2 ⟨⟨v,rfl⟩,⟨parts,hdn,hi,hl,hk⟩|⟨pre,hpp,c,hi,hl,hk⟩⟩
   ·obtain ⟨e1,e2,e3,e4,e5,e6,e7⟩:=isR .ready none
    have he:=run_endLoop (P:=P) hl (by rw [e6];simp);rw [e7] at he;exact ⟨none,_,he,hdone D parts _ rfl hdn (hI _ _ _ hi (.put _ (Bi7 _))) ((World.putObj_heap_other (by omega)).trans hk)⟩
   ·obtain ⟨e1,e2,e3,e4,e5,e6,e7⟩:=isR .done (some c)
    have he:=run_endLoop (P:=P) hl (by rw [e6];simp);rw [e7] at he;exact ⟨some c,_,he,hstop D c pre _ rfl hpp (hIx _ _ _ _ hi (.put _ (Bi7 _))) ((World.putObj_heap_other (by omega)).trans hk)⟩
end
end Go.Proofs.YteaaapdjplbljaaGreat
