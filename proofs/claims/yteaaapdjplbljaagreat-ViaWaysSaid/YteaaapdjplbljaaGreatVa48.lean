/- Parts; no condition. -/
import Derived.Test.YteaaapdjplbljaaGreatVa47
set_option linter.unusedVariables false
set_option linter.unusedSimpArgs false
set_option linter.unnecessarySimpa false
set_option maxRecDepth 100000
set_option maxHeartbeats 8000000
namespace Go.Proofs.YteaaapdjplbljaaGreat
section
namespace Vi
open Go Go.Proofs Go.RowKit Go.Shelf Hp Ch
def Nu (f:Int->Option Int) (l:List LB):List Int:=(l.filter fun x=>(f x.v).isSome).map (·.v)
theorem Al4 {f:Int->Option Int} {l:List LB} {k:Nat} (h:k<l.length):Nu f (l.take (k+1))=if (f l[k].v).isSome then Nu f (l.take k)++[l[k].v] else Nu f (l.take k):=by
 unfold Nu;rw [Bl1 h,List.filter_append,Bn4]
 cases h9:(f l[k].v).isSome
 ·simp [h9]
 ·simp [h9]
theorem Xq (f:Int->Option Int) (l:List LB):(Nu f l).length<=l.length:=by
 unfold Nu;rw [Bn5];exact List.length_filter_le _ _
def Bi9 (n:Nat) (es:List EdgeD) (ro:List Int) (s t:Int) (L:List Int) (k:Int):Prop:=
 (k=0/\Ac n s/\Ac n t/\(∃d,Dist (Am es) s t d)/\L.Pairwise (· <·)/\L.length<=n/\∀v,v∈L↔(∃d,Peak (Ca false (Am es)) (rk ro) s v d)/\∃d,Peak (Ca true (Am es)) (rk ro) t v d)\/(k≠0/\L=[]/\DistIs n (Am es) s t 0 k)
def Ag1 (n:Nat) (es:List EdgeD) (ro:List Int) (s t:Int) (w:World) (e:Ending) (w':World):Prop:=
 ∃(ao:Option Addr) (cap:Nat) (L:List Int) (k:Int),e=.returned (.tuple #[.slice ao L.length cap,.int .i64 k])/\Cel w' ao (L.map Ai)/\Below w.heap.size w w'/\Bi9 n es ro s t L k
theorem Xk (hb n:Nat) (es:List EdgeD) (R:List Int) (S:List SC) (ro:List Int) (s t:Int) (w:World) (h:BH w hb n es R S ro):
  Calls Tryz.prog 38 #[.pointer (some ⟨hb,0,none⟩),.int .i64 s,.int .i64 t] w (Ag1 n es ro s t w):=by
 have HD:=Bj3 (Ay2 hb n es R S ro s t w h);have hmm:=@run_makeMap Tryz.prog;have HH:=Bj3 (fun U (hz:Below w.heap.size w U)=>h.go hz);have hle:=h.le;unfold DistPost at HD;unfold Ag1;clear h
 go_enter Tryz.func38,Tryz.ntmps38
 go_upto_region 2 with (go_at_call 87;refine HD.out.mono ?_;rintro e w1 ⟨⟨d,k,rfl,h1⟩,h2⟩;(have HI:=Bj3 h1);(have HB1:=Bj3 h2);clear h1 h2)
 rcases HI.out with ⟨rfl,hs,ht,hd,_⟩|hbad
 ·obtain ⟨s,rfl⟩:∃q:Nat,s=(q:Int):=⟨s.toNat,by have:=hs.1;omega⟩
  obtain ⟨t,rfl⟩:∃q:Nat,t=(q:Int):=⟨t.toNat,by have:=ht.1;omega⟩;have hsn:s<n:=by have:=hs.2;omega
  have htn:t<n:=by have:=ht.2;omega
  have HST:=Bj3 (And.intro hs (And.intro ht (Exists.intro d hd)));have HXA:=Bj3 (fun U (hz:Below w.heap.size w U)=>Vd hb n es R S ro false s U (HH.out U hz).mem (HH.out U hz).ok hle hsn);have HXB:=Bj3 (fun U (hz:Below w.heap.size w U)=>Vd hb n es R S ro true t U (HH.out U hz).mem (HH.out U hz).ok hle htn);unfold Vl at HXA HXB;clear hs ht hd HD HI
  go_upto_region 6 with (first
   |(go_at_call_of 88 (#[.pointer (some ⟨hb,0,none⟩),.int .i64 (s:Int),.bool false]:Array Value);refine (HXA.out _ HB1.out).mono ?_;rintro e w2 ⟨ao,ca,la,rfl,h1,h2,h3,-,h5,h6⟩;(have HC2:=Bj3 h1);(have HB2:=Bj3 (HB1.out.st h2));(have HEA:=Bj3 h3);(have HLA:=Bj3 (And.intro h5 h6));clear h1 h2 h3 h5 h6)
   |(go_at_call_of 88 (#[.pointer (some ⟨hb,0,none⟩),.int .i64 (t:Int),.bool true]:Array Value);refine (HXB.out _ HB2.out).mono ?_;rintro e w3 ⟨bo,cb,lb,rfl,h1,h2,h3,-,h5,h6⟩;(have HD3:=Bj3 h1);(have HC3:=Bj3 (HC2.out.go h2));(have HB3:=Bj3 (HB2.out.st h2));(have HEB:=Bj3 h3);(have HLB:=Bj3 (And.intro h5 h6));clear h1 h2 h3 h5 h6))
  have HM0:=Bj3 (MapW.new w3);have hbl:(lb.length:Int)<=12:=by have:=HLB.out.1;omega
  have hal:(la.length:Int)<=12:=by have:=HLA.out.1;omega
  go_wp2
  go_loopg [46] lb.length (fun gm v46 wr=>∃k:Nat,k<=lb.length/\lb.length-k<=gm/\v46=.int .i64 k/\Aside (MapW wr w3.heap.size k (byF (lb.take k)))/\Aside (Below w3.heap.size w3 wr))
  case atStart=>exact ⟨0,Bj6 _,by omega,rfl,by rw [List.take_zero];exact HM0.out,Below.of_al _ _⟩
  case round=>
   obtain ⟨k,hk,hg,rfl,HM,HB⟩:=hrel
   by_cases hlt:k<lb.length
   ·have hlt2:(k:Int)<(lb.length:Int):=by omega
    have hk0:(0:Int)<=(k:Int):=by omega
    obtain ⟨qb,qo,rfl,y0,y1,y2⟩:=(HD3.out.go HB.out).lab hlt;obtain ⟨i1,i2,i3⟩:=HLB.out.2 lb[k] (Bk5 hlt);have HTK:=Bj3 (Ss hlt);generalize lb[k]=x at*;obtain ⟨w2',hup,hm2,ho2⟩:=(HM.out.go (Below.of_al wr (Obj.cells #[.int .i64 x.v,.int .u64 x.d,.int .i64 x.b] 150))).put (by omega) (u:=x.v) (x:=x.d) (Wm i1 hle) ⟨i2,by omega⟩;have HM2:=Bj3 (show MapW w2' w3.heap.size (k+1) (byF (lb.take (k+1))) by rw [HTK.out];exact hm2);have HB2':=Bj3 (show Below w3.heap.size w3 w2' from (HB.out.st (Below.of_al wr _)).trans (ho2.below ((HB.out.st (Below.of_al wr (Obj.cells #[.int .i64 x.v,.int .u64 x.d,.int .i64 x.b] 150))).size) (fun j hj=>by have e:j=w3.heap.size:=hj;omega)));clear hm2 ho2 i1 i2 i3
    go_wp2
    go_roundg (lb.length-(k+1))
    case measure=>omega
    case rel=>exact ⟨k+1,by omega,Bj5 _,by go_num,HM2.out,HB2'.out⟩
   ·obtain rfl:k=lb.length:=by omega
    have HM4:=Bj3 (show MapW wr w3.heap.size lb.length (byF lb) by have:=HM.out;rw [Bn9] at this;exact this);have HB4:=Bj3 HB.out;have HBw:=Bj3 (HB3.out.st HB.out);have HC4:=Bj3 (HC3.out.go HB.out);clear HM HB hlt hg hk HM0;generalize wr=w4 at*;have HSEL:=Bj3 (fun k (hk:k<la.length)=>Al4 (f:=byF lb) hk);have HSL:=Bj3 (fun k=>Bj7 (Xq (byF lb) (la.take k)) (show (la.take k).length<=12 by rw [List.length_take];omega));have HS0:=Bj3 (show Nu (byF lb) (la.take 0)=[] from rfl);have HSE:=Bj3 (show Nu (byF lb) (la.take la.length)=Nu (byF lb) la by rw [Bn9]);obtain ⟨pk,hpk⟩:∃pk:Nat->List Int,pk=fun k=>Nu (byF lb) (la.take k):=⟨_,rfl⟩;have HPE:=Bj3 hpk;clear hpk
    go_wp2
    go_loopg [6,58] la.length (fun gm v6 v58 wr=>∃k:Nat,k<=la.length/\la.length-k<=gm/\v58=.int .i64 k/\Aside (wr.ownsRow w4.heap.size 3 1 v6 (pk k).length ((pk k).map Ai))/\Aside (Below w4.heap.size w4 wr))
    case atStart=>exact ⟨0,Bj6 _,by omega,rfl,by rw [HPE.out];exact World.ownsRow_nil _ _ _ _,Below.refl _ _⟩
    case round=>
     obtain ⟨k,hk,hg,rfl,HR,HB⟩:=hrel
     by_cases hlt2:k<la.length
     ·have hlt3:(k:Int)<(la.length:Int):=by omega
      have hk0:(0:Int)<=(k:Int):=by omega
      have HST9:=Bj3 (show pk (k+1)=if (byF lb la[k].v).isSome then pk k++[la[k].v] else pk k by rw [HPE.out];exact HSEL.out k hlt2);have HPL:=Bj3 (show (pk k).length<=12 by rw [HPE.out];exact HSL.out k);obtain ⟨qb,qo,rfl,y0,y1,y2⟩:=(HC4.out.go HB.out).lab hlt2;obtain ⟨i1,i2,i3⟩:=HLA.out.2 la[k] (Bk5 hlt2);have i6:=Wm i1 hle;generalize la[k]=x at*;have lk:=((HM4.out.go HB.out).go (Below.of_al wr (Obj.cells #[.int .i64 x.v,.int .u64 x.d,.int .i64 x.b] 150))).look i6;have HB2':=Bj3 (HB.out.st (Below.of_al wr (Obj.cells #[.int .i64 x.v,.int .u64 x.d,.int .i64 x.b] 150)));have HR2:=Bj3 (World.ownsRow.alloc HR.out (Obj.cells #[.int .i64 x.v,.int .u64 x.d,.int .i64 x.b] 150))
      cases hy:byF lb x.v with
      |none=>
       rw [hy] at lk;have HST2:=Bj3 (show pk (k+1)=pk k by rw [HST9.out,hy];rfl);simp only [Option.isSome,Option.getD] at lk;clear hy i1 i6 i2 i3
       go_wp2
       go_roundg (la.length-(k+1))
       case measure=>omega
       case rel=>exact ⟨k+1,by omega,Bj5 _,by go_num,by rw [HST2.out];exact HR2.out,HB2'.out⟩
      |some y=>
       rw [hy] at lk;have HST2:=Bj3 (show pk (k+1)=pk k++[x.v] by rw [HST9.out,hy];rfl);simp only [Option.isSome,Option.getD] at lk;clear hy i1 i6 i2 i3 HST9;generalize pk k=row at*
       go_wp2_with (at_builtin;go_must (refine Du w4.heap.size 3 _ 1 8 Cr Tryz.underlying25 _ row.length (row.map Ai) ⟨wr.heap.size+1,0,none⟩ 1 1 [.int .i64 x.v] rfl rfl (World.ownsRow.alloc HR2.out _) (El _ _ _ (by simp)) (Cv rfl) ⟨rfl,by decide,(by have:=HPL.out;omega),(by have:=HPL.out;omega),(by have:=HB2'.out.size;simp at this;simp;omega)⟩ ?_);intro g6 cap6 w6 hown6 hgrow6 hbl6 hat6 hlt6;(have HO6:=Bj3 hown6);(have HB6:=Bj3 ((HB2'.out.al _).trans hbl6));clear hown6 hgrow6 hbl6 hat6 hlt6)
       go_roundg (la.length-(k+1))
       case measure=>omega
       case rel=>exact ⟨k+1,by omega,Bj5 _,by go_num,by rw [HST2.out,Bm3,Bn4];exact HO6.out,HB6.out⟩
     ·obtain rfl:k=la.length:=by omega
      have HFE:=Bj3 (show pk la.length=Nu (byF lb) la by rw [HPE.out];exact HSE.out)
      go_wp2
      obtain ⟨ao9,cap9,rfl,hce9⟩:=Cel.of_owns HR.out;refine bodyPost_ret (v:=.tuple #[.slice ao9 (pk la.length).length cap9,.int .i64 0]) (by simp [results,Tryz.results38,go_sem];try rfl) rfl ?_;refine ⟨ao9,cap9,pk la.length,0,rfl,hce9,HBw.out.st HB.out,?_⟩;rw [HFE.out];obtain ⟨ea1,ea2⟩:=HEA.out;obtain ⟨eb1,eb2⟩:=HEB.out;have HSV:=Bj3 (fun v=>(show (∃x∈la,x.v=v)↔∃d,Peak (Ca false (Am es)) (rk ro) (s:Int) v d from
       ⟨fun ⟨x,hx,e⟩=>⟨x.d,(ea2 v x.d).1 ⟨x,hx,e,rfl⟩⟩,fun ⟨d,hd⟩=>by obtain ⟨x,hx,e,_⟩:=(ea2 v d).2 hd;exact ⟨x,hx,e⟩⟩))
      have HTV:=Bj3 (fun v=>(show (∃x∈lb,x.v=v)↔∃d,Peak (Ca true (Am es)) (rk ro) (t:Int) v d from
       ⟨fun ⟨x,hx,e⟩=>⟨x.d,(eb2 v x.d).1 ⟨x,hx,e,rfl⟩⟩,fun ⟨d,hd⟩=>by obtain ⟨x,hx,e,_⟩:=(eb2 v d).2 hd;exact ⟨x,hx,e⟩⟩))
      refine .inl ⟨rfl,HST.out.1,HST.out.2.1,HST.out.2.2,?_,?_,fun v=>?_⟩
      ·unfold Nu
       rw [List.pairwise_map];exact ea1.filter _
      ·exact Bj7 (Xq _ _) HLA.out.1
      ·have hpw:lb.Pairwise (fun a b=>a.v≠b.v):=eb1.imp (fun h=>by omega)
       rw [<-HSV.out v,<-HTV.out v];unfold Nu;simp only [List.mem_map,List.mem_filter];constructor
       ·rintro ⟨x,⟨hx,hs⟩,rfl⟩
        refine ⟨⟨x,hx,rfl⟩,?_⟩;obtain ⟨y,hy⟩:=Option.isSome_iff_exists.1 hs;obtain ⟨z,hz,hz1,_⟩:=(Ht lb hpw _ _).1 hy;exact ⟨z,hz,hz1⟩
       ·rintro ⟨⟨x,hx,rfl⟩,z,hz,hz1⟩
        refine ⟨x,⟨hx,?_⟩,rfl⟩;rw [(Ht lb hpw x.v z.d).2 ⟨z,hz,hz1,rfl⟩];rfl
 ·have hk0:k≠0:=by
   rcases hbad with ⟨h,_⟩|⟨h,_⟩<;>omega
  have hk2:(k != 0)=true:=by simpa using hk0
  have HBD:=Bj3 (show DistIs n (Am es) s t 0 k by
   rcases hbad with ⟨h1,h2,h3⟩|⟨h1,h2,h3⟩
   ·exact .inr (.inl ⟨h1,rfl,h3⟩)
   ·exact .inr (.inr ⟨h1,rfl,h3⟩))
  have HK0:=Bj3 hk0;clear hbad hk0
  go_wp2
  refine bodyPost_ret (v:=.tuple #[.slice none 0 0,.int .i64 k]) (by simp [results,Tryz.results38,go_sem];try rfl) rfl ?_;exact ⟨none,0,[],k,rfl,Cel.nil _ _,HB1.out,.inr ⟨HK0.out,rfl,HBD.out⟩⟩
end Vi
end
section
open Go.Proofs Go.RowKit Go.Shelf
theorem Vq (ao bo:Option Addr) (ca cb:Nat) (la lb:List Int) (w:World) (hla:la.length<=9223372036854775807) (hlb:lb.length<=9223372036854775807)
  (ha:Cel w ao (la.map Ai)) (hb:Cel w bo (lb.map Ai)):
  Calls Tryz.prog 25 #[.slice ao la.length ca,.slice bo lb.length cb] w fun e w'=>e=.returned (.bool (decide (la=lb)))/\∃n,w'=w.drewN n:=by
 have HA:=Bj3 ha;have HB:=Bj3 hb;clear ha hb
 by_cases hl:la.length=lb.length
 ·have hn2:((la.length:Int) != (lb.length:Int))=false:=by simp;omega
  have HN:=Bj3 hl;clear hl;have HD:=Bj3 (fun k (h1:k<la.length) (h2:la[k]≠lb[k]'(by have:=HN.out;omega))=>(decide_eq_false (fun e=>h2 (by subst e;rfl)):decide (la=lb)=false));have HE:=Bj3 (fun h:(∀j (h:j<la.length),la[j]=lb[j]'(by have:=HN.out;omega))=>(decide_eq_true (List.ext_getElem HN.out (fun i h1 h2=>h i h1)):decide (la=lb)=true));generalize decide (la=lb)=r at*
  go_enter Tryz.func25,Tryz.ntmps25
  go_wp2
  go_loopg [5] la.length (fun g i wr=>∃k q:Nat,k<=la.length/\la.length-k<=g/\i=.int .i64 k/\wr=w.drewN q/\Aside (∀j (h:j<la.length),j<k->la[j]=lb[j]'(by have:=HN.out;omega)))
  case atStart=>exact ⟨0,0,Bj6 _,by omega,rfl,rfl,fun j _ h=>absurd h (Nat.not_lt_zero _)⟩
  case round=>
   obtain ⟨k,q,hk,hg,rfl,rfl,HF⟩:=hrel
   by_cases hlt:k<la.length
   ·have hlt2:k<lb.length:=by have:=HN.out;omega
    have hlt3:(k:Int)<(la.length:Int):=by omega
    have hlt4:(k:Int)<(lb.length:Int):=by omega
    have hk0:(0:Int)<=(k:Int):=by omega
    obtain ⟨b1,o1,hao,hc1⟩:=HA.out.at hlt;obtain ⟨b2,o2,hbo,hc2⟩:=HB.out.at hlt2;subst hao hbo;have HD2:=Bj3 (HD.out k hlt);have HM:=Bj3 (fun h:la[k]=lb[k]=>(fun j (h1:j<la.length) (h2:j<k+1)=>(by
     by_cases e:j=k
     ·subst e;exact h
     ·exact HF.out j h1 (by omega):la[j]=lb[j]'(by have:=HN.out;omega))))
    generalize la[k]=x at*;generalize lb[k]=y at*
    go_wp2
    go_quiet (fail)
    go_wp2
    ·have ht:=ne_i (by assumption)
     go_ret
     exact ⟨by rw [HD2.out ht];rfl,q+nq,World.drewN_drewN _ _ _⟩
    ·have ht:=eq_i (by assumption)
     go_roundg (la.length-(k+1))
     case measure=>omega
     case rel=>exact ⟨k+1,q+nq,by omega,by omega,by go_num,rfl,HM.out ht⟩
   ·obtain rfl:k=la.length:=by omega
    go_wp2
    go_ret
    exact ⟨by rw [HE.out (fun j h=>HF.out j h h)];rfl,q,rfl⟩
 ·have hn2:((la.length:Int) != (lb.length:Int))=true:=by simp;omega
  have HN:=Bj3 (decide_eq_false (fun e=>hl (by subst e;rfl)):decide (la=lb)=false);clear hl
  go_enter Tryz.func25,Tryz.ntmps25
  go_wp2
  go_ret
  exact ⟨by rw [HN.out];rfl,0,rfl⟩
end
section
namespace Vi
open Go Go.Proofs Go.RowKit Go.Shelf Hp Ch Ad Ro Dj
theorem ex_A:∀u v w,Am exE u v w->Ac 2 u/\Ac 2 v/\1<=w:=by
 intro u v w h;obtain ⟨rfl,rfl,rfl⟩:=Oo.1 h;exact ⟨by decide,by decide,by decide⟩
theorem Ax6 {ro:List Int} {L:List Int} {k:Int} (h:Bi9 2 exE ro 1 1 L k):L=[1]/\k=0:=by
 rcases h with ⟨hk,_,_,_,hp,_,hv⟩|⟨hk,_,hd⟩
 ·refine ⟨?_,hk⟩
  have h1:∀v,v∈L↔v=1:=fun v=>by
   rw [hv];constructor
   ·rintro ⟨⟨d,_,hd,_⟩,_⟩
    rcases hd.1 with ⟨e,_⟩|h
    ·exact e.symm
    ·have:=(Ax5 h).1
     cases this
   ·rintro rfl
    exact ⟨⟨0,Peak.self Ae3 _ _⟩,⟨0,Peak.self (fun u v w h=>Ae3 v u w h) _ _⟩⟩
  match L,hp,h1 with
  |[],_,h1=>exact absurd ((h1 1).2 rfl) (by simp)
  |[a],_,h1=>rw [(h1 a).1 (by simp)]
  |a::b::r,hp,h1=>
   have e1:=(h1 a).1 (by simp);have e2:=(h1 b).1 (by simp);have:=List.rel_of_pairwise_cons hp (a':=b) (by simp);omega
 ·exact absurd (Aj5 hd).2 hk
theorem Bi7 {V:Int} {l:List Int} {x c k:Int} (h:ByIs 2 exE 0 1 1 V l x c k):V=1/\x=3/\c=1/\k=0:=by
 rcases h with ⟨hk,hV,l1,l2,x1,x2,h1,h2,rfl,rfl,rfl⟩|⟨_,_,_,_,_,h|⟨_,_,_,_,h|h⟩⟩
 ·have e1:=(Bc9 (Fm h1)).1
  have e2:=(Aj5 (Fm h2)).1;refine ⟨hV,by omega,?_,hk⟩
  rcases Hz ex_A h1 with ⟨_,e,_⟩|⟨I,hI⟩
  ·cases e
  ·have hm:=hI.mem
   have hs:=hI.sum;have hw:l1.map (wt exE)=List.replicate l1.length 3:=by
    rw [List.eq_replicate_iff];refine ⟨by simp,fun y hy=>?_⟩;obtain ⟨e,he,rfl⟩:=List.mem_map.1 hy;obtain ⟨k1,k2⟩:=hm e he;have:e=0:=by simp at k2;omega
    subst this;rfl
   rw [hw,List.sum_replicate_int] at hs;omega
 ·exact absurd ⟨⟨by decide,by decide⟩,⟨by decide,by decide⟩,⟨by decide,by decide⟩⟩ h.2
 ·exact absurd (.inr (.one (Oo.2 ⟨rfl,rfl,rfl⟩))) (h 3)
 ·exact absurd (.inl ⟨rfl,rfl⟩) (h 0)
theorem Zt (w:World):Calls Tryz.prog 32 #[] w fun e w'=>e=.returned (.bool true)/\Below w.heap.size w w':=by
 have HBU:=Bj3 (fun W ao (hc:Cel W ao (Ar exE))=>Aq3 ⟨2,exE⟩ ao none 1 0 1 1 [] W hc (Cel.nil _ _) (fun _=>by decide) (by decide) (by decide));have HVN:=Bj3 (fun W hb R S ro (h:BH W hb 2 exE R S ro)=>Xk hb 2 exE R S ro 1 1 W h);have HBY:=Bj3 (fun W ao (hc:Cel W ao (Ar exE))=>Sr 2 exE ao 1 0 1 1 W (by decide) (by decide) (by decide) hc);unfold Ag1 at HVN;unfold Mc Cw at HBY
 go_enter Tryz.func32,Tryz.ntmps32
 go_upto_region 2 with (go_at_call 13;refine (HBU.out _ (some ⟨w.heap.size,0,none⟩) (Zn _ _ _ _ _)).mono ?_;rintro e w1 hp;obtain ⟨hb,R,S,ro,rfl,hbh,hb1⟩:=hp.good (by decide) (by decide) (by decide);(have HBH:=Bj3 hbh);(have HB1:=Bj3 ((Below.of_al _ _).st hb1));clear hp hbh hb1)
 go_upto_region 4 with (first
  |(go_at_call 38;refine (HVN.out _ _ _ _ _ HBH.out).mono ?_;rintro e w2 ⟨ao,cap,L,k,rfl,h1,h2,h3⟩;obtain ⟨rfl,rfl⟩:=Ax6 h3;(have HC2:=Bj3 h1);(have HB2:=Bj3 (HB1.out.st h2));clear h1 h2 h3)
  |(go_at_call 33;refine (HBY.out _ (some ⟨w2.heap.size,0,none⟩) (Zn _ _ _ _ _)).mono ?_;rintro e w3 ⟨la,l,lc,V,x,c,k,rfl,h1,h2,h3,h4⟩;obtain ⟨rfl,rfl,rfl,rfl⟩:=Bi7 h3;(have HC3:=Bj3 ((HC2.out.go (Below.of_al _ _)).go h2));(have HB3:=Bj3 (HB2.out.st ((Below.of_al _ _).st h2)));clear h1 h2 h3 h4))
 obtain ⟨W3,hW3⟩:∃W3,W3=w3.alloc (Obj.cells #[.int .i64 1,.slice la l.length lc,.int .u64 3,.int .i64 1] 63):=⟨_,rfl⟩;rw [<-hW3];have hb3:Below w3.heap.size w3 W3:=by rw [hW3];exact Below.of_al _ _
 have HBW:=Bj3 (HB3.out.st hb3);have HCW:=Bj3 (HC3.out.go hb3);have z2:W3.cell? ⟨w3.heap.size,2,none⟩=some (.int .u64 3):=by rw [hW3];go_simp
 have z3:W3.cell? ⟨w3.heap.size,3,none⟩=some (.int .i64 1):=by rw [hW3];go_simp
 clear hW3 hb3;have HSA:=Bj3 (Vq ao (some ⟨W3.heap.size,0,none⟩) cap 1 [1] [1] (W3.alloc (Obj.cells #[.int .i64 1] 3)) (by decide) (by decide) (HCW.out.go (Below.of_al _ _)) (fun i u hu=>by
  match i with
  |0=>exact ⟨W3.heap.size,0,rfl,by cases hu;go_simp⟩
  |i+1=>simp at hu))
 rw [decide_eq_true (rfl:[(1:Int)]=[1])] at HSA;simp only [Bk8,Bk9,Nat.reduceAdd] at HSA;have x2:=Bj4 (Below.of_al W3 (Obj.cells #[.int .i64 1] 3)) z2;have x3:=Bj4 (Below.of_al W3 (Obj.cells #[.int .i64 1] 3)) z3
 go_wp2_with (go_at_call 25;refine HSA.out.mono ?_;rintro e w4 ⟨rfl,nq,rfl⟩;(have y2:=Bj4 (Below.of_dr _ nq) x2);(have y3:=Bj4 (Below.of_dr _ nq) x3))
 go_ret
 exact ⟨rfl,HBW.out.st ((Below.of_al W3 (Obj.cells #[.int .i64 1] 3)).st (Below.of_dr _ _))⟩
end Vi
end
section
namespace Vi
open Go Go.Proofs Go.RowKit Go.Shelf Hp Ch Ad Ro Dj
theorem Ay6 (gn:Int) (es:List EdgeD) (ao:Option Addr) (cap:Nat) (s v t:Int) (w:World) (hg:Aj ⟨gn,es⟩≠0) (hm:es.length<=50000) (hc:Cel w ao (Ar es)):
  Calls Tryz.prog 33 #[.agg #[.int .i64 gn,.slice ao es.length cap],.int .i64 s,.int .i64 v,.int .i64 t] w fun e w'=>e=.returned (.tuple #[Cw 0 none 0 0 0 0,.int .i64 1])/\Below w.heap.size w w':=by
 obtain ⟨W,hW⟩:∃W,W=(w.alloc (Obj.cells #[.int .i64 gn,.slice ao es.length cap] 24)).alloc (Obj.cells #[.int .i64 0,.slice none 0 0,.int .u64 0,.int .i64 0] 63):=⟨_,rfl⟩;have hbw:Below w.heap.size w W:=by rw [hW];exact (Below.of_al _ _).al _
 have c0:W.cell? ⟨w.heap.size,0,none⟩=some (.int .i64 gn):=by rw [hW];go_simp
 have c1:W.cell? ⟨w.heap.size,1,none⟩=some (.slice ao es.length cap):=by rw [hW];go_simp
 have HRB:=Bj3 (show W.heap[w.heap.size+1]? =some (.cells #[.int .i64 0,.slice none 0 0,.int .u64 0,.int .i64 0] 63 (0,0)) by
  rw [hW];have e:w.heap.size+1=(w.alloc (Obj.cells #[.int .i64 gn,.slice ao es.length cap] 24)).heap.size:=by simp
  rw [e]
  show ((w.alloc (Obj.cells #[.int .i64 gn,.slice ao es.length cap] 24)).heap.push _)[_]? =_
  rw [Array.getElem?_push_size])
 have HRG:=Bj3 (Dh ⟨gn,es⟩ ao cap W (show es.length<=9223372036854775807 by omega) (hc.go hbw));have hg2:(Aj ⟨gn,es⟩ != 0)=true:=by simpa using hg
 generalize Aj ⟨gn,es⟩=rg at*;simp only at HRG;have HRX:=Bj3 (fun W2 (hz:Below W.heap.size W W2)=>Ih ((hz.block _ (Bk0.1 HRB.out).1).trans HRB.out));have HW:=Bj3 hW;have HB:=Bj3 hbw;clear hW hbw hg hc
 go_enter Tryz.func33,Tryz.ntmps33
 go_upto_region 1 with (fail)
 rw [<-HW.out]
 go_upto_region 2 with (go_at_call 72;refine HRG.out.mono ?_;rintro e w1 ⟨rfl,hb1⟩;(have HB1:=Bj3 hb1);clear hb1)
 obtain ⟨x0,x1,x2,x3,zz⟩:=HRX.out _ HB1.out;have z0:=zz 0;have z1:=zz 1;have z2:=zz 2;have z3:=zz 3;have HB6:=Bj3 (HB.out.st HB1.out)
 go_wp2
 obtain ⟨r0,r1,r2,r3⟩:=Ee (.int .i64 0) (.slice none 0 0) (.int .u64 0) (.int .i64 0) x0 x1 x2 x3;refine bodyPost_ret (v:=.tuple #[Cw 0 none 0 0 0 0,.int .i64 1]) (by simp [results,Tryz.results33,go_sem,r0,r1,r2,r3];try rfl) rfl ?_;exact ⟨rfl,HB6.out.trans ((Rj _ _ _ _ _ _).below HB6.out.size (fun k e=>by have e2:k=w.heap.size+1:=e;omega))⟩
theorem Al7 (gn:Int) (es:List EdgeD) (ao:Option Addr) (cap:Nat) (s v t:Int) (w:World) (hg:Aj ⟨gn,es⟩≠0) (hm:es.length<=50000) (hc:Cel w ao (Ar es)):
  Calls Tryz.prog 34 #[.agg #[.int .i64 gn,.slice ao es.length cap],.int .i64 s,.int .i64 v,.int .i64 t] w fun e w'=>e=.returned (.tuple #[Cw 0 none 0 0 0 0,.int .i64 1])/\Below w.heap.size w w':=by
 obtain ⟨W,hW⟩:∃W,W=(w.alloc (Obj.cells #[.int .i64 gn,.slice ao es.length cap] 24)).alloc (Obj.cells #[.int .i64 0,.slice none 0 0,.int .u64 0,.int .i64 0] 66):=⟨_,rfl⟩;have hbw:Below w.heap.size w W:=by rw [hW];exact (Below.of_al _ _).al _
 have c0:W.cell? ⟨w.heap.size,0,none⟩=some (.int .i64 gn):=by rw [hW];go_simp
 have c1:W.cell? ⟨w.heap.size,1,none⟩=some (.slice ao es.length cap):=by rw [hW];go_simp
 have HRB:=Bj3 (show W.heap[w.heap.size+1]? =some (.cells #[.int .i64 0,.slice none 0 0,.int .u64 0,.int .i64 0] 66 (0,0)) by
  rw [hW];have e:w.heap.size+1=(w.alloc (Obj.cells #[.int .i64 gn,.slice ao es.length cap] 24)).heap.size:=by simp
  rw [e]
  show ((w.alloc (Obj.cells #[.int .i64 gn,.slice ao es.length cap] 24)).heap.push _)[_]? =_
  rw [Array.getElem?_push_size])
 have HRG:=Bj3 (Dr ⟨gn,es⟩ ao cap W (show es.length<=9223372036854775807 by omega) (hc.go hbw));have hg2:(Aj ⟨gn,es⟩ != 0)=true:=by simpa using hg
 generalize Aj ⟨gn,es⟩=rg at*;simp only at HRG;have HRX:=Bj3 (fun W2 (hz:Below W.heap.size W W2)=>Ih ((hz.block _ (Bk0.1 HRB.out).1).trans HRB.out));have HW:=Bj3 hW;have HB:=Bj3 hbw;clear hW hbw hg hc
 go_enter Tryz.func34,Tryz.ntmps34
 go_upto_region 1 with (fail)
 rw [<-HW.out]
 go_upto_region 2 with (go_at_call 78;refine HRG.out.mono ?_;rintro e w1 ⟨rfl,hb1⟩;(have HB1:=Bj3 hb1);clear hb1)
 obtain ⟨x0,x1,x2,x3,zz⟩:=HRX.out _ HB1.out;have z0:=zz 0;have z1:=zz 1;have z2:=zz 2;have z3:=zz 3;have HB6:=Bj3 (HB.out.st HB1.out)
 go_wp2
 obtain ⟨r0,r1,r2,r3⟩:=Ee (.int .i64 0) (.slice none 0 0) (.int .u64 0) (.int .i64 0) x0 x1 x2 x3;refine bodyPost_ret (v:=.tuple #[Cw 0 none 0 0 0 0,.int .i64 1]) (by simp [results,Tryz.results34,go_sem,r0,r1,r2,r3];try rfl) rfl ?_;exact ⟨rfl,HB6.out.trans ((Rj _ _ _ _ _ _).below HB6.out.size (fun k e=>by have e2:k=w.heap.size+1:=e;omega))⟩
theorem Re (gn:Int) (es:List EdgeD) (ao la:Option Addr) (cap lc m:Nat) (s t V W c:Int) (w:World) (hby:∀U,Below w.heap.size w U->Calls Tryz.prog 33 #[.agg #[.int .i64 gn,.slice ao es.length cap],.int .i64 s,.int .i64 V,.int .i64 t] U fun e w'=>∃y0 y1 y2 y3 y4 y5 k,k≠0/\e=.returned (.tuple #[.agg #[.int .i64 y0,.slice y1 y2 y3,.int .u64 y4,.int .i64 y5],.int .i64 k])/\Below U.heap.size U w'):
  Calls Tryz.prog 36 #[.agg #[.int .i64 gn,.slice ao es.length cap],.int .i64 s,.int .i64 t,Cw V la m lc W c] w fun e w'=>e=.returned (.tuple #[.int .i64 0,.int .i64 0])/\Below w.heap.size w w':=by
 obtain ⟨W1,hW1⟩:∃W1,W1=(w.alloc (Obj.cells #[.int .i64 gn,.slice ao es.length cap] 24)).alloc (Obj.cells #[.int .i64 V,.slice la m lc,.int .u64 W,.int .i64 c] 63):=⟨_,rfl⟩;have hb1:Below w.heap.size w W1:=by rw [hW1];exact (Below.of_al _ _).al _
 have c0:W1.cell? ⟨w.heap.size,0,none⟩=some (.int .i64 gn):=by rw [hW1];go_simp
 have c1:W1.cell? ⟨w.heap.size,1,none⟩=some (.slice ao es.length cap):=by rw [hW1];go_simp
 have y0:W1.cell? ⟨w.heap.size+1,0,none⟩=some (.int .i64 V):=by rw [hW1];go_simp
 have HBY:=Bj3 (hby W1 hb1);have HB1:=Bj3 hb1;have HW1:=Bj3 hW1;unfold Cw;clear hW1 hb1 hby
 go_enter Tryz.func36,Tryz.ntmps36
 go_upto_region 1 with (fail)
 rw [<-HW1.out]
 go_wp2_with (go_at_call 33;refine HBY.out.mono ?_;rintro e w2 ⟨v0,v1,v2,v3,v4,v5,k,hk,rfl,hb2⟩;(have HB2:=Bj3 hb2);(have hk2:(k != 0)=true:=by simpa using hk);clear hb2 hk)
 refine bodyPost_ret (v:=.tuple #[.int .i64 0,.int .i64 0]) (by simp [results,Tryz.results36,go_sem];try rfl) rfl ?_;exact ⟨rfl,HB1.out.st (HB2.out.st (Below.of_al _ _))⟩
theorem Yh (gn:Int) (es:List EdgeD) (ao la:Option Addr) (cap lc m:Nat) (s t V W c:Int) (w:World) (hg:Aj ⟨gn,es⟩≠0) (hm:es.length<=50000) (hc:Cel w ao (Ar es)):
  Calls Tryz.prog 36 #[.agg #[.int .i64 gn,.slice ao es.length cap],.int .i64 s,.int .i64 t,Cw V la m lc W c] w fun e w'=>e=.returned (.tuple #[.int .i64 0,.int .i64 0])/\Below w.heap.size w w':=
 Re gn es ao la cap lc m s t V W c w fun U hz=>(Ay6 gn es ao cap s V t U hg hm (hc.go hz)).mono (by
  rintro e w' ⟨rfl,h⟩;exact ⟨_,_,_,_,_,_,1,by decide,rfl,h⟩)
theorem Ab8 (n:Nat) (es:List EdgeD) (ao la:Option Addr) (cap lc m:Nat) (s t V W c:Int) (w:World) {Vy Wy cy ky:Int} {ly:List Int} (hg:Aj ⟨(n:Int),es⟩=0) (hn:n<=50000) (hm:es.length<=50000) (hc:Cel w ao (Ar es)) (hy:ByIs n es s V t Vy ly Wy cy ky) (hk:ky≠0):
  Calls Tryz.prog 36 #[.agg #[.int .i64 (n:Int),.slice ao es.length cap],.int .i64 s,.int .i64 t,Cw V la m lc W c] w fun e w'=>e=.returned (.tuple #[.int .i64 0,.int .i64 0])/\Below w.heap.size w w':=
 Re (n:Int) es ao la cap lc m s t V W c w fun U hz=>(Sr n es ao cap s V t U hg hn hm (hc.go hz)).mono (by
  rintro e w' ⟨a,l,lc,V',x,c,k,rfl,_,h2,h3,_⟩;have hA:∀u v w,Am es u v w->Ac n u/\Ac n v/\1<=w:=fun a b c h=>by
   have:=XD.ok (Jz hg) a b c (Gj (bk:=false).2 h);exact ⟨this.1,this.2.1,this.2.2.1⟩
  have h9:=(h3.uniq hA hy).2.2.2.2;exact ⟨_,_,_,_,_,_,k,by rw [h9];exact hk,rfl,h2⟩)
theorem Tm (V W c:Int) (la lb:Option Addr) (lc ld:Nat) (l:List Int) (w:World) (hl:l.length<=1000000) (ha:Cel w la (l.map Ai)) (hb:Cel w lb (l.map Ai)):
  Calls Tryz.prog 80 #[Cw V la l.length lc W c,Cw V lb l.length ld W c] w fun e w'=>e=.returned (.bool true)/\Below w.heap.size w w':=by
 obtain ⟨W1,hW1⟩:∃W1,W1=(w.alloc (Obj.cells #[.int .i64 V,.slice la l.length lc,.int .u64 W,.int .i64 c] 66)).alloc (Obj.cells #[.int .i64 V,.slice lb l.length ld,.int .u64 W,.int .i64 c] 66):=⟨_,rfl⟩;have hb1:Below w.heap.size w W1:=by rw [hW1];exact (Below.of_al _ _).al _
 have x0:W1.cell? ⟨w.heap.size,0,none⟩=some (.int .i64 V):=by rw [hW1];go_simp
 have x1:W1.cell? ⟨w.heap.size,1,none⟩=some (.slice la l.length lc):=by rw [hW1];go_simp
 have x2:W1.cell? ⟨w.heap.size,2,none⟩=some (.int .u64 W):=by rw [hW1];go_simp
 have x3:W1.cell? ⟨w.heap.size,3,none⟩=some (.int .i64 c):=by rw [hW1];go_simp
 have y0:W1.cell? ⟨w.heap.size+1,0,none⟩=some (.int .i64 V):=by rw [hW1];go_simp
 have y1:W1.cell? ⟨w.heap.size+1,1,none⟩=some (.slice lb l.length ld):=by rw [hW1];go_simp
 have y2:W1.cell? ⟨w.heap.size+1,2,none⟩=some (.int .u64 W):=by rw [hW1];go_simp
 have y3:W1.cell? ⟨w.heap.size+1,3,none⟩=some (.int .i64 c):=by rw [hW1];go_simp
 have HCM:=Bj3 (show Calls Tryz.prog 19 #[.agg #[.slice la l.length lc,.int .u64 W],.agg #[.slice lb l.length ld,.int .u64 W]] W1 fun e w'=>e=.returned (.int .i64 0)/\Below W1.heap.size W1 w' from by
  have h:=Ab7 la lb lc ld l l W W W1 (by omega) (by omega) (ha.go hb1) (hb.go hb1);rw [Vh] at h;exact h)
 have hV:(V==V)=true:=by simp
 have hcc:(c==c)=true:=by simp
 have HB1:=Bj3 hb1;have HW1:=Bj3 hW1;unfold Cw;clear hW1 hb1 ha hb
 go_enter Tryz.func80,Tryz.ntmps80
 go_upto_region 1 with (fail)
 rw [<-HW1.out]
 go_wp2_with (go_at_call 19;refine HCM.out.mono ?_;rintro e w2 ⟨rfl,hb2⟩;(have HB2:=Bj3 hb2);clear hb2)
 go_ret
 exact ⟨rfl,HB1.out.st HB2.out⟩
theorem Qq (V W c:Int) (la lb:Option Addr) (lc ld:Nat) (l:List Int) (w:World) (hl:l.length<=1000000) (ha:Cel w la (l.map Ai)) (hb:Cel w lb (l.map Ai)):
  Calls Tryz.prog 35 #[Cw V la l.length lc W c,Cw V lb l.length ld W c] w fun e w'=>e=.returned (.bool true)/\Below w.heap.size w w':=by
 obtain ⟨W1,hW1⟩:∃W1,W1=(w.alloc (Obj.cells #[.int .i64 V,.slice la l.length lc,.int .u64 W,.int .i64 c] 63)).alloc (Obj.cells #[.int .i64 V,.slice lb l.length ld,.int .u64 W,.int .i64 c] 66):=⟨_,rfl⟩;have hb1:Below w.heap.size w W1:=by rw [hW1];exact (Below.of_al _ _).al _
 have x0:W1.cell? ⟨w.heap.size,0,none⟩=some (.int .i64 V):=by rw [hW1];go_simp
 have x1:W1.cell? ⟨w.heap.size,1,none⟩=some (.slice la l.length lc):=by rw [hW1];go_simp
 have x2:W1.cell? ⟨w.heap.size,2,none⟩=some (.int .u64 W):=by rw [hW1];go_simp
 have x3:W1.cell? ⟨w.heap.size,3,none⟩=some (.int .i64 c):=by rw [hW1];go_simp
 have y0:W1.cell? ⟨w.heap.size+1,0,none⟩=some (.int .i64 V):=by rw [hW1];go_simp
 have y1:W1.cell? ⟨w.heap.size+1,1,none⟩=some (.slice lb l.length ld):=by rw [hW1];go_simp
 have y2:W1.cell? ⟨w.heap.size+1,2,none⟩=some (.int .u64 W):=by rw [hW1];go_simp
 have y3:W1.cell? ⟨w.heap.size+1,3,none⟩=some (.int .i64 c):=by rw [hW1];go_simp
 have HSM:=Bj3 (Tm V W c la lb lc ld l W1 hl (ha.go hb1) (hb.go hb1));have HB1:=Bj3 hb1;have HW1:=Bj3 hW1;unfold Cw at HSM ⊢;clear hW1 hb1 ha hb
 go_enter Tryz.func35,Tryz.ntmps35
 go_upto_region 1 with (fail)
 rw [<-HW1.out]
 go_wp2_with (go_at_call 80;refine HSM.out.mono ?_;rintro e w2 ⟨rfl,hb2⟩;(have HB2:=Bj3 hb2);clear hb2)
 go_ret
 exact ⟨rfl,HB1.out.st HB2.out⟩
end Vi
end
end Go.Proofs.YteaaapdjplbljaaGreat
