/- Parts; no condition. -/
import Derived.Test.YteaaapdjplbljaaGreatVc27
import Derived.Test.YteaaapdjplbljaaGreatVc30
import Derived.Test.YteaaapdjplbljaaGreatVc26
set_option linter.unusedVariables false
set_option linter.unusedSimpArgs false
set_option linter.unnecessarySimpa false
set_option maxRecDepth 100000
set_option maxHeartbeats 8000000
namespace Go.Proofs.YteaaapdjplbljaaGreat
section
open Go Go.Proofs Go.RowKit
def Ox (l:List Oper) (n:Nat) (st:Oper):Bool:=
 st.guard.isNone&&(st.after.all fun e=>!Region.binds .any e||decide (e.on<n))&&((List.range n).all fun i=>(List.range (n+1)).any fun j=>decide (i<j)&&Region.waitsFor .any l.toArray j i)
section
variable {a:Act} {P:Program} {Q:Exit->Act->World->Prop} {w:World}
theorem Ki {id rl m:Nat} {l:List Oper} (n:Nat) (st:Oper) (vals:List Value) (hst:l=l.take n++[st]) (hln:(l.take n).length=n) (hdf:Hu l=true) (hm:P.follows .mixedOrders=true) (hB:Oy (l.take n) a.tmps.size=true) (hS:Ox l n st=true)
  (hop:Bx (fun i o=>∀(vs:Nat->Value) w',Below w.heap.size w w'->(∀j,Cc l i j=true->vs j=vals.getD j undef)->
   ∀K:Act->World->Prop,(∀w'',Below w'.heap.size w' w''->K ((Al a (Ae l) vs n).put o.dst (vals.getD i undef)) w'')->o.wp P (Al a (Ae l) vs n) w' K Q) 0 (l.take n))
  (hend:∀w',Below w.heap.size w w'->st.wp P (Al a (Ae l) (fun i=>vals.getD i undef) n) w' (fun a' w'=>Q .normal a' w') Q):(Code.region id l.toArray true).wpIn (Fence.wide.inRound rl) m P Q a w:=by
 obtain ⟨h,hh⟩:∃h,h=l.take n:=⟨_,rfl⟩;rw [<-hh] at hst hln hB hop;have hlen:l.length=n+1:=by rw [hst,Bl5,hln];rfl
 have hat:∀i,i<n->l[i]? =h[i]?:=fun i hi=>by rw [hst,Bm4 (by omega)]
 have hda:∀i,i<n->Ae l i=Ae h i:=fun i hi=>by unfold Ae;rw [hat i hi]
 have hput:∀vs m,m<=n->Al a (Ae l) vs m=Al a (Ae h) vs m:=by
  intro vs m
  induction m with
  |zero=>intro _;rfl
  |succ m ih=>
   intro hm
   show Act.put _ _ _=Act.put _ _ _
   rw [ih (by omega),hda m (by omega)]
 have hdb:∀i,i<n->∀j,Cc l i j=Cc h i j:=fun i hi j=>by unfold Cc;rw [hat i hi]
 have hatn:l[n]? =some st:=by rw [hst,Bm3 (by omega),hln,Nat.sub_self];rfl
 have hg:=fun i (hi:i<n)=>Bd hB (Bj0 (show i<h.length by omega));have hds:∀i o,h[i]? =some o->o.dst=some (Ae h i):=fun i o hi=>by
  have k:=(Bd hB hi).1;obtain ⟨d,hd⟩:=Option.isSome_iff_exists.1 k;unfold Ae;rw [hi];simp [hd]
 have hdep:∀i o,h[i]? =some o->∀j,Cc h i j=true->∃e∈o.after,Region.binds .any e=true/\e.on=j:=fun i o hi j k=>by
  unfold Cc at k;simp only [hi] at k;obtain ⟨e,he,h2⟩:=List.any_eq_true.1 k;simp only [Bool.and_eq_true,beq_iff_eq] at h2;exact ⟨e,Array.mem_toList_iff.1 he,h2⟩
 have hD:∀i,i<n->Ae h i<a.tmps.size:=fun i hi=>(hg i hi).2.2.1;have hinj:∀i j,i<n->j<n->Ae h i=Ae h j->i=j:=fun i j hi hj e=>by
  rcases Nat.lt_trichotomy i j with k|k|k
  ·exact absurd e ((hg j hj).2.2.2.2 i k)
  ·exact k
  ·exact absurd e.symm ((hg i hi).2.2.2.2 j k)
 unfold Ox at hS;simp only [Bool.and_eq_true] at hS;obtain ⟨⟨s1,s2⟩,s3⟩:=hS;have hsd:∀e∈st.after,Region.binds .any e=true->e.on<n:=fun e he hb=>by
  rw [Array.all_eq_true_iff_forall_mem] at s2;have:=s2 e he;rw [hb] at this
  simpa using this
 have hwait:∀i,i<n->∃j,i<j/\j<=n/\∃o,l[j]? =some o/\∃e∈o.after,Region.binds .any e=true/\e.on=i:=fun i hi=>by
  have k1:=List.all_eq_true.1 s3 i (Bl9.2 hi);obtain ⟨j,hj,k2⟩:=List.any_eq_true.1 k1;simp only [Bool.and_eq_true,decide_eq_true_eq] at k2;obtain ⟨o,ho,k3⟩:=Region.waitsFor_spec k2.2;exact ⟨j,k2.1,by have:=Bl9.1 hj;omega,o,by simpa using ho,k3⟩
 have ha:=Hr (a:=a) (a':=a) hinj rfl rfl hD (fun _ _=>rfl);refine Ia hdf hm (fun listed a' w'=>listed.size=n+1/\((listed.getD n false=false/\(∀i o,i<n->l[i]? =some o->listed.getD i false=true->∀e∈o.after,Region.binds .any e=true->listed.getD e.on false=true)/\
  ∃(vs:Nat->Value),a'=Al a (Ae h) vs n/\Below w.heap.size w w'/\(∀i,i<n->listed.getD i false=true->vs i=vals.getD i undef))\/((∀i,i<n+1->listed.getD i false=true)/\Q .normal a' w'))) ?_ ?_ ?_
 ·have hz:∀i,¬(Array.replicate l.toArray.size false).getD i false=true:=fun i k=>by
   rw [getD_replicate_false] at k
   cases k
  refine ⟨by simp [hlen],.inl ⟨?_,fun i o _ _ k=>absurd k (hz i),_,ha,(Below.refl _ w).drew,fun i _ k=>absurd k (hz i)⟩⟩
  cases k:(Array.replicate l.toArray.size false).getD n false with
  |false=>rfl
  |true=>exact absurd k (hz n)
 ·rintro listed a' w' i ⟨hsz,h1|⟨hall,-⟩⟩ hi
  ·obtain ⟨hn0,hcl,vs,rfl,hb,hR⟩:=h1
   obtain ⟨h1,o,h2,h3⟩:=mem_ready.1 hi;have h2':l[i]? =some o:=by simpa using h2
   have hlt:i<n+1:=by have:=(Bj8.1 h2').1;omega
   have hun:∀j,listed.getD j false=true->j≠i:=by
    rintro j hj rfl;have:=getD_both h1;rw [this] at hj
    cases hj
   by_cases hin:i<n
   ·have h2h:h[i]? =some o:=(hat i hin).symm.trans h2'
    have hdo:=hds i o h2h;have hgo:=(Bd hB h2h).2.1;unfold wpOpIn;simp only [h2];rw [if_pos (by simp [Region.wanted,Option.isNone_iff_eq_none.1 hgo])];have hopi:=Ej h 0 hop i o h2h;rw [Nat.zero_add] at hopi;simp only [hput _ n (Bi7 _)] at hopi;refine Oper.wpIn_of_wp (hopi vs w' hb (fun j hj=>?_) _ (fun w'' hb2=>?_))
    ·rw [hdb i hin] at hj
     obtain ⟨e,he,hb',rfl⟩:=hdep i o h2h j hj;have h4:=h3 e he hb';have h5:=(Bd hB h2h).2.2.2.1 e he hb';exact hR _ (by omega) h4
    ·have hset:∀j,(listed.setIfInBounds i true).getD j false=true->j=i\/(j≠i/\listed.getD j false=true):=fun j hl=>by
      by_cases e:j=i
      ·exact .inl e
      ·rw [getD_set_ne false (fun k=>e k.symm)] at hl
       exact .inr ⟨e,hl⟩
     have hkeep:∀j,listed.getD j false=true->(listed.setIfInBounds i true).getD j false=true:=fun j hl=>by
      rw [getD_set_ne false (fun k=>hun j hl k.symm)];exact hl
     refine ⟨by simp [hsz],.inl ⟨by rw [getD_set_ne false (by omega)];exact hn0,?_,Hl vs i (vals.getD i undef),?_,hb.st hb2,?_⟩⟩
     ·intro j oj hjn hj hl e he hb'
      rcases hset j hl with rfl|⟨hji,hl'⟩
      ·rw [h2'] at hj
       cases hj
       exact hkeep _ (h3 e he hb')
      ·exact hkeep _ (hcl j oj hjn hj hl' e he hb')
     ·rw [hdo]
      exact Gw hinj hD hin
     ·intro j hj hl
      rcases hset j hl with rfl|⟨hji,hl'⟩
      ·exact if_pos rfl
      ·rw [show Hl vs i (vals.getD i undef) j=vs j from if_neg hji]
       exact hR j hj hl'
   ·obtain rfl:i=n:=by omega
    have ho:o=st:=Bl4 (h2'.symm.trans hatn);subst ho;have hall:∀d j,i-j=d->j<i->listed.getD j false=true:=by
     intro d
     induction d using Nat.strongRecOn with
     |_ d ih=>
      intro j hd hj;obtain ⟨k,k1,k2,ok,k3,e,he,hb',rfl⟩:=hwait j hj
      by_cases hk:k=i
      ·subst hk
       rw [h2'] at k3
       cases k3
       exact h3 e he hb'
      ·exact hcl k ok (by omega) k3 (ih (i-k) (by omega) k rfl (by omega)) e he hb'
    have hvs:∀k,k<=i->Al a (Ae h) vs k=Al a (Ae h) (fun i=>vals.getD i undef) k:=by
     intro k
     induction k with
     |zero=>intro _;rfl
     |succ k ih=>
      intro hk
      show Act.put _ _ _=Act.put _ _ _
      rw [ih (by omega),hR k (by omega) (hall _ k rfl (by omega))]
    unfold wpOpIn;simp only [h2];rw [if_pos (by simp [Region.wanted,Option.isNone_iff_eq_none.1 s1])];rw [hvs i (Bi7 _),<-hput _ i (Bi7 _)];refine Oper.wpIn_of_wp (Oper.wp_mono (fun a1 w1 hq=>?_) (hend w' hb));refine ⟨by simp [hsz],.inr ⟨fun j hj=>?_,hq⟩⟩
    by_cases e:j=i
    ·subst e
     rw [Bm0,Array.getElem?_setIfInBounds_self_of_lt (by omega)];rfl
    ·rw [getD_set_ne false (fun k=>e k.symm)]
     exact hall _ j rfl (by omega)
  ·obtain ⟨h1,o,h2,h3⟩:=mem_ready.1 hi
   have h2':l[i]? =some o:=by simpa using h2
   have hlt:i<n+1:=by have:=(Bj8.1 h2').1;omega
   have:=hall i hlt;rw [getD_both h1] at this
   cases this
 ·rintro listed a' w' ⟨hsz,h1|⟨-,hq⟩⟩ hr
  ·obtain ⟨hn0,hcl,vs,rfl,hb,hR⟩:=h1
   exfalso
   have hall:∀d i,i=d->i<n+1->listed.getD i false=true:=by
    intro d
    induction d using Nat.strongRecOn with
    |_ d ih=>
     rintro i rfl hi
     cases hl:listed.getD i false with
     |true=>rfl
     |false=>
      have hin:i∈Region.ready .any l.toArray listed:=by
       refine mem_ready.2 ⟨Go.getD_in (by omega) hl,l[i]'(by omega),by simp [hlen,hi],fun e he hb'=>?_⟩;have h6:e.on<i:=by
        by_cases k:i<n
        ·have h7:h[i]? =some (l[i]'(by omega)):=by rw [<-hat i k,Bj0 (by omega)]
         exact (Bd hB h7).2.2.2.1 e he hb'
        ·obtain rfl:i=n:=by omega
         have h8:l[i]'(by omega)=st:=Bl4 ((Bj0 (by omega)).symm.trans hatn);rw [h8] at he;exact hsd e he hb'
       exact ih e.on h6 e.on rfl (by omega)
      rw [hr] at hin
      cases hin
   have:=hall n n rfl (by omega);rw [hn0] at this
   cases this
  ·exact hq
def Kk (l:List Oper) (n t:Nat):Bool:=(List.range n).all fun i=>Ae l i != t
theorem Fx {id rl m:Nat} {l:List Oper} (n:Nat) (st:Oper) (vals:List Value) (hst:l=l.take n++[st]) (hln:(l.take n).length=n) (hdf:Hu l=true) (hm:P.follows .mixedOrders=true) (hB:Oy (l.take n) a.tmps.size=true) (hS:Ox l n st=true)
  (hop:Bx (fun i o=>∀(act:Act) w',Below w.heap.size w w'->(∀j,Cc l i j=true->act.tmps.getD (Ae l j) undef=vals.getD j undef)->(∀t,Kk l n t=true->act.tmps.getD t undef=a.tmps.getD t undef)->
   ∀K:Act->World->Prop,(∀w'',Below w'.heap.size w' w''->K (act.put o.dst (vals.getD i undef)) w'')->o.wp P act w' K Q) 0 (l.take n))
  (hend:∀act w',Below w.heap.size w w'->(∀j,j<n->act.tmps.getD (Ae l j) undef=vals.getD j undef)->act=Al a (Ae l) (fun i=>vals.getD i undef) n->st.wp P act w' (fun a' w'=>Q .normal a' w') Q):(Code.region id l.toArray true).wpIn (Fence.wide.inRound rl) m P Q a w:=by
 have hat:∀i,i<n->l[i]? =(l.take n)[i]?:=fun i hi=>by rw [Bn6 hi]
 have hda:∀i,i<n->Ae l i=Ae (l.take n) i:=fun i hi=>by unfold Ae;rw [hat i hi]
 have hg:=fun i (hi:i<n)=>Bd hB (Bj0 (show i<(l.take n).length by omega));have hD:∀i,i<n->Ae l i<a.tmps.size:=fun i hi=>by rw [hda i hi];exact (hg i hi).2.2.1
 have hinj:∀i j,i<n->j<n->Ae l i=Ae l j->i=j:=fun i j hi hj e=>by
  rw [hda i hi,hda j hj] at e
  rcases Nat.lt_trichotomy i j with k|k|k
  ·exact absurd e ((hg j hj).2.2.2.2 i k)
  ·exact k
  ·exact absurd e.symm ((hg i hi).2.2.2.2 j k)
 have hon:∀vs j,j<n->(Al a (Ae l) vs n).tmps.getD (Ae l j) undef=vs j:=fun vs j hj=>by
  rw [Bm0,Gg hinj hj (hD j hj)];rfl
 have hoff:∀vs t,Kk l n t=true->(Al a (Ae l) vs n).tmps.getD t undef=a.tmps.getD t undef:=fun vs t ht=>by
  rw [Bm0,Bm0,Et (fun i hi e=>by
   have:=List.all_eq_true.1 ht i (Bl9.2 hi);simp [e] at this)]
 refine Ki n st vals hst hln hdf hm hB hS ?_ (fun w' hb=>hend _ w' hb (fun j hj=>hon _ j hj) rfl);have key:∀(k:Nat) (ll:List Oper),(∀i o,ll[i]? =some o->l[k+i]? =some o/\k+i<n)->Bx (fun i o=>∀(act:Act) w',Below w.heap.size w w'->(∀j,Cc l i j=true->act.tmps.getD (Ae l j) undef=vals.getD j undef)->(∀t,Kk l n t=true->act.tmps.getD t undef=a.tmps.getD t undef)->
   ∀K:Act->World->Prop,(∀w'',Below w'.heap.size w' w''->K (act.put o.dst (vals.getD i undef)) w'')->o.wp P act w' K Q) k ll->Bx (fun i o=>∀(vs:Nat->Value) w',Below w.heap.size w w'->(∀j,Cc l i j=true->vs j=vals.getD j undef)->
   ∀K:Act->World->Prop,(∀w'',Below w'.heap.size w' w''->K ((Al a (Ae l) vs n).put o.dst (vals.getD i undef)) w'')->o.wp P (Al a (Ae l) vs n) w' K Q) k ll:=by
  intro k ll
  induction ll generalizing k with
  |nil=>intro _ _;trivial
  |cons o ll ih=>
   intro hll h;refine ⟨fun vs w' hb hd K hK=>?_,ih (k+1) (fun i o' hi=>by
    have:=hll (i+1) o' (by simpa using hi);rw [show k+1+i=k+(i+1) by omega];exact this) h.2⟩
   obtain ⟨h0,h1⟩:=hll 0 o rfl;rw [Nat.add_zero] at h0 h1;refine h.1 _ w' hb (fun j hj=>?_) (fun t ht=>hoff vs t ht) K hK;have hj2:j<n:=by
    have h2:=hat k h1;rw [h0] at h2;have h3:=(Bd hB h2.symm).2.2.2.1;unfold Cc at hj;simp only [h0] at hj;obtain ⟨e,he,k2⟩:=List.any_eq_true.1 hj;simp only [Bool.and_eq_true,beq_iff_eq] at k2;have:=h3 e (Array.mem_toList_iff.1 he) k2.1;omega
   rw [hon vs j hj2];exact hd j hj
 exact key 0 (l.take n) (fun i o hi=>by
  have hl:=(Bj8.1 hi).1;rw [Nat.zero_add];exact ⟨(hat i (by omega)).trans hi,by omega⟩) hop
end
end
section
open Go Go.Proofs Go.RowKit Go.Shelf Hp Ch
theorem Sv (hb n:Nat) (es:List EdgeD) (R:List Int) (S:List SC) (O I:List (List Int)) (w:World) (h:HierM w hb n es R S O I) (hn:n<=1000000):
  Calls Tryz.prog 40 #[.pointer (some ⟨hb,0,none⟩)] w (Si R S w):=by
 obtain ⟨W,hW⟩:∃W,W=w.alloc (Obj.cells #[.slice none 0 0,.slice none 0 0] 81):=⟨_,rfl⟩;have hbw:Below w.heap.size w W:=by rw [hW];exact Below.of_al _ _
 obtain ⟨a2,k2,c2,m2⟩:=h.c2;obtain ⟨a3,k3,c3,m3⟩:=h.c3;have HCH:=Bi5 (Rs R S a2 a3 k2 k3 W (m2.go hbw) (m3.go hbw) (by rw [h.rl];exact hn) h.small.2.1);have d2:=Bi6 hbw c2;have d3:=Bi6 hbw c3;have q0:W.cell? ⟨w.heap.size,0,none⟩=some (.slice none 0 0):=by rw [hW];go_simp
 have q1:W.cell? ⟨w.heap.size,1,none⟩=some (.slice none 0 0):=by rw [hW];go_simp
 have z0:W.frozen? ⟨w.heap.size,0,none⟩=false:=by rw [hW];go_simp
 have z1:W.frozen? ⟨w.heap.size,1,none⟩=false:=by rw [hW];go_simp
 have HSZ:=Bi5 (show W.heap.size=w.heap.size+1 by rw [hW];simp);have HB:=Bi5 hbw;have HW:=Bi5 hW;unfold Si at HCH;clear hW hbw h m2 m3 c2 c3
 go_enter Tryz.func40,Tryz.ntmps40
 go_upto_region 1 with (fail)
 rw [<-HW.out]
 go_wp2_with fail
 refine HCH.out.mono ?_;rintro e w1 ⟨a1,k1,b1,l1,rfl,h1,h2,hb1,hf1,hf2⟩;have g0:=Bi6 hb1 q0;have g1:=Bi6 hb1 q1;have y0:=(hb1.frozen (p:=⟨w.heap.size,0,none⟩) (by show w.heap.size<_;rw [HSZ.out];omega)).trans z0;have y1:=(hb1.frozen (p:=⟨w.heap.size,1,none⟩) (by show w.heap.size<_;rw [HSZ.out];omega)).trans z1;have H1:=Bi5 (And.intro h1 (And.intro h2 (And.intro hb1 (And.intro hf1 hf2))));clear h1 h2 hb1 hf1 hf2 d2 d3 q0 q1 z0 z1
 go_wp2_with fail
 obtain ⟨r0,r1⟩:=Ep (.slice a1 R.length k1) (.slice b1 S.length l1) g0 g1;refine bodyPost_ret (v:=.agg #[.slice a1 R.length k1,.slice b1 S.length l1]) (by simp [results,Tryz.results40,go_sem,r0,r1];try rfl) rfl ?_;obtain ⟨h1,h2,hb1,hf1,hf2⟩:=H1.out;have hs:=HSZ.out;have ho:OffX (· =w.heap.size) w1 ((w1.setCell ⟨w.heap.size,0,none⟩ (.slice a1 R.length k1)).setCell ⟨w.heap.size,1,none⟩ (.slice b1 S.length l1)):=
  (show OffX (· =w.heap.size) w1 (w1.setCell ⟨w.heap.size,0,none⟩ (.slice a1 R.length k1)) from .set _ rfl).trans (.set _ rfl)
 have hb4:Below w.heap.size w w1:=HB.out.st hb1;exact ⟨a1,k1,b1,l1,rfl,Fm h1 ho (fun k hk e=>by have:=hf1 k hk;have e2:k=w.heap.size:=e;omega),Fm h2 ho (fun k hk e=>by have:=hf2 k hk;have e2:k=w.heap.size:=e;omega),hb4.trans (ho.below hb4.size (fun k hk=>by have e2:k=w.heap.size:=hk;omega)),fun k hk=>by have:=hf1 k hk;omega,fun k hk=>by have:=hf2 k hk;omega⟩
end
section
open Go Go.Proofs Go.RowKit Go.Shelf Hp Ch
attribute [local go_sem] Oper.semAt_some
structure SwM (w W:World) (fb B8 hb n:Nat) (back:Bool) (f:List Int):Prop where
 x0:W.cell? ⟨w.heap.size,0,none⟩=some (.pointer (some ⟨hb,0,none⟩))
 x1:W.cell? ⟨w.heap.size,1,none⟩=some (.bool back)
 bx:W.cell? ⟨B8,0,none⟩=some (.slice (some ⟨fb,0,none⟩) n n)
 own:W.ownsRow w.heap.size 37 1 (.slice (some ⟨fb,0,none⟩) n n) n (f.map Bz)
 bel:Below w.heap.size w W
 ge:w.heap.size<fb/\fb<B8
section
variable {w W W':World} {fb B8 hb n:Nat} {back:Bool} {f:List Int}
theorem SwM.off {X:Nat->Prop} (h:SwM w W fb B8 hb n back f) (ho:OffX X W W') (hX:∀k,X k->w.heap.size<k/\k≠fb/\k≠B8):SwM w W' fb B8 hb n back f:=
 ⟨ho.cell h.x0 (fun e=>absurd (hX _ e).1 (Nat.lt_irrefl _)),ho.cell h.x1 (fun e=>absurd (hX _ e).1 (Nat.lt_irrefl _)),ho.cell h.bx (fun e=>(hX _ e).2.2 rfl),
  Ai h.own (fun k e=>by cases e;exact ho.block _ (h.own.lt fb rfl).2 (fun e=>(hX _ e).2.1 rfl)),h.bel.trans (ho.below h.bel.size (fun k e=>Nat.le_of_lt (hX k e).1)),h.ge⟩
theorem SwM.go (h:SwM w W fb B8 hb n back f) (hz:Below W.heap.size W W'):SwM w W' fb B8 hb n back f:=h.off (X:=fun _=>False) (.of_below hz) (fun _ h=>h.elim)
theorem SwM.flen (h:SwM w W fb B8 hb n back f):f.length=n:=by have:=h.own.1;simpa using this
theorem SwM.cell (h:SwM w W fb B8 hb n back f) {v:Nat} (hv:v<n):W.cell? ⟨fb,v,none⟩=some (.int .u64 (gD f (v:Int))):=by
 have hl:=h.flen;have h1:=h.own.cellAt v (by omega);rw [h1,Bk4,Bj0 (by omega)];unfold gD;rw [Bj9,Bj1,Bj0 (by omega)];rfl
theorem SwM.set (h:SwM w W fb B8 hb n back f) (v:Nat) (x:Int):SwM w (W.setCell ⟨fb,v,none⟩ (.int .u64 x)) fb B8 hb n back (f.set v x):=by
 have ho:OffX (· =fb) W (W.setCell ⟨fb,v,none⟩ (.int .u64 x)):=.set _ rfl;have hg:=h.ge;have h1:=(h.own.stored v (.int .u64 x)).1;rw [show (f.map Bz).set v (.int .u64 x)=(f.set v x).map Bz by rw [List.map_set]] at h1;exact ⟨ho.cell h.x0 (by show ¬w.heap.size=fb;omega),ho.cell h.x1 (by show ¬w.heap.size=fb;omega),ho.cell h.bx (by show ¬B8=fb;omega),h1,h.bel.setCell (by show w.heap.size<=fb;omega) _,h.ge⟩
end
theorem Aj9 {w:World} {base base' size n:Nat} {e:TypeId} {v:Value} {xs:List Value} (h:w.ownsRow base e size v n xs) (hb:base'<=base):w.ownsRow base' e size v n xs:=by
 refine ⟨h.1,?_⟩
 rcases h.2 with h2|⟨g,cap,cur,hv,hbg,r⟩
 ·exact .inl h2
 ·exact .inr ⟨g,cap,cur,hv,Bi9 hb hbg,r⟩
def Oh (es:List EdgeD) (n:Nat) (back:Bool) (s:Nat) (w:World) (e:Ending) (w':World):Prop:=
 ∃(b:Nat) (f:List Int),e=.returned (.slice (some ⟨b,0,none⟩) n n)/\Cel w' (some ⟨b,0,none⟩) (f.map Bz)/\f.length=n/\w.heap.size<=b/\Below w.heap.size w w'/\∀v,Aa n v->FarV (Bw back (Am es)) (s:Int) v (gD f v)
theorem Zn (a b:Option Addr) (l k m q:Nat) (w:World):(Instr.field 81 (.agg #[.slice a l k,.slice b m q]) 0).run Tryz.prog w=.ok (.slice a l k) w:=by
 kernel_rfl
theorem Au4 {es:List EdgeD} {n:Nat} {R:List Int} {S:List SC} {ro:List Int} (hok:HierOK es n R S ro) {i:Nat} (hi:i<n):∃v:Nat,v<n/\(Fj R).getD i 0=(v:Int)/\rk ro (v:Int)=(i:Int):=by
 have hl:=hok.len;obtain ⟨p,hp,e⟩:=Qf hok.rank (i:=i) (by omega);have h1:=Mf hok.rank hp;have h2:=hok.at1 (p:Int) ⟨by omega,by omega⟩;rw [Bj9,Bj0 hp,e] at h2;rw [e,Bj9] at h1;exact ⟨p,by omega,by rw [Bj1,h1];rfl,(Bl4 h2).symm⟩
def SwO (w w5:World) (fb B8 hb n:Nat) (back:Bool) (es:List EdgeD) (ro:List Int) (s:Nat) (pre:List (Nat×Int)) (W:World):Prop:=
 ∃f,SwM w W fb B8 hb n back f/\Swp (Bw back (Am es)) (rk ro) (s:Int) n (n-pre.length) f/\w5.heap.size<=W.heap.size
def SwN (w Wb w6:World) (Kx:Nat->Prop) (fb B8 hb n v Bv:Nat) (back:Bool) (f:List Int) (pre:List Bt) (W:World):Prop:=
 SwM w W fb B8 hb n back (Bn v f pre)/\W.cell? ⟨Bv,0,none⟩=some (.int .i64 (v:Int))/\KeepX Kx Wb W/\w6.heap.size<=W.heap.size
theorem Bf3 {n v:Nat} {f:List Int} {l:List Bt} {B:Int} (hlen:f.length=n) (hv:v<n) (hf:∀u,Aa n u->0<=gD f u/\gD f u<=B) (hl:∀x∈l,Aa n x.2.1/\x.2.1≠(v:Int)/\1<=x.2.2):∀u,Aa n u->0<=gD (Bn v f l) u/\gD (Bn v f l) u<=B:=by
 obtain ⟨i1,i2,i3,i4⟩:=Lh (v:=v) l f (by omega) (fun x hx=>⟨(hl x hx).1.1,(hl x hx).2.1⟩);intro u hu
 by_cases e:u=(v:Int)
 ·subst e
  refine ⟨?_,Int.le_trans i2 (hf _ hu).2⟩
  rcases i4 with h|⟨x,hx,h⟩
  ·rw [h];exact (hf _ hu).1
  ·have:=(hf _ (hl x hx).1).1
   have:=(hl x hx).2.2;omega
 ·rw [i1 u hu.1 e]
  exact hf u hu
theorem SeqK.inRound {α:Type} {F:Fence} {n:Nat} {P:Program} {g:Nat} {lb:Array Value} {encs:α->Array Value} {parts:List α} {Kp:Nat->Prop} {w:World} (l:Nat) (h:SeqK F n P g lb encs parts Kp w):SeqK (F.inRound l) n P g lb encs parts Kp w:=h
theorem Ai9 (hb n:Nat) (es:List EdgeD) (R:List Int) (S:List SC) (ro:List Int) (back:Bool) (s:Nat) (l:List LB) (ao:Option Addr) (cap:Nat) (w:World) (hh:HierM w hb n es R S (An R S n S.length).1 (An R S n S.length).2) (hok:HierOK es n R S ro) (hn:n<=12) (hs:s<n)
  (hc:Cel w ao (Ao l)) (hsp:Space (Bw back (Am es)) (XN S back) (rk ro) (s:Int) (l.map Cn)) (hl:l.length<=n):
  Calls Tryz.prog 144 #[.pointer (some ⟨hb,0,none⟩),.slice ao l.length cap,.bool back] w (Oh es n back s w):=by
 have HH:=Bi5 hh;have HOK:=Bi5 hok;have HC:=Bi5 hc;have HSP:=Bi5 hsp;have HL:=Bi5 (Li hok hsp hs hn);have HEA:=Bi5 (fun v w=>Hg hb back true v w);have hfd:=Zn;have hl2:(l.length:Int)<=12:=by omega
 have HNN:=Bi5 (fun W (hz:Below w.heap.size w W)=>Fr hb n es R S _ _ W (hh.go hz));have HRP:=Bi5 (fun bx W (hx:W.cell? ⟨bx,0,none⟩=some (.int .u64 4611686018427387904))=>Qc bx 0 1 n 4611686018427387904 W (by omega) hx);have HHI:=Bi5 (fun W (hz:Below w.heap.size w W)=>Sv hb n es R S _ _ W (hh.go hz) (by omega));have HRL:=Bi5 hok.len;have HIV:=Bi5 (fun a q W hc=>Gn R a q W (by have:=hok.len;omega) hc);have HIL:=Bi5 (show (Fj R).length=n by rw [Dp hok.rank,hok.len]);unfold Si at HHI;unfold Mq at HIV;unfold Oh;clear hh hok hc hsp;refine (callsIn_wide (n:=4)).1 (callsIn_of_wp_marks Tryz.func144 rfl trivial (wpIn_wide.2 ?_) rfl);simp only [Tryz.ntmps144,List.size_toArray,Bk0,Bk1,Nat.reduceAdd,Nat.reduceSub,Array.replicate_succ,Array.replicate_zero,List.push_toArray,List.append_toArray,List.nil_append,List.cons_append]
 go_upto_region 3 with (first
  |(go_at_call 175;refine (HNN.out _ ((Below.of_al _ _).al _)).mono ?_;rintro e w1 ⟨rfl,rfl⟩)
  |(go_at_call 124;refine (HRP.out _ _ (by go_simp)).mono ?_;rintro e w3 ⟨rfl,ho3,hb3⟩;(have HO3:=Bi5 ho3);(have HB3:=Bi5 hb3);clear ho3 hb3))
 obtain ⟨W4,hW4⟩:∃W4,W4=w3.alloc (Obj.cells #[.slice (some ⟨w.heap.size+1+1,0,none⟩) n n] 60):=⟨_,rfl⟩;rw [<-hW4];have hb34:Below w3.heap.size w3 W4:=by rw [hW4];exact Below.of_al _ _
 have hfb:w.heap.size+1+1<w3.heap.size:=by have h9:=(HO3.out.lt _ rfl).2;simpa using h9
 have hM0:SwM w W4 (w.heap.size+1+1) w3.heap.size hb n back (List.replicate n FAR):=by
  refine ⟨Bi6 hb34 (Bi6 HB3.out (by go_simp)),Bi6 hb34 (Bi6 HB3.out (by go_simp)),by rw [hW4];go_simp,?_,(((Below.of_al _ _).al _).st HB3.out).st hb34,by omega,hfb⟩;have h9:=Af HO3.out hb34;simp only [World.size_alloc] at h9;exact Aj9 h9 (by omega)
 have HM0:=Bi5 hM0;have HB4:=Bi5 hM0.bel;clear HO3 HB3 hb34 hM0 hW4 HRP HNN;generalize hfbe:w.heap.size+1+1=fb at*;generalize w3.heap.size=B8 at*;clear hfbe
 go_wp2
 go_loopg [24] l.length (fun gg v24 wr=>∃k:Nat,k<=l.length/\l.length-k<=gg/\v24=.int .i64 k/\Aside (SwM w wr fb B8 hb n back (Kl (List.replicate n FAR) (l.take k))))
 case atStart=>exact ⟨0,Bi8 _,by omega,rfl,by rw [List.take_zero];exact HM0.out⟩
 case round=>
  obtain ⟨k,hk,hgg,rfl,HM⟩:=hrel
  by_cases hlt:k<l.length
  ·have hlt3:(k:Int)<(l.length:Int):=by omega
   have hk0:(0:Int)<=(k:Int):=by omega
   obtain ⟨lb,lo,rfl,y0,y1,y2⟩:=(HC.out.go HM.out.bel).lab hlt;obtain ⟨⟨i0,i1⟩,i2,i3⟩:=HL.out l[k] (Bj7 hlt);have HTK:=Bi5 (show Kl (List.replicate n FAR) (l.take (k+1))=(Kl (List.replicate n FAR) (l.take k)).set l[k].v.toNat l[k].d by rw [Bk3 hlt,Al3]);generalize l[k]=a at*;obtain ⟨av,ad,ab⟩:=a;simp only at y0 y1 y2 i0 i1 i2 i3 HTK;obtain ⟨v,rfl⟩:∃v:Nat,av=v:=⟨av.toNat,by omega⟩;rw [Bj9] at HTK;have hv:v<n:=by omega
   generalize Kl (List.replicate n FAR) (l.take k)=f at*
   go_upto_region 6 with (fail)
   obtain ⟨wa,hwa⟩:∃wa,wa=wr.alloc (Obj.cells #[.int .i64 (v:Int),.int .u64 ad,.int .i64 ab] 150):=⟨_,rfl⟩;rw [<-hwa];have HMA:=Bi5 (show SwM w wa fb B8 hb n back f by rw [hwa];exact HM.out.go (Below.of_al _ _));have e0:wa.cell? ⟨wr.heap.size,0,none⟩=some (.int .i64 (v:Int)):=by rw [hwa];go_simp
   have e1:wa.cell? ⟨wr.heap.size,1,none⟩=some (.int .u64 ad):=by rw [hwa];go_simp
   have e2:=HMA.out.bx;have e3:=HMA.out.cell hv;have e4:=HMA.out.own.frozenAt v;clear y0 y1 y2 hwa;have hv3:(v:Int)<(n:Int):=by omega
   go_wp2
   have HM2:=Bi5 (HMA.out.set v ad)
   go_roundg (l.length-(k+1))
   case measure=>omega
   case rel=>exact ⟨k+1,by omega,Bi7 _,by go_num,by rw [HTK.out];exact HM2.out⟩
  ·obtain rfl:k=l.length:=by omega
   have HM1:=Bi5 (show SwM w wr fb B8 hb n back (Kl (List.replicate n FAR) l) by have h9:=HM.out;rwa [Bn1] at h9);have HS0:=Bi5 (Swp.start HOK.out hn hs HSP.out);clear HM HC HL hk hgg hlt HM0 HB4;generalize Kl (List.replicate n FAR) l=f0 at*
   go_upto_region 9 with (first
    |(go_at_call 40;refine (HHI.out _ HM1.out.bel).mono ?_;rintro e w1 ⟨a1,q1,b1,q2,rfl,h1,h2,hb1,hf1,hf2⟩;(have HR1:=Bi5 h1);(have HB1:=Bi5 hb1);clear h1 h2 hb1 hf1 hf2)
    |(go_at_call 108;refine (HIV.out _ _ _ HR1.out).mono ?_;rintro e w2 ⟨ra,rc,rfl,h1,h2,h3⟩;(have HI2:=Bi5 h1);(have HB2:=Bi5 (HB1.out.st h2));(have HF2:=Bi5 h3);clear h1 h2 h3)
    |(go_at_call 198;refine (We _ _ _ _).mono ?_;rintro e w5 ⟨rfl,hb5,hz5,k5⟩;(have HI5:=Bi5 (HI2.out.go hb5));(have HB5:=Bi5 (HB2.out.st hb5));(have HZ5:=Bi5 hz5);(have K5:=Bi5 k5);clear hb5 hz5 k5))
   have hB8:B8<wr.heap.size:=Bj5 _ _ HM1.out.bx;have hkB:∀k,KpB w2.heap.size ra k->k<w5.heap.size/\B8<k:=by
    have h9:=HB1.out.size;have h8:=HB2.out.size;have h7:=HZ5.out;rintro k (e|⟨b,o,e,e2⟩)
    ·omega
    ·obtain ⟨b',o',e',c5⟩:=HI5.out.at (i:=0) (by rw [HIL.out];omega)
     have h6:=HF2.out k (by rw [e,e2];rfl);rw [e] at e'
     cases e'
     have h5:=Bj5 _ _ c5;simp only at h5;omega
   have HKB:=Bi5 hkB;have HSEQ:=Bi5 (Rz 3 (by decide) ra rc w2.heap.size (Fj R) w5 (by rw [HIL.out];omega) K5.out HI5.out);have HIN:=Bi5 (fun i hi=>Au4 HOK.out (i:=i) hi);have HM5:=Bi5 (HM1.out.go HB5.out);have hB85:B8<w5.heap.size:=by have:=HB5.out.size;omega
   have hge:=HM1.out.ge;clear HHI HIV HR1 HB1 HI2 HB2 HF2 HI5 HB5 K5 hkB HM1 hB8;rw [HIL.out];refine (wpIn_wide (n:=4)).1 (Up rfl (by decide) (gf:=249) rfl trivial (enters_of Tryz.func249 (by kernel_rfl) rfl) HSEQ.out (fun k hk=>(HKB.out k hk).1) (fun _=>rfl) (SwO w w5 fb B8 hb n back es ro s) (fun _ _ _=>False) ?hI (fun _ _ _ _ h _=>h) ?h0 ?round ?done ?stop)
   case stop=>rintro D c pre W hD0 hpp hf;exact hf.elim
   case hI=>
    rintro pre W W' ⟨f,h1,h2,h3⟩ ho;exact ⟨f,h1.off ho (fun k e=>by unfold Au at e;omega),h2,Bi9 h3 ho.size⟩
   case h0=>exact ⟨f0,HM5.out,HS0.out,Bi7 _⟩
   case done=>
    rintro D W hD0 ⟨f,h1,h2,h3⟩ hK;rw [Rw,HIL.out,Nat.sub_self] at h2;have HM9:=Bi5 h1;have HS9:=Bi5 h2;have b9:=h1.bx;have HK9:=Bi5 hK;clear h1 h2 h3 hK
    go_wp2
    refine Gi (a:=_) rfl HK9.out (fun W9 ho=>⟨.slice (some ⟨fb,0,none⟩) n n,?_,?_⟩)
    ·simp [results,Tryz.results144,go_sem]
     try rfl
    ·have h9:=HM9.out.off ho (fun k e=>by omega)
     obtain ⟨ao9,cap9,e9,hc9⟩:=Cel.of_owns h9.own
     cases e9
     exact ⟨fb,f,rfl,hc9,h9.flen,by omega,h9.bel,fun v hv=>HS9.out.far (HOK.out.hierB back).pos hn (fun v=>by unfold rk;omega) hv⟩
   case round=>
    rintro l' pre ⟨xi,xv⟩ W0 K hI hpx hl1 hl2 hsz hK;obtain ⟨hx1,hx2⟩:=Ah7 hpx;simp only [HIL.out] at hx1 hx2;obtain ⟨v,hv,hvr,hvk⟩:=HIN.out xi (by omega);rw [hvr] at hx2;subst hx2
    gi_wp2
    refine hK _ _ (Below.of_al _ _) (fun Wb ho hi hrec=>?_);obtain ⟨f,hM,hS,hsz2⟩:=hi;have cv:=ho.cell (p:=⟨W0.heap.size,0,none⟩) (v:=.int .i64 (v:Int)) (by go_simp) (fun e=>by unfold Au at e;simp only at e;omega);have hbv:W0.heap.size<Wb.heap.size:=Bj5 _ _ cv;have cx0:=hM.x0;have cx1:=hM.x1;have HM6:=Bi5 hM;have HS6:=Bi5 hS;clear hM hS hK hI ho
    gi_wp2_with (refine ⟨trivial,?_⟩;gi_at_call 199;refine (CallsIn.inRound l' (callsIn_wide.2 (HEA.out _ _))).mono ?_;rintro e w6 ⟨rfl,hb6,hz6,b0,b1,b2,b3⟩)
    obtain ⟨rl,hrl⟩:=hrec;have hl6:w6.heap[l']? =some (.loop rl):=(hb6.block l' (Bj2.1 hrl).1).trans hrl;have hMl:=HM6.out.bel;have hMz:=hMl.size;have hkB6:∀j,KpU w.heap.size Wb.heap.size j->j<w6.heap.size:=by
     rintro j (h|h)<;>omega
    have HSQ6:=Bi5 (SeqK.inRound l' (En 1 (by decide) hb n es R S (An R S n S.length).1 (An R S n S.length).2 back true v Wb.heap.size w w6 HH.out (fun k hk=>(hMl.st hb6).block k hk) hkB6 hv (Zq HOK.out _ hv) (fun x hx=>⟨(HOK.out.ends x hx).1,(HOK.out.ends x hx).2.1⟩) b0 b1 b2 b3));have HTO:=Bi5 (Wj HOK.out hn back hv);have HKx:∀k,Mr (KpB w2.heap.size ra) w5.heap.size k->k<W0.heap.size/\k≠fb:=by
     rintro k (h|h|h)
     ·have:=HKB.out k h;omega
     ·omega
     ·omega
    have HI6:=Bi5 (show SwN w Wb w6 (Mr (KpB w2.heap.size ra) w5.heap.size) fb B8 hb n v W0.heap.size back f [] w6 from ⟨HM6.out.go hb6,Bi6 hb6 cv,⟨hb6.size,fun k hk=>hb6.block k (by have:=(HKx k hk).1;omega)⟩,Bi7 _⟩);have HST:=Bi5 (fun (h:n-pre.length=xi+1)=>Swp.step HOK.out hn hv hvk (show Swp (Bw back (Am es)) (rk ro) (s:Int) n (xi+1) f by rw [<-h];exact HS6.out));have HBD:=Bi5 (fun (pre2:List Bt) (hp:pre2 <+:Cf R S n v (back != true))=>Bf3 (n:=n) (v:=v) (f:=f) (l:=pre2) (B:=4611686018427387904) HM6.out.flen hv (fun u hu=>HS6.out.bd (HOK.out.hierB back).pos hn hu) (fun x hx=>by
     obtain ⟨_,k1,k2,k3,_⟩:=HTO.out x (hp.subset hx);exact ⟨k2,k1,k3⟩))
    have HB6:=Bi5 hb6;have hs6:=hb6.size;clear b0 b1 b2 b3 hb6 hrl cv cx0 cx1 HM6 HS6 hMl;refine Uq (F:=Fence.wide.inRound l') (l₀:=l') (r₀:=rl) rfl hl6 (by decide) (gf:=250) rfl trivial (enters_of Tryz.func250 (by kernel_rfl) rfl) HSQ6.out hkB6 (fun _=>rfl) (SwN w Wb w6 (Mr (KpB w2.heap.size ra) w5.heap.size) fb B8 hb n v W0.heap.size back f) (fun _ _ _=>False) ?hI2 (fun _ _ _ _ h _=>h) HI6.out ?round2 ?done2 ?stop2
    case stop2=>rintro c pre W hpp hf;exact hf.elim
    case hI2=>
     rintro pre2 W W' ⟨h1,h2,h3,h4⟩ ho;refine ⟨h1.off ho (fun k e=>by unfold Jl at e;omega),ho.cell h2 (by intro e;unfold Jl at e;simp only at e;omega),⟨Bi9 h3.1 ho.size,fun k hk=>?_⟩,Bi9 h4 ho.size⟩;have h9:=(HKx k hk).1;exact (ho.block k (by omega) (by intro e;unfold Jl at e;omega)).trans (h3.2 k hk)
    case done2=>
     rintro W ⟨h1,h2,h3,h4⟩;have H1:=Bi5 h1;have H3:=Bi5 h3;clear h1 h2 h3
     gi_wp2
     exact ⟨H3.out,_,H1.out,by rw [Bl5,List.length_singleton,show n-(pre.length+1)=xi by omega];exact HST.out (by omega),by omega⟩
    case round2=>
     rintro l2 pre2 ⟨xi2,xt,xw⟩ W1 K2 hI2 hpx2 hl2e hsz2' hK2;obtain ⟨t1,t2,⟨t3,t4⟩,t5,t6⟩:=HTO.out (xi2,xt,xw) (hpx2.subset (by simp));simp only at t2 t3 t4 t5 t6;obtain ⟨t,rfl⟩:∃t:Nat,xt=t:=⟨xt.toNat,by omega⟩;clear t1
     dsimp only [Aw4]
     gi_wp2
     refine hK2 _ _ (Below.of_al _ _) (fun Wc ho2 hi2=>?_);obtain ⟨hM,c8,hKX,hs4⟩:=hi2;have hDz:w6.heap.size≠W1.heap.size:=by omega
     have y1:=ho2.cell (p:=⟨W1.heap.size,1,none⟩) (v:=.int .i64 (t:Int)) (by go_simp) (fun e=>hDz (by unfold Jl at e;exact e.symm));have y2:=ho2.cell (p:=⟨W1.heap.size,2,none⟩) (v:=.int .u64 xw) (by go_simp) (fun e=>hDz (by unfold Jl at e;exact e.symm));have htn:t<n:=by omega
     have hWc:W1.heap.size+1<=Wc.heap.size:=by have h9:=ho2.size;rwa [World.size_alloc] at h9
     have hpp2:pre2 <+:Cf R S n v (back != true):=(List.prefix_append pre2 [(xi2,(t:Int),xw)]).trans hpx2;obtain ⟨bx0,bx1⟩:=HBD.out pre2 hpp2 (v:Int) ⟨by omega,by omega⟩;obtain ⟨by0,by1⟩:=HBD.out pre2 hpp2 (t:Int) ⟨by omega,by omega⟩;have HSN:=Bi5 (show Bn v f (pre2++[(xi2,(t:Int),xw)])=(Bn v f pre2).set v (min (gD (Bn v f pre2) (v:Int)) (gD (Bn v f pre2) (t:Int)+xw)) from Aa5 v f pre2 _);have cb:=hM.bx;have cx:=hM.cell hv;have cy:=hM.cell htn;have zf:=hM.own.frozenAt v;have HMC:=Bi5 hM;have HKC:=Bi5 hKX;have hv3:(v:Int)<(n:Int):=by omega
     have hv0:(0:Int)<=(v:Int):=by omega
     generalize gD (Bn v f pre2) (v:Int)=x at*;generalize gD (Bn v f pre2) (t:Int)=y at*;generalize Bn v f pre2=f2 at*;clear hM hKX hI2 hK2 hpx2 hpp2 ho2
     gi_wp2
     rename_i K3 Q3 hK3
     have hwr:IntKind.u64.wrap (y+xw)=y+xw:=by rw [Bn7];omega
     refine Fx 16 _ [.slice (some ⟨fb,0,none⟩) n n,.int .i64 (v:Int),.slice (some ⟨fb,0,none⟩) n n,.int .i64 (v:Int),.pointer (some ⟨fb,v,none⟩),.int .u64 x,.slice (some ⟨fb,0,none⟩) n n,.pointer (some ⟨W1.heap.size,1,none⟩),.int .i64 (t:Int),.pointer (some ⟨fb,t,none⟩),.int .u64 y,.pointer (some ⟨W1.heap.size,2,none⟩),.int .u64 xw,.int .u64 (y+xw),.int .u64 (min x (y+xw)),.pointer (some ⟨fb,v,none⟩)] rfl rfl (by kernel_rfl) (by kernel_rfl) (by kernel_rfl) (by kernel_rfl) ?_ ?_
     ·refine ⟨?_,?_,?_,?_,?_,?_,?_,?_,?_,?_,?_,?_,?_,?_,?_,?_,trivial⟩
      ·intro act w' hbe hd ho K hK
       have g8:act.tmps.getD 8 undef=.pointer (some ⟨B8,0,none⟩):=ho 8 (by kernel_rfl);have f0:=Bi6 hbe cb;simp [Oper.wp,execOp,Oper.upon,go_sem,Act.eval,g8,f0];exact hK w' (Below.refl _ _)
      ·intro act w' hbe hd ho K hK
       have g12:act.tmps.getD 12 undef=.pointer (some ⟨W0.heap.size,0,none⟩):=ho 12 (by kernel_rfl);have f0:=Bi6 hbe c8;simp [Oper.wp,execOp,Oper.upon,go_sem,Act.eval,g12,f0];exact hK w' (Below.refl _ _)
      ·intro act w' hbe hd ho K hK
       have g8:act.tmps.getD 8 undef=.pointer (some ⟨B8,0,none⟩):=ho 8 (by kernel_rfl);have f0:=Bi6 hbe cb;simp [Oper.wp,execOp,Oper.upon,go_sem,Act.eval,g8,f0];exact hK w' (Below.refl _ _)
      ·intro act w' hbe hd ho K hK
       have g12:act.tmps.getD 12 undef=.pointer (some ⟨W0.heap.size,0,none⟩):=ho 12 (by kernel_rfl);have f0:=Bi6 hbe c8;simp [Oper.wp,execOp,Oper.upon,go_sem,Act.eval,g12,f0];exact hK w' (Below.refl _ _)
      ·intro act w' hbe hd ho K hK
       have e2:act.tmps.getD 49 undef=.slice (some ⟨fb,0,none⟩) n n:=hd 2 (by rfl);have e3:act.tmps.getD 50 undef=.int .i64 (v:Int):=hd 3 (by rfl);simp [Oper.wp,execOp,Oper.upon,go_sem,Act.eval,e2,e3,hv];exact hK w' (Below.refl _ _)
      ·intro act w' hbe hd ho K hK
       have e4:act.tmps.getD 51 undef=.pointer (some ⟨fb,v,none⟩):=hd 4 (by rfl);have f0:=Bi6 hbe cx;simp [Oper.wp,execOp,Oper.upon,go_sem,Act.eval,e4,f0];exact hK w' (Below.refl _ _)
      ·intro act w' hbe hd ho K hK
       have g8:act.tmps.getD 8 undef=.pointer (some ⟨B8,0,none⟩):=ho 8 (by kernel_rfl);have f0:=Bi6 hbe cb;simp [Oper.wp,execOp,Oper.upon,go_sem,Act.eval,g8,f0];exact hK w' (Below.refl _ _)
      ·intro act w' hbe hd ho K hK
       have g14:act.tmps.getD 14 undef=.pointer (some ⟨W1.heap.size,0,none⟩):=ho 14 (by kernel_rfl);simp [Oper.wp,execOp,Oper.upon,go_sem,Act.eval,g14];exact hK w' (Below.refl _ _)
      ·intro act w' hbe hd ho K hK
       have e7:act.tmps.getD 54 undef=.pointer (some ⟨W1.heap.size,1,none⟩):=hd 7 (by rfl);have f0:=Bi6 hbe y1;simp [Oper.wp,execOp,Oper.upon,go_sem,Act.eval,e7,f0];exact hK w' (Below.refl _ _)
      ·intro act w' hbe hd ho K hK
       have e6:act.tmps.getD 53 undef=.slice (some ⟨fb,0,none⟩) n n:=hd 6 (by rfl);have e8:act.tmps.getD 55 undef=.int .i64 (t:Int):=hd 8 (by rfl);simp [Oper.wp,execOp,Oper.upon,go_sem,Act.eval,e6,e8,htn];exact hK w' (Below.refl _ _)
      ·intro act w' hbe hd ho K hK
       have e9:act.tmps.getD 56 undef=.pointer (some ⟨fb,t,none⟩):=hd 9 (by rfl);have f0:=Bi6 hbe cy;simp [Oper.wp,execOp,Oper.upon,go_sem,Act.eval,e9,f0];exact hK w' (Below.refl _ _)
      ·intro act w' hbe hd ho K hK
       have g14:act.tmps.getD 14 undef=.pointer (some ⟨W1.heap.size,0,none⟩):=ho 14 (by kernel_rfl);simp [Oper.wp,execOp,Oper.upon,go_sem,Act.eval,g14];exact hK w' (Below.refl _ _)
      ·intro act w' hbe hd ho K hK
       have e11:act.tmps.getD 58 undef=.pointer (some ⟨W1.heap.size,2,none⟩):=hd 11 (by rfl);have f0:=Bi6 hbe y2;simp [Oper.wp,execOp,Oper.upon,go_sem,Act.eval,e11,f0];exact hK w' (Below.refl _ _)
      ·intro act w' hbe hd ho K hK
       have e10:act.tmps.getD 57 undef=.int .u64 y:=hd 10 (by rfl);have e12:act.tmps.getD 59 undef=.int .u64 xw:=hd 12 (by rfl);simp [Oper.wp,execOp,Oper.upon,go_sem,Act.eval,e10,e12,hwr];exact hK w' (Below.refl _ _)
      ·intro act w' hbe hd ho K hK
       have e5:act.tmps.getD 52 undef=.int .u64 x:=hd 5 (by rfl);have e13:act.tmps.getD 60 undef=.int .u64 (y+xw):=hd 13 (by rfl);simp [Oper.wp,execOp,Oper.upon,go_sem,Act.eval,e5,e13];exact hK w' (Below.refl _ _)
      ·intro act w' hbe hd ho K hK
       have e0:act.tmps.getD 47 undef=.slice (some ⟨fb,0,none⟩) n n:=hd 0 (by rfl);have e1:act.tmps.getD 48 undef=.int .i64 (v:Int):=hd 1 (by rfl);simp [Oper.wp,execOp,Oper.upon,go_sem,Act.eval,e0,e1,hv];exact hK w' (Below.refl _ _)
     ·intro act w7 hb7 hd _
      have e14:act.tmps.getD 61 undef=.int .u64 (min x (y+xw)):=hd 14 (by omega);have e15:act.tmps.getD 62 undef=.pointer (some ⟨fb,v,none⟩):=hd 15 (by omega);have f0:=Bi6 hb7 cx;have z0:=(hb7.frozen (p:=⟨fb,v,none⟩) (Bj5 _ _ cx)).trans zf;simp [Oper.wp,execOp,Oper.upon,go_sem,Act.eval,e14,e15,f0,z0];have hlW:W0.heap.size<Wc.heap.size:=Bj5 _ _ c8;have hb9:∀k,k≠fb->k<Wc.heap.size->(w7.setCell ⟨fb,v,none⟩ (.int .u64 (min x (y+xw)))).heap[k]? =Wc.heap[k]?:=fun k hk hl=>(Below.heap_setCell _ _ _ _ hk).trans (hb7.block k hl);have hz9:Wc.heap.size<=(w7.setCell ⟨fb,v,none⟩ (.int .u64 (min x (y+xw)))).heap.size:=by simpa [World.setCell] using hb7.size
      refine ⟨⟨hz9,fun k hk=>hb9 k ?_ ?_⟩,(show SwM w _ fb B8 hb n back (Bn v f (pre2++[(xi2,(t:Int),xw)])) by rw [HSN.out];exact (HMC.out.go hb7).set v _),(Bl2 (a:=⟨W0.heap.size,0,none⟩) (hb9 _ (by show W0.heap.size≠fb;omega) hlW)).trans c8,HKC.out.trans ⟨hz9,fun k hk=>hb9 k (HKx k hk).2 (by have:=(HKx k hk).1;omega)⟩,by omega⟩
      ·rcases hk with (h|h)|h
       ·omega
       ·omega
       ·omega
      ·rcases hk with (h|h)|h
       ·have:=HMC.out.bel.size;omega
       ·omega
       ·omega
end
end Go.Proofs.YteaaapdjplbljaaGreat
