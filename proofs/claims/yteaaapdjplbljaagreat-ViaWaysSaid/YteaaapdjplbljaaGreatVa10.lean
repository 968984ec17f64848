/- Parts; no condition. -/
import Derived.OrdersIn
import Derived.Test.YteaaapdjplbljaaGreatVa09
set_option linter.unusedVariables false
set_option linter.unusedSimpArgs false
set_option linter.unnecessarySimpa false
set_option maxRecDepth 100000
set_option maxHeartbeats 8000000
namespace Go.Proofs.YteaaapdjplbljaaGreat
section
open Go Go.Proofs Go.RowKit
theorem Tj {F:Fence} {n:Nat} {P:Program} {ops:Array Oper} {Q:Exit->Act->World->Prop} {i l:Nat} {K:Act->World->Prop} {a:Act} {w:World} (hro:F.round=none) (hd:∀o∈ops.toList,∀c,o.op≠.defer c)
  (h:wpOpIn F n P ops Q i K a w):wpOpIn (F.inRound l) n P ops Q i K a w:=by
 unfold wpOpIn at*
 cases ho:ops[i]? with
 |none=>rw [ho] at h;exact h
 |some o=>
  rw [ho] at h;have hm:o∈ops.toList:=by rw [Array.mem_toList_iff];exact Array.mem_of_getElem? ho
  simp only at h ⊢
  split
  ·rename_i hw
   rw [if_pos hw] at h;unfold Oper.wpIn at*;refine ⟨h.1,?_⟩;have h2:=h.2;rw [Oper.semAt_eq _ _ _ (hd o hm)] at h2 ⊢;generalize (execOp a.eval o).run P w=r at*
   cases r with
   |ok x w'=>cases x<;>exact h2
   |halt x w'=>cases x<;>exact h2
  ·rename_i hw
   rw [if_neg hw] at h;exact h
theorem Jd {F:Fence} {n:Nat} {P:Program} {md:Region.Mode} {ops:Array Oper} {Q:Exit->Act->World->Prop} {l:Nat} (hro:F.round=none) (hd:∀o∈ops.toList,∀c,o.op≠.defer c):
  ∀(fuel:Nat) (listed:Array Bool) (a:Act) (w:World),wpAnyIn F n P md ops Q fuel listed a w->wpAnyIn (F.inRound l) n P md ops Q fuel listed a w
 |0,_,_,_,h=>h
 |fuel+1,listed,a,w,h=>⟨h.1,fun i hi=>wpOpIn_mono (fun a w h=>Jd hro hd fuel _ a w h) (Tj hro hd (h.2 i hi))⟩
def Ic (ops:List Oper):Bool:=ops.all fun o=>match o.op with| .defer _=>false|_=>true
theorem Yl {ops:List Oper} (h:Ic ops=true):∀o∈ops,∀c,o.op≠.defer c:=by
 intro o ho c e;unfold Ic at h;have:=List.all_eq_true.1 h o ho;rw [e] at this
 cases this
theorem Lk {F:Fence} {n:Nat} {P:Program} {ops:Array Oper} {Q:Exit->Act->World->Prop} {id l:Nat} {a:Act} {w:World} (hro:F.round=none) (hd:Ic ops.toList=true) (hm:P.follows .mixedOrders=true)
  (h:wpAnyIn F n P .any ops Q ops.size (Array.replicate ops.size false) a w.drew):(Code.region id ops true).wpIn (F.inRound l) n P Q a w:=
 wpIn_region_any hm (Jd hro (Yl hd) _ _ _ _ h)
theorem Oper.wpIn_of_wp {m:Nat} {P:Program} {o:Oper} {a:Act} {w:World} {K:Act->World->Prop} {Q:Exit->Act->World->Prop} (h:o.wp P a w K Q):o.wpIn Fence.wide m P a w K Q:=by
 refine ⟨fun _ _=>trivial,?_⟩;unfold Oper.wp at h
 show o.uponIn Fence.wide m P a K Q ((execOp a.eval o).run P w)
 generalize (execOp a.eval o).run P w=r at*
 cases r with
 |ok x w'=>
  cases x<;>simp only [Oper.upon] at h<;>simp only [Oper.uponIn]
  all_goals first
   |exact h
   |exact h.elim
   |exact ⟨(fun hh=>by cases hh),callsIn_wide.2 h⟩
   |exact ⟨(fun hh=>by cases hh),fun c cs _=>let ⟨v,w1,r,s⟩:=h c cs;⟨v,w1,r,stepsIn_wide.2 s⟩⟩
 |halt x w'=>cases x<;>exact h
theorem Pi {p q:Nat->Oper->Prop} (h:∀i o,p i o->q i o):∀{l:List Oper} {k:Nat},Bz p k l->Bz q k l
 |[],_,_=>trivial
 |_::_,_,hp=>⟨h _ _ hp.1,Pi h hp.2⟩
section
variable {a:Act} {P:Program} {Q:Exit->Act->World->Prop} {w:World}
theorem Pc {m:Nat} {ops:Array Oper} {md:Region.Mode} (J:Array Bool->Act->World->Prop) (hJ:∀listed a w i,J listed a w->i∈Region.ready md ops listed->wpOpIn Fence.wide m P ops Q i (fun a' w'=>J (listed.setIfInBounds i true) a' w') a w)
  (hend:∀listed a w,J listed a w->Region.ready md ops listed=[]->Q .normal a w):
  ∀(fuel:Nat) (listed:Array Bool) (a:Act) (w:World),Es listed ops.size<=fuel->J listed a w->wpAnyIn Fence.wide m P md ops Q fuel listed a w
 |0,listed,a,w,hf,h=>by
  have hr:Region.ready md ops listed=[]:=by
   rw [List.eq_nil_iff_forall_not_mem];intro i hi;obtain ⟨h1,o,h2,_⟩:=mem_ready.1 hi;have hlt:i<ops.size:=(Bk0.1 h2).1;exact Jf (by omega) hlt h1
  exact ⟨hr,hend _ _ _ h hr⟩
 |fuel+1,listed,a,w,hf,h=>by
  refine ⟨hend _ _ _ h,fun i hi=>?_⟩;obtain ⟨h1,o,h2,_⟩:=mem_ready.1 hi;have hlt:i<ops.size:=(Bk0.1 h2).1;have hc:=Np hlt h1;exact wpOpIn_mono (fun a' w' h'=>Pc J hJ hend fuel _ a' w' (by omega) h') (hJ _ _ _ _ h hi)
theorem Il {id rl m:Nat} {l:List Oper} (hdf:Ic l=true) (hm:P.follows .mixedOrders=true) (J:Array Bool->Act->World->Prop) (h0:J (Array.replicate l.toArray.size false) a w.drew)
  (hJ:∀listed a w i,J listed a w->i∈Region.ready .any l.toArray listed->wpOpIn Fence.wide m P l.toArray Q i (fun a' w'=>J (listed.setIfInBounds i true) a' w') a w)
  (hend:∀listed a w,J listed a w->Region.ready .any l.toArray listed=[]->Q .normal a w):(Code.region id l.toArray true).wpIn (Fence.wide.inRound rl) m P Q a w:=
 Lk rfl (by simpa using hdf) hm (Pc J hJ hend _ _ _ _ (Nq _ _) h0)
theorem Nm {id rl m:Nat} {l:List Oper} (D:Nat->Nat) (R:Nat->Value->List Nat->(Nat->Value)->World->Prop) (hdf:Ic l=true) (hm:P.follows .mixedOrders=true)
  (hD:∀i,i<l.length->D i<a.tmps.size) (hdst:∀i o,l[i]? =some o->o.dst=some (D i)/\o.guard=none) (hinj:∀i j,i<l.length->j<l.length->D i=D j->i=j)
  (hord:∀i o,l[i]? =some o->∀e∈o.after,Region.binds .any e=true->e.on<i) (hmono:∀i v g vs w w',Below w.heap.size w w'->R i v g vs w->R i v g vs w')
  (hloc:∀i o,l[i]? =some o->∀v g vs vs' w,(∀e∈o.after,Region.binds .any e=true->vs' e.on=vs e.on)->R i v g vs w->R i v g vs' w)
  (hop:∀i o,l[i]? =some o->∀(vs:Nat->Value) w',Below w.heap.size w w'->(∀e∈o.after,Region.binds .any e=true->∃g,R e.on (vs e.on) g vs w')->
   ∀K:Act->World->Prop,(∀v g w'',Below w'.heap.size w' w''->R i v g vs w''->(∀k∈g,w'.heap.size<=k/\k<w''.heap.size)->K ((Al a D vs l.length).put (some (D i)) v) w'')->o.wp P (Al a D vs l.length) w' K Q)
  (hend:∀(vs:Nat->Value) (gs:Nat->List Nat) w',Below w.heap.size w w'->(∀i,i<l.length->R i (vs i) (gs i) vs w')->(∀i k,i<l.length->k∈gs i->w.heap.size<=k/\k<w'.heap.size)->(∀i j k,i<l.length->j<l.length->i≠j->k∈gs i->k∉gs j)->Q .normal (Al a D vs l.length) w'):(Code.region id l.toArray true).wpIn (Fence.wide.inRound rl) m P Q a w:=by
 have ha:=Ia (a:=a) (a':=a) hinj rfl rfl hD (fun _ _=>rfl);refine Il hdf hm (fun listed a' w'=>listed.size=l.length/\(∀i o,l[i]? =some o->listed.getD i false=true->∀e∈o.after,Region.binds .any e=true->listed.getD e.on false=true)/\
  ∃(vs:Nat->Value) (gs:Nat->List Nat),a'=Al a D vs l.length/\Below w.heap.size w w'/\(∀i,i<l.length->listed.getD i false=true->R i (vs i) (gs i) vs w')/\(∀i,i<l.length->listed.getD i false=true->∀k∈gs i,w.heap.size<=k/\k<w'.heap.size)/\
   ∀i j k,i<l.length->j<l.length->listed.getD i false=true->listed.getD j false=true->i≠j->k∈gs i->k∉gs j) ?_ ?_ ?_
 ·have hz:∀i,¬(Array.replicate l.toArray.size false).getD i false=true:=fun i h=>by
   rw [getD_replicate_false] at h
   cases h
  exact ⟨by simp,fun i o _ h=>absurd h (hz i),_,fun _=>[],ha,(Below.refl _ w).drew,fun i _ h=>absurd h (hz i),fun i _ h=>absurd h (hz i),fun i j k _ _ h=>absurd h (hz i)⟩
 ·rintro listed a' w' i ⟨hsz,hcl,vs,gs,rfl,hb,hR,hF,hN⟩ hi
  obtain ⟨h1,o,h2,h3⟩:=mem_ready.1 hi;have h2':l[i]? =some o:=by simpa using h2
  have hlt:i<l.length:=(Bk6.1 h2').1;have hun:∀j,listed.getD j false=true->j≠i:=by
   rintro j hj rfl;have:=getD_both h1;rw [this] at hj
   cases hj
  obtain ⟨hd,hg⟩:=hdst i o h2';unfold wpOpIn;simp only [h2];rw [if_pos (by simp [Region.wanted,hg])];refine Oper.wpIn_of_wp (hop i o h2' vs w' hb (fun e he hb'=>?_) _ (fun v g w'' hb2 hr hf=>?_))
  ·have h4:=h3 e he hb'
   have h5:e.on<l.length:=by have:=hord i o h2' e he hb';omega
   exact ⟨_,hR _ h5 h4⟩
  ·have hset:∀j,(listed.setIfInBounds i true).getD j false=true->j=i\/(j≠i/\listed.getD j false=true):=fun j hl=>by
    by_cases e:j=i
    ·exact .inl e
    ·rw [getD_set_ne false (fun h=>e h.symm)] at hl
     exact .inr ⟨e,hl⟩
   have hkeep:∀j,listed.getD j false=true->(listed.setIfInBounds i true).getD j false=true:=fun j hl=>by
    rw [getD_set_ne false (fun h=>hun j hl h.symm)];exact hl
   obtain ⟨gs2,hgs⟩:∃gs2:Nat->List Nat,gs2=fun j=>if j=i then g else gs j:=⟨_,rfl⟩
   have hgi:gs2 i=g:=by rw [hgs];exact if_pos rfl
   have hgn:∀j,j≠i->gs2 j=gs j:=fun j hj=>by rw [hgs];exact if_neg hj
   have hvi:Hw vs i v i=v:=if_pos rfl;have hvn:∀j,j≠i->Hw vs i v j=vs j:=fun j hj=>if_neg hj;have hsz2:=hb2.size;refine ⟨by simp [hsz],?_,Hw vs i v,gs2,He hinj hD hlt,hb.st hb2,?_,?_,?_⟩
   ·intro j oj hj hl e he hb'
    rcases hset j hl with rfl|⟨hji,hl'⟩
    ·rw [h2'] at hj
     cases hj
     exact hkeep _ (h3 e he hb')
    ·exact hkeep _ (hcl j oj hj hl' e he hb')
   ·intro j hj hl
    rcases hset j hl with rfl|⟨hji,hl'⟩
    ·rw [hvi,hgi]
     exact hloc j o h2' _ _ _ _ _ (fun e he hb'=>hvn _ (by have:=hord j o h2' e he hb';omega)) hr
    ·rw [hvn j hji,hgn j hji]
     exact hloc j l[j] (Bj8 hj) _ _ _ _ _ (fun e he hb'=>hvn _ (hun _ (hcl j l[j] (Bj8 hj) hl' e he hb'))) (hmono _ _ _ _ _ _ hb2 (hR j hj hl'))
   ·intro j hj hl k hk
    rcases hset j hl with rfl|⟨hji,hl'⟩
    ·rw [hgi] at hk
     have:=hf k hk;have:=hb.size;exact ⟨by omega,by omega⟩
    ·rw [hgn j hji] at hk
     have:=hF j hj hl' k hk;exact ⟨this.1,by omega⟩
   ·intro j1 j2 k hj1 hj2 hl1 hl2 hne hk1 hk2
    rcases hset j1 hl1 with rfl|⟨hji1,hl1'⟩<;>rcases hset j2 hl2 with e2|⟨hji2,hl2'⟩
    ·exact absurd e2.symm hne
    ·rw [hgi] at hk1
     rw [hgn j2 hji2] at hk2;have:=hf k hk1;have:=hF j2 hj2 hl2' k hk2;omega
    ·subst e2
     rw [hgi] at hk2;rw [hgn j1 hji1] at hk1;have:=hf k hk2;have:=hF j1 hj1 hl1' k hk1;omega
    ·rw [hgn j1 hji1] at hk1
     rw [hgn j2 hji2] at hk2;exact hN j1 j2 k hj1 hj2 hl1' hl2' hne hk1 hk2
 ·rintro listed a' w' ⟨hsz,hcl,vs,gs,rfl,hb,hR,hF,hN⟩ hr
  have hall:∀d i,i=d->i<l.length->listed.getD i false=true:=by
   intro d
   induction d using Nat.strongRecOn with
   |_ d ih=>
    rintro i rfl hi
    cases hl:listed.getD i false with
    |true=>rfl
    |false=>
     have hin:i∈Region.ready .any l.toArray listed:=by
      refine mem_ready.2 ⟨Go.getD_in (by omega) hl,l[i],by simp [hi],fun e he hb'=>?_⟩;have h6:=hord i l[i] (Bj8 hi) e he hb';exact ih e.on h6 e.on rfl (by omega)
     rw [hr] at hin
     cases hin
  exact hend vs gs w' hb (fun i hi=>hR i hi (hall i i rfl hi)) (fun i k hi hk=>hF i hi (hall i i rfl hi) k hk) (fun i j k hi hj=>hN i j k hi hj (hall i i rfl hi) (hall j j rfl hj))
theorem Me {id rl m:Nat} {l:List Oper} (R:Nat->Value->List Nat->(Nat->Value)->World->Prop) (hdf:Ic l=true) (hm:P.follows .mixedOrders=true) (hB:Pk l a.tmps.size=true)
  (hmono:∀i v g vs w w',Below w.heap.size w w'->R i v g vs w->R i v g vs w')
  (hloc:∀i v g vs vs' w,(∀j,Ce l i j=true->vs' j=vs j)->R i v g vs w->R i v g vs' w)
  (hop:Bz (fun i o=>∀(vs:Nat->Value) w',Below w.heap.size w w'->(∀j,Ce l i j=true->∃g,R j (vs j) g vs w')->
   ∀K:Act->World->Prop,(∀v g w'',Below w'.heap.size w' w''->R i v g vs w''->(∀k∈g,w'.heap.size<=k/\k<w''.heap.size)->K ((Al a (Ae l) vs l.length).put o.dst v) w'')->o.wp P (Al a (Ae l) vs l.length) w' K Q) 0 l)
  (hend:∀(vs:Nat->Value) (gs:Nat->List Nat) w',Below w.heap.size w w'->(∀i,i<l.length->R i (vs i) (gs i) vs w')->(∀i k,i<l.length->k∈gs i->w.heap.size<=k/\k<w'.heap.size)->(∀i j k,i<l.length->j<l.length->i≠j->k∈gs i->k∉gs j)->Q .normal (Al a (Ae l) vs l.length) w'):(Code.region id l.toArray true).wpIn (Fence.wide.inRound rl) m P Q a w:=by
 have hg:=fun i (hi:i<l.length)=>Bg hB (Bj8 hi);have hds:∀i o,l[i]? =some o->o.dst=some (Ae l i):=fun i o hi=>by
  have h:=(Bg hB hi).1;obtain ⟨d,hd⟩:=Option.isSome_iff_exists.1 h;unfold Ae;rw [hi];simp [hd]
 have hdep:∀i o,l[i]? =some o->∀j,Ce l i j=true->∃e∈o.after,Region.binds .any e=true/\e.on=j:=fun i o hi j h=>by
  unfold Ce at h;simp only [hi] at h;obtain ⟨e,he,h2⟩:=List.any_eq_true.1 h;simp only [Bool.and_eq_true,beq_iff_eq] at h2;exact ⟨e,Array.mem_toList_iff.1 he,h2⟩
 refine Nm (Ae l) R hdf hm (fun i hi=>(hg i hi).2.2.1) (fun i o hi=>⟨hds i o hi,by have:=(Bg hB hi).2.1;simpa using this⟩) ?_ (fun i o hi=>(Bg hB hi).2.2.2.1) hmono ?_ ?_ hend
 ·intro i j hi hj e
  rcases Nat.lt_trichotomy i j with h|h|h
  ·exact absurd e ((hg j hj).2.2.2.2 i h)
  ·exact h
  ·exact absurd e.symm ((hg i hi).2.2.2.2 j h)
 ·intro i o hi v g vs vs' w1 h hr
  refine hloc i v g vs vs' w1 (fun j hj=>?_) hr;obtain ⟨e,he,hb,rfl⟩:=hdep i o hi j hj;exact h e he hb
 ·intro i o hi vs w' hb hR K hK
  have h:=Et l 0 hop i o hi;rw [Nat.zero_add] at h;refine h vs w' hb (fun j hj=>?_) K (fun v g w'' h1 h2 h3=>?_)
  ·obtain ⟨e,he,hb,rfl⟩:=hdep i o hi j hj
   exact hR e he hb
  ·rw [hds i o hi]
   exact hK v g w'' h1 h2 h3
theorem Nl {id rl m:Nat} {l:List Oper} (vals:List Value) (hdf:Ic l=true) (hm:P.follows .mixedOrders=true) (hB:Pk l a.tmps.size=true)
  (hop:Bz (fun i o=>∀(vs:Nat->Value) w',Below w.heap.size w w'->(∀j,Ce l i j=true->vs j=vals.getD j undef)->
   ∀K:Act->World->Prop,(∀w'',Below w'.heap.size w' w''->K ((Al a (Ae l) vs l.length).put o.dst (vals.getD i undef)) w'')->o.wp P (Al a (Ae l) vs l.length) w' K Q) 0 l)
  (hend:∀w',Below w.heap.size w w'->Q .normal (Al a (Ae l) (fun i=>vals.getD i undef) l.length) w'):(Code.region id l.toArray true).wpIn (Fence.wide.inRound rl) m P Q a w:=by
 refine Me (fun i v _ _ _=>v=vals.getD i undef) hdf hm hB (fun _ _ _ _ _ _ _ h=>h) (fun _ _ _ _ _ _ _ h=>h) ?_ ?_
 ·refine Pi (fun i o h vs w' hb hd K hK=>?_) hop
  exact h vs w' hb (fun j hj=>(hd j hj).choose_spec) K (fun w'' hb2=>hK _ [] w'' hb2 rfl (fun k hk=>nomatch hk))
 ·intro vs gs w' hb hR _ _
  have:∀n,n<=l.length->Al a (Ae l) vs n=Al a (Ae l) (fun i=>vals.getD i undef) n:=by
   intro n
   induction n with
   |zero=>intro _;rfl
   |succ n ih=>
    intro hn
    show Act.put _ _ _=Act.put _ _ _
    rw [ih (by omega),hR n (by omega)]
  rw [this _ (Bj5 _)];exact hend w' hb
end
end
section
open Go Go.Proofs Go.RowKit
def Mq (l:List Oper) (n:Nat) (st:Oper):Bool:=
 st.guard.isNone&&(st.after.all fun e=>!Region.binds .any e||decide (e.on<n))&&((List.range n).all fun i=>(List.range (n+1)).any fun j=>decide (i<j)&&Region.waitsFor .any l.toArray j i)
section
variable {a:Act} {P:Program} {Q:Exit->Act->World->Prop} {w:World}
theorem Kz {id rl m:Nat} {l:List Oper} (n:Nat) (st:Oper) (vals:List Value) (hst:l=l.take n++[st]) (hln:(l.take n).length=n) (hdf:Ic l=true) (hm:P.follows .mixedOrders=true) (hB:Pk (l.take n) a.tmps.size=true) (hS:Mq l n st=true)
  (hop:Bz (fun i o=>∀(vs:Nat->Value) w',Below w.heap.size w w'->(∀j,Ce l i j=true->vs j=vals.getD j undef)->
   ∀K:Act->World->Prop,(∀w'',Below w'.heap.size w' w''->K ((Al a (Ae l) vs n).put o.dst (vals.getD i undef)) w'')->o.wp P (Al a (Ae l) vs n) w' K Q) 0 (l.take n))
  (hend:∀w',Below w.heap.size w w'->st.wp P (Al a (Ae l) (fun i=>vals.getD i undef) n) w' (fun a' w'=>Q .normal a' w') Q):(Code.region id l.toArray true).wpIn (Fence.wide.inRound rl) m P Q a w:=by
 obtain ⟨h,hh⟩:∃h,h=l.take n:=⟨_,rfl⟩;rw [<-hh] at hst hln hB hop;have hlen:l.length=n+1:=by rw [hst,Bm3,hln];rfl
 have hat:∀i,i<n->l[i]? =h[i]?:=fun i hi=>by rw [hst,Bn2 (by omega)]
 have hda:∀i,i<n->Ae l i=Ae h i:=fun i hi=>by unfold Ae;rw [hat i hi]
 have hput:∀vs m,m<=n->Al a (Ae l) vs m=Al a (Ae h) vs m:=by
  intro vs m
  induction m with
  |zero=>intro _;rfl
  |succ m ih=>
   intro hm
   show Act.put _ _ _=Act.put _ _ _
   rw [ih (by omega),hda m (by omega)]
 have hdb:∀i,i<n->∀j,Ce l i j=Ce h i j:=fun i hi j=>by unfold Ce;rw [hat i hi]
 have hatn:l[n]? =some st:=by rw [hst,Bn1 (by omega),hln,Nat.sub_self];rfl
 have hg:=fun i (hi:i<n)=>Bg hB (Bj8 (show i<h.length by omega));have hds:∀i o,h[i]? =some o->o.dst=some (Ae h i):=fun i o hi=>by
  have k:=(Bg hB hi).1;obtain ⟨d,hd⟩:=Option.isSome_iff_exists.1 k;unfold Ae;rw [hi];simp [hd]
 have hdep:∀i o,h[i]? =some o->∀j,Ce h i j=true->∃e∈o.after,Region.binds .any e=true/\e.on=j:=fun i o hi j k=>by
  unfold Ce at k;simp only [hi] at k;obtain ⟨e,he,h2⟩:=List.any_eq_true.1 k;simp only [Bool.and_eq_true,beq_iff_eq] at h2;exact ⟨e,Array.mem_toList_iff.1 he,h2⟩
 have hD:∀i,i<n->Ae h i<a.tmps.size:=fun i hi=>(hg i hi).2.2.1;have hinj:∀i j,i<n->j<n->Ae h i=Ae h j->i=j:=fun i j hi hj e=>by
  rcases Nat.lt_trichotomy i j with k|k|k
  ·exact absurd e ((hg j hj).2.2.2.2 i k)
  ·exact k
  ·exact absurd e.symm ((hg i hi).2.2.2.2 j k)
 unfold Mq at hS;simp only [Bool.and_eq_true] at hS;obtain ⟨⟨s1,s2⟩,s3⟩:=hS;have hsd:∀e∈st.after,Region.binds .any e=true->e.on<n:=fun e he hb=>by
  rw [Array.all_eq_true_iff_forall_mem] at s2;have:=s2 e he;rw [hb] at this
  simpa using this
 have hwait:∀i,i<n->∃j,i<j/\j<=n/\∃o,l[j]? =some o/\∃e∈o.after,Region.binds .any e=true/\e.on=i:=fun i hi=>by
  have k1:=List.all_eq_true.1 s3 i (Bm7.2 hi);obtain ⟨j,hj,k2⟩:=List.any_eq_true.1 k1;simp only [Bool.and_eq_true,decide_eq_true_eq] at k2;obtain ⟨o,ho,k3⟩:=Region.waitsFor_spec k2.2;exact ⟨j,k2.1,by have:=Bm7.1 hj;omega,o,by simpa using ho,k3⟩
 have ha:=Ia (a:=a) (a':=a) hinj rfl rfl hD (fun _ _=>rfl);refine Il hdf hm (fun listed a' w'=>listed.size=n+1/\((listed.getD n false=false/\(∀i o,i<n->l[i]? =some o->listed.getD i false=true->∀e∈o.after,Region.binds .any e=true->listed.getD e.on false=true)/\
  ∃(vs:Nat->Value),a'=Al a (Ae h) vs n/\Below w.heap.size w w'/\(∀i,i<n->listed.getD i false=true->vs i=vals.getD i undef))\/((∀i,i<n+1->listed.getD i false=true)/\Q .normal a' w'))) ?_ ?_ ?_
 ·have hz:∀i,¬(Array.replicate l.toArray.size false).getD i false=true:=fun i k=>by
   rw [getD_replicate_false] at k
   cases k
  refine ⟨by simp [hlen],.inl ⟨?_,fun i o _ _ k=>absurd k (hz i),_,ha,(Below.refl _ w).drew,fun i _ k=>absurd k (hz i)⟩⟩
  cases k:(Array.replicate l.toArray.size false).getD n false with
  |false=>rfl
  |true=>exact absurd k (hz n)
 ·rintro listed a' w' i ⟨hsz,h1|⟨hall,-⟩⟩ hi
  ·obtain ⟨hn0,hcl,vs,rfl,hb,hR⟩:=h1
   obtain ⟨h1,o,h2,h3⟩:=mem_ready.1 hi;have h2':l[i]? =some o:=by simpa using h2
   have hlt:i<n+1:=by have:=(Bk6.1 h2').1;omega
   have hun:∀j,listed.getD j false=true->j≠i:=by
    rintro j hj rfl;have:=getD_both h1;rw [this] at hj
    cases hj
   by_cases hin:i<n
   ·have h2h:h[i]? =some o:=(hat i hin).symm.trans h2'
    have hdo:=hds i o h2h;have hgo:=(Bg hB h2h).2.1;unfold wpOpIn;simp only [h2];rw [if_pos (by simp [Region.wanted,Option.isNone_iff_eq_none.1 hgo])];have hopi:=Et h 0 hop i o h2h;rw [Nat.zero_add] at hopi;simp only [hput _ n (Bj5 _)] at hopi;refine Oper.wpIn_of_wp (hopi vs w' hb (fun j hj=>?_) _ (fun w'' hb2=>?_))
    ·rw [hdb i hin] at hj
     obtain ⟨e,he,hb',rfl⟩:=hdep i o h2h j hj;have h4:=h3 e he hb';have h5:=(Bg hB h2h).2.2.2.1 e he hb';exact hR _ (by omega) h4
    ·have hset:∀j,(listed.setIfInBounds i true).getD j false=true->j=i\/(j≠i/\listed.getD j false=true):=fun j hl=>by
      by_cases e:j=i
      ·exact .inl e
      ·rw [getD_set_ne false (fun k=>e k.symm)] at hl
       exact .inr ⟨e,hl⟩
     have hkeep:∀j,listed.getD j false=true->(listed.setIfInBounds i true).getD j false=true:=fun j hl=>by
      rw [getD_set_ne false (fun k=>hun j hl k.symm)];exact hl
     refine ⟨by simp [hsz],.inl ⟨by rw [getD_set_ne false (by omega)];exact hn0,?_,Hw vs i (vals.getD i undef),?_,hb.st hb2,?_⟩⟩
     ·intro j oj hjn hj hl e he hb'
      rcases hset j hl with rfl|⟨hji,hl'⟩
      ·rw [h2'] at hj
       cases hj
       exact hkeep _ (h3 e he hb')
      ·exact hkeep _ (hcl j oj hjn hj hl' e he hb')
     ·rw [hdo]
      exact He hinj hD hin
     ·intro j hj hl
      rcases hset j hl with rfl|⟨hji,hl'⟩
      ·exact if_pos rfl
      ·rw [show Hw vs i (vals.getD i undef) j=vs j from if_neg hji]
       exact hR j hj hl'
   ·obtain rfl:i=n:=by omega
    have ho:o=st:=Bm2 (h2'.symm.trans hatn);subst ho;have hall:∀d j,i-j=d->j<i->listed.getD j false=true:=by
     intro d
     induction d using Nat.strongRecOn with
     |_ d ih=>
      intro j hd hj;obtain ⟨k,k1,k2,ok,k3,e,he,hb',rfl⟩:=hwait j hj
      by_cases hk:k=i
      ·subst hk
       rw [h2'] at k3
       cases k3
       exact h3 e he hb'
      ·exact hcl k ok (by omega) k3 (ih (i-k) (by omega) k rfl (by omega)) e he hb'
    have hvs:∀k,k<=i->Al a (Ae h) vs k=Al a (Ae h) (fun i=>vals.getD i undef) k:=by
     intro k
     induction k with
     |zero=>intro _;rfl
     |succ k ih=>
      intro hk
      show Act.put _ _ _=Act.put _ _ _
      rw [ih (by omega),hR k (by omega) (hall _ k rfl (by omega))]
    unfold wpOpIn;simp only [h2];rw [if_pos (by simp [Region.wanted,Option.isNone_iff_eq_none.1 s1])];rw [hvs i (Bj5 _),<-hput _ i (Bj5 _)];refine Oper.wpIn_of_wp (Oper.wp_mono (fun a1 w1 hq=>?_) (hend w' hb));refine ⟨by simp [hsz],.inr ⟨fun j hj=>?_,hq⟩⟩
    by_cases e:j=i
    ·subst e
     rw [Bm8,Array.getElem?_setIfInBounds_self_of_lt (by omega)];rfl
    ·rw [getD_set_ne false (fun k=>e k.symm)]
     exact hall _ j rfl (by omega)
  ·obtain ⟨h1,o,h2,h3⟩:=mem_ready.1 hi
   have h2':l[i]? =some o:=by simpa using h2
   have hlt:i<n+1:=by have:=(Bk6.1 h2').1;omega
   have:=hall i hlt;rw [getD_both h1] at this
   cases this
 ·rintro listed a' w' ⟨hsz,h1|⟨-,hq⟩⟩ hr
  ·obtain ⟨hn0,hcl,vs,rfl,hb,hR⟩:=h1
   exfalso
   have hall:∀d i,i=d->i<n+1->listed.getD i false=true:=by
    intro d
    induction d using Nat.strongRecOn with
    |_ d ih=>
     rintro i rfl hi
     cases hl:listed.getD i false with
     |true=>rfl
     |false=>
      have hin:i∈Region.ready .any l.toArray listed:=by
       refine mem_ready.2 ⟨Go.getD_in (by omega) hl,l[i]'(by omega),by simp [hlen,hi],fun e he hb'=>?_⟩;have h6:e.on<i:=by
        by_cases k:i<n
        ·have h7:h[i]? =some (l[i]'(by omega)):=by rw [<-hat i k,Bj8 (by omega)]
         exact (Bg hB h7).2.2.2.1 e he hb'
        ·obtain rfl:i=n:=by omega
         have h8:l[i]'(by omega)=st:=Bm2 ((Bj8 (by omega)).symm.trans hatn);rw [h8] at he;exact hsd e he hb'
       exact ih e.on h6 e.on rfl (by omega)
      rw [hr] at hin
      cases hin
   have:=hall n n rfl (by omega);rw [hn0] at this
   cases this
  ·exact hq
def Iy (l:List Oper) (n t:Nat):Bool:=(List.range n).all fun i=>Ae l i != t
theorem Gc {id rl m:Nat} {l:List Oper} (n:Nat) (st:Oper) (vals:List Value) (hst:l=l.take n++[st]) (hln:(l.take n).length=n) (hdf:Ic l=true) (hm:P.follows .mixedOrders=true) (hB:Pk (l.take n) a.tmps.size=true) (hS:Mq l n st=true)
  (hop:Bz (fun i o=>∀(act:Act) w',Below w.heap.size w w'->(∀j,Ce l i j=true->act.tmps.getD (Ae l j) undef=vals.getD j undef)->(∀t,Iy l n t=true->act.tmps.getD t undef=a.tmps.getD t undef)->
   ∀K:Act->World->Prop,(∀w'',Below w'.heap.size w' w''->K (act.put o.dst (vals.getD i undef)) w'')->o.wp P act w' K Q) 0 (l.take n))
  (hend:∀act w',Below w.heap.size w w'->(∀j,j<n->act.tmps.getD (Ae l j) undef=vals.getD j undef)->act=Al a (Ae l) (fun i=>vals.getD i undef) n->st.wp P act w' (fun a' w'=>Q .normal a' w') Q):(Code.region id l.toArray true).wpIn (Fence.wide.inRound rl) m P Q a w:=by
 have hat:∀i,i<n->l[i]? =(l.take n)[i]?:=fun i hi=>by rw [Bo4 hi]
 have hda:∀i,i<n->Ae l i=Ae (l.take n) i:=fun i hi=>by unfold Ae;rw [hat i hi]
 have hg:=fun i (hi:i<n)=>Bg hB (Bj8 (show i<(l.take n).length by omega));have hD:∀i,i<n->Ae l i<a.tmps.size:=fun i hi=>by rw [hda i hi];exact (hg i hi).2.2.1
 have hinj:∀i j,i<n->j<n->Ae l i=Ae l j->i=j:=fun i j hi hj e=>by
  rw [hda i hi,hda j hj] at e
  rcases Nat.lt_trichotomy i j with k|k|k
  ·exact absurd e ((hg j hj).2.2.2.2 i k)
  ·exact k
  ·exact absurd e.symm ((hg i hi).2.2.2.2 j k)
 have hon:∀vs j,j<n->(Al a (Ae l) vs n).tmps.getD (Ae l j) undef=vs j:=fun vs j hj=>by
  rw [Bm8,Gn hinj hj (hD j hj)];rfl
 have hoff:∀vs t,Iy l n t=true->(Al a (Ae l) vs n).tmps.getD t undef=a.tmps.getD t undef:=fun vs t ht=>by
  rw [Bm8,Bm8,Fc (fun i hi e=>by
   have:=List.all_eq_true.1 ht i (Bm7.2 hi);simp [e] at this)]
 refine Kz n st vals hst hln hdf hm hB hS ?_ (fun w' hb=>hend _ w' hb (fun j hj=>hon _ j hj) rfl);have key:∀(k:Nat) (ll:List Oper),(∀i o,ll[i]? =some o->l[k+i]? =some o/\k+i<n)->Bz (fun i o=>∀(act:Act) w',Below w.heap.size w w'->(∀j,Ce l i j=true->act.tmps.getD (Ae l j) undef=vals.getD j undef)->(∀t,Iy l n t=true->act.tmps.getD t undef=a.tmps.getD t undef)->
   ∀K:Act->World->Prop,(∀w'',Below w'.heap.size w' w''->K (act.put o.dst (vals.getD i undef)) w'')->o.wp P act w' K Q) k ll->Bz (fun i o=>∀(vs:Nat->Value) w',Below w.heap.size w w'->(∀j,Ce l i j=true->vs j=vals.getD j undef)->
   ∀K:Act->World->Prop,(∀w'',Below w'.heap.size w' w''->K ((Al a (Ae l) vs n).put o.dst (vals.getD i undef)) w'')->o.wp P (Al a (Ae l) vs n) w' K Q) k ll:=by
  intro k ll
  induction ll generalizing k with
  |nil=>intro _ _;trivial
  |cons o ll ih=>
   intro hll h;refine ⟨fun vs w' hb hd K hK=>?_,ih (k+1) (fun i o' hi=>by
    have:=hll (i+1) o' (by simpa using hi);rw [show k+1+i=k+(i+1) by omega];exact this) h.2⟩
   obtain ⟨h0,h1⟩:=hll 0 o rfl;rw [Nat.add_zero] at h0 h1;refine h.1 _ w' hb (fun j hj=>?_) (fun t ht=>hoff vs t ht) K hK;have hj2:j<n:=by
    have h2:=hat k h1;rw [h0] at h2;have h3:=(Bg hB h2.symm).2.2.2.1;unfold Ce at hj;simp only [h0] at hj;obtain ⟨e,he,k2⟩:=List.any_eq_true.1 hj;simp only [Bool.and_eq_true,beq_iff_eq] at k2;have:=h3 e (Array.mem_toList_iff.1 he) k2.1;omega
   rw [hon vs j hj2];exact hd j hj
 exact key 0 (l.take n) (fun i o hi=>by
  have hl:=(Bk6.1 hi).1;rw [Nat.zero_add];exact ⟨(hat i (by omega)).trans hi,by omega⟩) hop
end
end
section
open Go Go.Proofs Go.RowKit
section
variable {a:Act} {P:Program} {Q:Exit->Act->World->Prop} {w:World}
theorem Ky {id:Nat} {l:List Oper} (n:Nat) (hln:l.length=n) (R:Nat->Value->World->Prop) (hm:P.follows .mixedOrders=true) (hB:Pk l a.tmps.size=true)
  (hmono:∀i v w w',Below w.heap.size w w'->R i v w->R i v w')
  (hop:Bz (fun i o=>∀(act:Act) w',Below w.heap.size w w'->(∀j,Ce l i j=true->R j (act.tmps.getD (Ae l j) undef) w')->(∀t,Iy l n t=true->act.tmps.getD t undef=a.tmps.getD t undef)->
   ∀K:Act->World->Prop,(∀v w'',Below w'.heap.size w' w''->R i v w''->K (act.put o.dst v) w'')->o.wp P act w' K Q) 0 l)
  (hend:∀(vs:Nat->Value) w',Below w.heap.size w w'->(∀i,i<n->R i (vs i) w')->Q .normal (Al a (Ae l) vs n) w'):(Code.region id l.toArray true).wp P Q a w:=by
 subst hln;have hg:=fun i (hi:i<l.length)=>Bg hB (Bj8 hi);have hD:∀i,i<l.length->Ae l i<a.tmps.size:=fun i hi=>(hg i hi).2.2.1;have hinj:∀i j,i<l.length->j<l.length->Ae l i=Ae l j->i=j:=fun i j hi hj e=>by
  rcases Nat.lt_trichotomy i j with k|k|k
  ·exact absurd e ((hg j hj).2.2.2.2 i k)
  ·exact k
  ·exact absurd e.symm ((hg i hi).2.2.2.2 j k)
 have hon:∀vs j,j<l.length->(Al a (Ae l) vs l.length).tmps.getD (Ae l j) undef=vs j:=fun vs j hj=>by
  rw [Bm8,Gn hinj hj (hD j hj)];rfl
 have hoff:∀vs t,Iy l l.length t=true->(Al a (Ae l) vs l.length).tmps.getD t undef=a.tmps.getD t undef:=fun vs t ht=>by
  rw [Bm8,Bm8,Fc (fun i hi e=>by
   have:=List.all_eq_true.1 ht i (Bm7.2 hi);simp [e] at this)]
 refine Fg (fun i v g _ w=>g=[]/\R i v w) hm hB (fun i v g vs w w' hb h=>⟨h.1,hmono i v w w' hb h.2⟩) (fun i v g vs vs' w _ h=>h) ?_ (fun vs gs w' hb hR _ _=>hend vs w' hb (fun i hi=>(hR i hi).2));have key:∀(k:Nat) (ll:List Oper),(∀i o,ll[i]? =some o->l[k+i]? =some o/\k+i<l.length)->Bz (fun i o=>∀(act:Act) w',Below w.heap.size w w'->(∀j,Ce l i j=true->R j (act.tmps.getD (Ae l j) undef) w')->(∀t,Iy l l.length t=true->act.tmps.getD t undef=a.tmps.getD t undef)->
   ∀K:Act->World->Prop,(∀v w'',Below w'.heap.size w' w''->R i v w''->K (act.put o.dst v) w'')->o.wp P act w' K Q) k ll->Bz (fun i o=>∀(vs:Nat->Value) w',Below w.heap.size w w'->(∀j,Ce l i j=true->∃g:List Nat,g=[]/\R j (vs j) w')->
   ∀K:Act->World->Prop,(∀v g w'',Below w'.heap.size w' w''->(g=[]/\R i v w'')->(∀k∈g,w'.heap.size<=k/\k<w''.heap.size)->K ((Al a (Ae l) vs l.length).put o.dst v) w'')->o.wp P (Al a (Ae l) vs l.length) w' K Q) k ll:=by
  intro k ll
  induction ll generalizing k with
  |nil=>intro _ _;trivial
  |cons o ll ih=>
   intro hll h;refine ⟨fun vs w' hb hd K hK=>?_,ih (k+1) (fun i o' hi=>by
    have:=hll (i+1) o' (by simpa using hi);rw [show k+1+i=k+(i+1) by omega];exact this) h.2⟩
   obtain ⟨h0,h1⟩:=hll 0 o rfl;rw [Nat.add_zero] at h0 h1;refine h.1 _ w' hb (fun j hj=>?_) (fun t ht=>hoff vs t ht) K (fun v w'' hb2 hr=>hK v [] w'' hb2 ⟨rfl,hr⟩ (fun _ h=>nomatch h));have hj2:j<l.length:=by
    have h3:=(Bg hB h0).2.2.2.1;unfold Ce at hj;simp only [h0] at hj;obtain ⟨e,he,k2⟩:=List.any_eq_true.1 hj;simp only [Bool.and_eq_true,beq_iff_eq] at k2;have:=h3 e (Array.mem_toList_iff.1 he) k2.1;omega
   rw [hon vs j hj2];exact (hd j hj).choose_spec.2
 exact key 0 l (fun i o hi=>by
  have hl:=(Bk6.1 hi).1;rw [Nat.zero_add];exact ⟨hi,hl⟩) hop
end
end
section
open Go Go.Proofs Go.RowKit
section
variable {a:Act} {P:Program} {Q:Exit->Act->World->Prop} {w:World}
def Sb (l:List Oper) (sz:Nat):Bool:=(List.range l.length).all fun i=>match l[i]? with
 |none=>false
 |some o=>o.dst.isSome&&decide (Ae l i<sz)&&(o.after.all fun e=>!Region.binds .any e||decide (e.on<i))&&(List.range i).all fun j=>decide (Ae l j≠Ae l i)
theorem Ef {l:List Oper} {sz:Nat} (h:Sb l sz=true) {i:Nat} {o:Oper} (hi:l[i]? =some o):
  o.dst=some (Ae l i)/\Ae l i<sz/\(∀e∈o.after,Region.binds .any e=true->e.on<i)/\∀j,j<i->Ae l j≠Ae l i:=by
 have hlt:i<l.length:=(Bk6.1 hi).1;unfold Sb at h;have h1:=List.all_eq_true.1 h i (Bm7.2 hlt);rw [hi] at h1;clear h;simp only [Bool.and_eq_true] at h1;obtain ⟨⟨⟨h2,h4⟩,h5⟩,h6⟩:=h1;refine ⟨?_,of_decide_eq_true h4,fun e he hb=>?_,fun j hj=>?_⟩
 ·obtain ⟨d,hd⟩:=Option.isSome_iff_exists.1 h2
  unfold Ae;rw [hi];simp [hd]
 ·have h7:=Array.all_eq_true_iff_forall_mem.1 h5 e he
  rw [hb] at h7
  simpa using h7
 ·have h7:=List.all_eq_true.1 h6 j (Bm7.2 hj)
  exact of_decide_eq_true h7
abbrev Pw (l:List Oper) (act:Act) (o:Oper) (b:Bool):Prop:=Region.wanted o (yielded l.toArray act.tmps)=b
theorem Aa {l:List Oper} {act:Act} {o:Oper} (h:o.guard=none):Pw l act o true:=by unfold Pw Region.wanted;rw [h]
def Ax0 (l:List Oper) (a:Act) (w:World) (R:Nat->Value->World->Prop) (listed:Array Bool) (a':Act) (w':World):Prop:=
 listed.size=l.length/\(∀i o,l[i]? =some o->listed.getD i false=true->∀e∈o.after,Region.binds .any e=true->listed.getD e.on false=true)/\
  ∃(vs:Nat->Value),a'=Al a (Ae l) vs l.length/\Below w.heap.size w w'/\(∀i,i<l.length->listed.getD i false=true->R i (vs i) w')
theorem Md {id:Nat} {l:List Oper} (n:Nat) (hln:l.length=n) (R:Nat->Value->World->Prop) (hm:P.follows .mixedOrders=true) (hB:Sb l a.tmps.size=true)
  (hmono:∀i v w w',Below w.heap.size w w'->R i v w->R i v w')
  (hop:Bz (fun i o=>∀(act:Act) w',Below w.heap.size w w'->(∀j,Ce l i j=true->R j (act.tmps.getD (Ae l j) undef) w')->(∀t,Iy l n t=true->act.tmps.getD t undef=a.tmps.getD t undef)->
   ∀K:Act->World->Prop,(∀v w'',Below w'.heap.size w' w''->R i v w''->K (act.put o.dst v) w'')->(Pw l act o true/\o.wp P act w' K Q)\/(Pw l act o false/\K (act.put o.dst undef) w')) 0 l)
  (hend:∀(vs:Nat->Value) w',Below w.heap.size w w'->(∀i,i<n->R i (vs i) w')->Q .normal (Al a (Ae l) vs n) w'):(Code.region id l.toArray true).wp P Q a w:=by
 subst hln;have hg:=fun i (hi:i<l.length)=>Ef hB (Bj8 hi);have hD:∀i,i<l.length->Ae l i<a.tmps.size:=fun i hi=>(hg i hi).2.1;have hinj:∀i j,i<l.length->j<l.length->Ae l i=Ae l j->i=j:=fun i j hi hj e=>by
  rcases Nat.lt_trichotomy i j with k|k|k
  ·exact absurd e ((hg j hj).2.2.2 i k)
  ·exact k
  ·exact absurd e.symm ((hg i hi).2.2.2 j k)
 have hord:∀i o,l[i]? =some o->∀e∈o.after,Region.binds .any e=true->e.on<i:=fun i o hi=>(Ef hB hi).2.2.1;have hon:∀vs j,j<l.length->(Al a (Ae l) vs l.length).tmps.getD (Ae l j) undef=vs j:=fun vs j hj=>by
  rw [Bm8,Gn hinj hj (hD j hj)];rfl
 have hoff:∀vs t,Iy l l.length t=true->(Al a (Ae l) vs l.length).tmps.getD t undef=a.tmps.getD t undef:=fun vs t ht=>by
  rw [Bm8,Bm8,Fc (fun i hi e=>by
   have:=List.all_eq_true.1 ht i (Bm7.2 hi);simp [e] at this)]
 have ha:=Ia (a:=a) (a':=a) hinj rfl rfl hD (fun _ _=>rfl);refine Ey hm (Ax0 l a w R) ?_ ?_ ?_
 ·have hz:∀i,¬(Array.replicate l.toArray.size false).getD i false=true:=fun i h=>by
   rw [getD_replicate_false] at h
   cases h
  exact ⟨by simp,fun i o _ h=>absurd h (hz i),_,ha,(Below.refl _ w).drew,fun i _ h=>absurd h (hz i)⟩
 ·rintro listed a' w' i ⟨hsz,hcl,vs,rfl,hb,hR⟩ hi
  obtain ⟨h1,o,h2,h3⟩:=mem_ready.1 hi;have h2':l[i]? =some o:=by simpa using h2
  have hlt:i<l.length:=(Bk6.1 h2').1;have hun:∀j,listed.getD j false=true->j≠i:=by
   rintro j hj rfl;have:=getD_both h1;rw [this] at hj
   cases hj
  have hd:=(Ef hB h2').1;have hvi:∀v,Hw vs i v i=v:=fun v=>if_pos rfl;have hvn:∀v j,j≠i->Hw vs i v j=vs j:=fun v j hj=>if_neg hj;have hset:∀j,(listed.setIfInBounds i true).getD j false=true->j=i\/(j≠i/\listed.getD j false=true):=fun j hl=>by
   by_cases e:j=i
   ·exact .inl e
   ·rw [getD_set_ne false (fun h=>e h.symm)] at hl
    exact .inr ⟨e,hl⟩
  have hkeep:∀j,listed.getD j false=true->(listed.setIfInBounds i true).getD j false=true:=fun j hl=>by
   rw [getD_set_ne false (fun h=>hun j hl h.symm)];exact hl
  have hK:∀(v:Value) (w'':World),Below w'.heap.size w' w''->R i v w''->Ax0 l a w R (listed.setIfInBounds i true) ((Al a (Ae l) vs l.length).put o.dst v) w'':=by
   intro v w'' hb2 hr;refine ⟨by simp [hsz],?_,Hw vs i v,by rw [hd];exact He hinj hD hlt,hb.st hb2,?_⟩
   ·intro j oj hj hl e he hb'
    rcases hset j hl with rfl|⟨hji,hl'⟩
    ·rw [h2'] at hj
     cases hj
     exact hkeep _ (h3 e he hb')
    ·exact hkeep _ (hcl j oj hj hl' e he hb')
   ·intro j hj hl
    rcases hset j hl with rfl|⟨hji,hl'⟩
    ·rw [hvi]
     exact hr
    ·rw [hvn v j hji]
     exact hmono _ _ _ _ hb2 (hR j hj hl')
  have hop':=Et l 0 hop i o h2';rw [Nat.zero_add] at hop';have hdeps:∀j,Ce l i j=true->R j ((Al a (Ae l) vs l.length).tmps.getD (Ae l j) undef) w':=by
   intro j hj;unfold Ce at hj;simp only [h2'] at hj;obtain ⟨e,he,k2⟩:=List.any_eq_true.1 hj;simp only [Bool.and_eq_true,beq_iff_eq] at k2;have h5:=hord i o h2' e (Array.mem_toList_iff.1 he) k2.1;have h4:=h3 e (Array.mem_toList_iff.1 he) k2.1;rw [k2.2] at h5 h4;rw [hon vs j (by omega)];exact hR j (by omega) h4
  unfold wpOp;simp only [h2]
  rcases hop' _ w' hb hdeps (fun t ht=>hoff vs t ht) (Ax0 l a w R (listed.setIfInBounds i true)) hK with ⟨hw,h⟩|⟨hw,h⟩
  ·rw [if_pos hw]
   exact .inl h
  ·rw [if_neg (by rw [show Region.wanted o (yielded l.toArray (Al a (Ae l) vs l.length).tmps)=false from hw];simp)]
   exact h
 ·rintro listed a' w' ⟨hsz,hcl,vs,rfl,hb,hR⟩ hr
  have hall:∀d i,i=d->i<l.length->listed.getD i false=true:=by
   intro d
   induction d using Nat.strongRecOn with
   |_ d ih=>
    rintro i rfl hi
    cases hl:listed.getD i false with
    |true=>rfl
    |false=>
     have hin:i∈Region.ready .any l.toArray listed:=by
      refine mem_ready.2 ⟨Go.getD_in (by omega) hl,l[i],by simp [hi],fun e he hb'=>?_⟩;have h6:=hord i l[i] (Bj8 hi) e he hb';exact ih e.on h6 e.on rfl (by omega)
     rw [hr] at hin
     cases hin
  exact hend vs w' hb (fun i hi=>hR i hi (hall i i rfl hi))
end
end
section
open Go Go.Proofs Go.RowKit
section
variable {a:Act} {P:Program} {Q:Exit->Act->World->Prop} {w:World}
def Ad6 (l:List Oper) (n:Nat) (a:Act) (w:World) (R:Nat->Value->List Nat->World->Prop) (Qn:Act->World->Prop) (listed:Array Bool) (a':Act) (w':World):Prop:=
 listed.size=n+1/\((listed.getD n false=false/\(∀i o,i<n->l[i]? =some o->listed.getD i false=true->∀e∈o.after,Region.binds .any e=true->listed.getD e.on false=true)/\
  ∃(vs:Nat->Value) (gs:Nat->List Nat),a'=Al a (Ae l) vs n/\Below w.heap.size w w'/\(∀i,i<n->listed.getD i false=true->R i (vs i) (gs i) w')/\(∀i,i<n->listed.getD i false=true->∀k∈gs i,w.heap.size<=k/\k<w'.heap.size)/\
   ∀i j k,i<n->j<n->listed.getD i false=true->listed.getD j false=true->i≠j->k∈gs i->k∉gs j)\/((∀i,i<n+1->listed.getD i false=true)/\Qn a' w'))
theorem Bw {id:Nat} {l:List Oper} (n:Nat) (st:Oper) (hst:l=l.take n++[st]) (hln:(l.take n).length=n) (R:Nat->Value->List Nat->World->Prop) (hm:P.follows .mixedOrders=true) (hB:Sb (l.take n) a.tmps.size=true) (hS:Mq l n st=true)
  (hmono:∀i v g w w',Below w.heap.size w w'->R i v g w->R i v g w')
  (hop:Bz (fun i o=>∀(act:Act) (gs:Nat->List Nat) w',Below w.heap.size w w'->(∀j,Ce l i j=true->R j (act.tmps.getD (Ae l j) undef) (gs j) w')->(∀j j' k,Ce l i j=true->Ce l i j'=true->j≠j'->k∈gs j->k∉gs j')->(∀t,Iy l n t=true->act.tmps.getD t undef=a.tmps.getD t undef)->
   ∀K:Act->World->Prop,(∀v g w'',Below w'.heap.size w' w''->R i v g w''->(∀k∈g,w'.heap.size<=k/\k<w''.heap.size)->K (act.put o.dst v) w'')->(Pw l act o true/\o.wp P act w' K Q)\/(Pw l act o false/\K (act.put o.dst undef) w')) 0 (l.take n))
  (hend:∀(vs:Nat->Value) (gs:Nat->List Nat) act w',Below w.heap.size w w'->(∀i,i<n->R i (vs i) (gs i) w')->(∀i k,i<n->k∈gs i->w.heap.size<=k/\k<w'.heap.size)->(∀i j k,i<n->j<n->i≠j->k∈gs i->k∉gs j)->(∀j,j<n->act.tmps.getD (Ae l j) undef=vs j)->(∀t,Iy l n t=true->act.tmps.getD t undef=a.tmps.getD t undef)->act=Al a (Ae l) vs n->st.wp P act w' (fun a' w'=>Q .normal a' w') Q):(Code.region id l.toArray true).wp P Q a w:=by
 have hlen:l.length=n+1:=by rw [hst,Bm3,hln];rfl
 have hat:∀i,i<n->l[i]? =(l.take n)[i]?:=fun i hi=>by rw [Bo4 hi]
 have hda:∀i,i<n->Ae l i=Ae (l.take n) i:=fun i hi=>by unfold Ae;rw [hat i hi]
 have hatn:l[n]? =some st:=by rw [hst,Bn1 (by omega),hln,Nat.sub_self];rfl
 have hg:=fun i (hi:i<n)=>Ef hB (Bj8 (show i<(l.take n).length by omega));have hD:∀i,i<n->Ae l i<a.tmps.size:=fun i hi=>by rw [hda i hi];exact (hg i hi).2.1
 have hinj:∀i j,i<n->j<n->Ae l i=Ae l j->i=j:=fun i j hi hj e=>by
  rw [hda i hi,hda j hj] at e
  rcases Nat.lt_trichotomy i j with k|k|k
  ·exact absurd e ((hg j hj).2.2.2 i k)
  ·exact k
  ·exact absurd e.symm ((hg i hi).2.2.2 j k)
 have hord:∀i o,i<n->l[i]? =some o->∀e∈o.after,Region.binds .any e=true->e.on<i:=fun i o hi ho=>(Ef hB ((hat i hi).symm.trans ho)).2.2.1;have hon:∀vs j,j<n->(Al a (Ae l) vs n).tmps.getD (Ae l j) undef=vs j:=fun vs j hj=>by
  rw [Bm8,Gn hinj hj (hD j hj)];rfl
 have hoff:∀vs t,Iy l n t=true->(Al a (Ae l) vs n).tmps.getD t undef=a.tmps.getD t undef:=fun vs t ht=>by
  rw [Bm8,Bm8,Fc (fun i hi e=>by
   have:=List.all_eq_true.1 ht i (Bm7.2 hi);simp [e] at this)]
 unfold Mq at hS;simp only [Bool.and_eq_true] at hS;obtain ⟨⟨s1,s2⟩,s3⟩:=hS;have hsd:∀e∈st.after,Region.binds .any e=true->e.on<n:=fun e he hb=>by
  rw [Array.all_eq_true_iff_forall_mem] at s2;have:=s2 e he;rw [hb] at this
  simpa using this
 have hwait:∀i,i<n->∃j,i<j/\j<=n/\∃o,l[j]? =some o/\∃e∈o.after,Region.binds .any e=true/\e.on=i:=fun i hi=>by
  have k1:=List.all_eq_true.1 s3 i (Bm7.2 hi);obtain ⟨j,hj,k2⟩:=List.any_eq_true.1 k1;simp only [Bool.and_eq_true,decide_eq_true_eq] at k2;obtain ⟨o,ho,k3⟩:=Region.waitsFor_spec k2.2;exact ⟨j,k2.1,by have:=Bm7.1 hj;omega,o,by simpa using ho,k3⟩
 have ha:=Ia (a:=a) (a':=a) hinj rfl rfl hD (fun _ _=>rfl);refine Ey hm (Ad6 l n a w R (Q .normal)) ?_ ?_ ?_
 ·have hz:∀i,¬(Array.replicate l.toArray.size false).getD i false=true:=fun i k=>by
   rw [getD_replicate_false] at k
   cases k
  refine ⟨by simp [hlen],.inl ⟨?_,fun i o _ _ k=>absurd k (hz i),_,fun _=>[],ha,(Below.refl _ w).drew,fun i _ k=>absurd k (hz i),fun i _ k=>absurd k (hz i),fun i j k _ _ h=>absurd h (hz i)⟩⟩
  cases k:(Array.replicate l.toArray.size false).getD n false with
  |false=>rfl
  |true=>exact absurd k (hz n)
 ·rintro listed a' w' i ⟨hsz,h1|⟨hall,-⟩⟩ hi
  ·obtain ⟨hn0,hcl,vs,gs,rfl,hb,hR,hF,hN⟩:=h1
   obtain ⟨h1,o,h2,h3⟩:=mem_ready.1 hi;have h2':l[i]? =some o:=by simpa using h2
   have hlt:i<n+1:=by have:=(Bk6.1 h2').1;omega
   have hun:∀j,listed.getD j false=true->j≠i:=by
    rintro j hj rfl;have:=getD_both h1;rw [this] at hj
    cases hj
   by_cases hin:i<n
   ·have h2h:(l.take n)[i]? =some o:=(hat i hin).symm.trans h2'
    have hdo:o.dst=some (Ae l i):=by rw [hda i hin];exact (Ef hB h2h).1
    have hset:∀j,(listed.setIfInBounds i true).getD j false=true->j=i\/(j≠i/\listed.getD j false=true):=fun j hl=>by
     by_cases e:j=i
     ·exact .inl e
     ·rw [getD_set_ne false (fun k=>e k.symm)] at hl
      exact .inr ⟨e,hl⟩
    have hkeep:∀j,listed.getD j false=true->(listed.setIfInBounds i true).getD j false=true:=fun j hl=>by
     rw [getD_set_ne false (fun k=>hun j hl k.symm)];exact hl
    have hK:∀(v:Value) (g:List Nat) (w'':World),Below w'.heap.size w' w''->R i v g w''->(∀k∈g,w'.heap.size<=k/\k<w''.heap.size)->Ad6 l n a w R (Q .normal) (listed.setIfInBounds i true) ((Al a (Ae l) vs n).put o.dst v) w'':=by
     intro v g w'' hb2 hr hf;obtain ⟨gs2,hgs⟩:∃gs2:Nat->List Nat,gs2=fun j=>if j=i then g else gs j:=⟨_,rfl⟩
     have hgi:gs2 i=g:=by rw [hgs];exact if_pos rfl
     have hgn:∀j,j≠i->gs2 j=gs j:=fun j hj=>by rw [hgs];exact if_neg hj
     have hsz2:=hb2.size;refine ⟨by simp [hsz],.inl ⟨by rw [getD_set_ne false (by omega)];exact hn0,?_,Hw vs i v,gs2,by rw [hdo];exact He hinj hD hin,hb.st hb2,?_,?_,?_⟩⟩
     ·intro j oj hjn hj hl e he hb'
      rcases hset j hl with rfl|⟨hji,hl'⟩
      ·rw [h2'] at hj
       cases hj
       exact hkeep _ (h3 e he hb')
      ·exact hkeep _ (hcl j oj hjn hj hl' e he hb')
     ·intro j hj hl
      rcases hset j hl with rfl|⟨hji,hl'⟩
      ·rw [show Hw vs j v j=v from if_pos rfl,hgi]
       exact hr
      ·rw [show Hw vs i v j=vs j from if_neg hji,hgn j hji]
       exact hmono _ _ _ _ _ hb2 (hR j hj hl')
     ·intro j hj hl k hk
      rcases hset j hl with rfl|⟨hji,hl'⟩
      ·rw [hgi] at hk
       have:=hf k hk;have:=hb.size;exact ⟨by omega,by omega⟩
      ·rw [hgn j hji] at hk
       have:=hF j hj hl' k hk;exact ⟨this.1,by omega⟩
     ·intro j1 j2 k hj1 hj2 hl1 hl2 hne hk1 hk2
      rcases hset j1 hl1 with rfl|⟨hji1,hl1'⟩<;>rcases hset j2 hl2 with e2|⟨hji2,hl2'⟩
      ·exact absurd e2.symm hne
      ·rw [hgi] at hk1
       rw [hgn j2 hji2] at hk2;have:=hf k hk1;have:=hF j2 hj2 hl2' k hk2;omega
      ·subst e2
       rw [hgi] at hk2;rw [hgn j1 hji1] at hk1;have:=hf k hk2;have:=hF j1 hj1 hl1' k hk1;omega
      ·rw [hgn j1 hji1] at hk1
       rw [hgn j2 hji2] at hk2;exact hN j1 j2 k hj1 hj2 hl1' hl2' hne hk1 hk2
    have hopi:=Et (l.take n) 0 hop i o h2h;rw [Nat.zero_add] at hopi;have hdl:∀j,Ce l i j=true->j<i/\listed.getD j false=true:=by
     intro j hj;unfold Ce at hj;simp only [h2'] at hj;obtain ⟨e,he,k2⟩:=List.any_eq_true.1 hj;simp only [Bool.and_eq_true,beq_iff_eq] at k2;have h5:=hord i o hin h2' e (Array.mem_toList_iff.1 he) k2.1;have h4:=h3 e (Array.mem_toList_iff.1 he) k2.1;rw [k2.2] at h5 h4;exact ⟨h5,h4⟩
    have hdeps:∀j,Ce l i j=true->R j ((Al a (Ae l) vs n).tmps.getD (Ae l j) undef) (gs j) w':=by
     intro j hj;obtain ⟨h5,h4⟩:=hdl j hj;rw [hon vs j (by omega)];exact hR j (by omega) h4
    have hdis:∀j j' k,Ce l i j=true->Ce l i j'=true->j≠j'->k∈gs j->k∉gs j':=fun j j' k hj hj' hne hk=>by
     obtain ⟨h5,h4⟩:=hdl j hj;obtain ⟨h6,h7⟩:=hdl j' hj';exact hN j j' k (by omega) (by omega) h4 h7 hne hk
    unfold wpOp;simp only [h2]
    rcases hopi _ gs w' hb hdeps hdis (fun t ht=>hoff vs t ht) (Ad6 l n a w R (Q .normal) (listed.setIfInBounds i true)) hK with ⟨hw,h⟩|⟨hw,h⟩
    ·rw [if_pos hw]
     exact .inl h
    ·rw [if_neg (by rw [show Region.wanted o (yielded l.toArray (Al a (Ae l) vs n).tmps)=false from hw];simp)]
     exact h
   ·obtain rfl:i=n:=by omega
    have ho:o=st:=Bm2 (h2'.symm.trans hatn);subst ho;have hall:∀d j,i-j=d->j<i->listed.getD j false=true:=by
     intro d
     induction d using Nat.strongRecOn with
     |_ d ih=>
      intro j hd hj;obtain ⟨k,k1,k2,ok,k3,e,he,hb',rfl⟩:=hwait j hj
      by_cases hk:k=i
      ·subst hk
       rw [h2'] at k3
       cases k3
       exact h3 e he hb'
      ·exact hcl k ok (by omega) k3 (ih (i-k) (by omega) k rfl (by omega)) e he hb'
    unfold wpOp;simp only [h2];rw [if_pos (by simp [Region.wanted,Option.isNone_iff_eq_none.1 s1])];refine .inl (Oper.wp_mono (fun a1 w1 hq=>?_) (hend vs gs _ w' hb (fun j hj=>hR j hj (hall _ j rfl hj)) (fun j k hj hk=>hF j hj (hall _ j rfl hj) k hk) (fun j1 j2 k h1 h2=>hN j1 j2 k h1 h2 (hall _ j1 rfl h1) (hall _ j2 rfl h2)) (fun j hj=>hon vs j hj) (fun t ht=>hoff vs t ht) rfl));refine ⟨by simp [hsz],.inr ⟨fun j hj=>?_,hq⟩⟩
    by_cases e:j=i
    ·subst e
     rw [Bm8,Array.getElem?_setIfInBounds_self_of_lt (by omega)];rfl
    ·rw [getD_set_ne false (fun k=>e k.symm)]
     exact hall _ j rfl (by omega)
  ·obtain ⟨h1,o,h2,h3⟩:=mem_ready.1 hi
   have h2':l[i]? =some o:=by simpa using h2
   have hlt:i<n+1:=by have:=(Bk6.1 h2').1;omega
   have:=hall i hlt;rw [getD_both h1] at this
   cases this
 ·rintro listed a' w' ⟨hsz,h1|⟨-,hq⟩⟩ hr
  ·obtain ⟨hn0,hcl,vs,gs,rfl,hb,hR,hF,hN⟩:=h1
   exfalso
   have hall:∀d i,i=d->i<n+1->listed.getD i false=true:=by
    intro d
    induction d using Nat.strongRecOn with
    |_ d ih=>
     rintro i rfl hi
     cases hl:listed.getD i false with
     |true=>rfl
     |false=>
      have hin:i∈Region.ready .any l.toArray listed:=by
       refine mem_ready.2 ⟨Go.getD_in (by omega) hl,l[i]'(by omega),by simp [hlen,hi],fun e he hb'=>?_⟩;have h6:e.on<i:=by
        by_cases k:i<n
        ·exact hord i _ k (Bj8 (by omega)) e he hb'
        ·obtain rfl:i=n:=by omega
         have h8:l[i]'(by omega)=st:=Bm2 ((Bj8 (by omega)).symm.trans hatn);rw [h8] at he;exact hsd e he hb'
       exact ih e.on h6 e.on rfl (by omega)
      rw [hr] at hin
      cases hin
   have:=hall n n rfl (by omega);rw [hn0] at this
   cases this
  ·exact hq
def As4 (vals:List Value) (i:Nat) (v:Value) (_:List Nat) (_:World):Prop:=v=vals.getD i undef
theorem Vo {vals:List Value}:∀(i:Nat) (v:Value) (g:List Nat) (w w':World),Below w.heap.size w w'->As4 vals i v g w->As4 vals i v g w':=fun _ _ _ _ _ _ h=>h
end
end
end Go.Proofs.YteaaapdjplbljaaGreat
