/- Parts; no condition. -/
import Derived.OrdersIn
import Derived.Test.YteaaapdjplbljaaGreatVc19
set_option linter.unusedVariables false
set_option linter.unusedSimpArgs false
set_option linter.unnecessarySimpa false
set_option maxRecDepth 100000
set_option maxHeartbeats 8000000
namespace Go.Proofs.YteaaapdjplbljaaGreat
section
open Go Go.Proofs Go.RowKit
theorem Sj {F:Fence} {n:Nat} {P:Program} {ops:Array Oper} {Q:Exit->Act->World->Prop} {i l:Nat} {K:Act->World->Prop} {a:Act} {w:World} (hro:F.round=none) (hd:∀o∈ops.toList,∀c,o.op≠.defer c)
  (h:wpOpIn F n P ops Q i K a w):wpOpIn (F.inRound l) n P ops Q i K a w:=by
 unfold wpOpIn at*
 cases ho:ops[i]? with
 |none=>rw [ho] at h;exact h
 |some o=>
  rw [ho] at h;have hm:o∈ops.toList:=by rw [Array.mem_toList_iff];exact Array.mem_of_getElem? ho
  simp only at h ⊢
  split
  ·rename_i hw
   rw [if_pos hw] at h;unfold Oper.wpIn at*;refine ⟨h.1,?_⟩;have h2:=h.2;rw [Oper.semAt_eq _ _ _ (hd o hm)] at h2 ⊢;generalize (execOp a.eval o).run P w=r at*
   cases r with
   |ok x w'=>cases x<;>exact h2
   |halt x w'=>cases x<;>exact h2
  ·rename_i hw
   rw [if_neg hw] at h;exact h
theorem Iq {F:Fence} {n:Nat} {P:Program} {md:Region.Mode} {ops:Array Oper} {Q:Exit->Act->World->Prop} {l:Nat} (hro:F.round=none) (hd:∀o∈ops.toList,∀c,o.op≠.defer c):
  ∀(fuel:Nat) (listed:Array Bool) (a:Act) (w:World),wpAnyIn F n P md ops Q fuel listed a w->wpAnyIn (F.inRound l) n P md ops Q fuel listed a w
 |0,_,_,_,h=>h
 |fuel+1,listed,a,w,h=>⟨h.1,fun i hi=>wpOpIn_mono (fun a w h=>Iq hro hd fuel _ a w h) (Sj hro hd (h.2 i hi))⟩
def Hu (ops:List Oper):Bool:=ops.all fun o=>match o.op with| .defer _=>false|_=>true
theorem Xh {ops:List Oper} (h:Hu ops=true):∀o∈ops,∀c,o.op≠.defer c:=by
 intro o ho c e;unfold Hu at h;have:=List.all_eq_true.1 h o ho;rw [e] at this
 cases this
theorem Ky {F:Fence} {n:Nat} {P:Program} {ops:Array Oper} {Q:Exit->Act->World->Prop} {id l:Nat} {a:Act} {w:World} (hro:F.round=none) (hd:Hu ops.toList=true) (hm:P.follows .mixedOrders=true)
  (h:wpAnyIn F n P .any ops Q ops.size (Array.replicate ops.size false) a w.drew):(Code.region id ops true).wpIn (F.inRound l) n P Q a w:=
 wpIn_region_any hm (Iq hro (Xh hd) _ _ _ _ h)
theorem Oper.wpIn_of_wp {m:Nat} {P:Program} {o:Oper} {a:Act} {w:World} {K:Act->World->Prop} {Q:Exit->Act->World->Prop} (h:o.wp P a w K Q):o.wpIn Fence.wide m P a w K Q:=by
 refine ⟨fun _ _=>trivial,?_⟩;unfold Oper.wp at h
 show o.uponIn Fence.wide m P a K Q ((execOp a.eval o).run P w)
 generalize (execOp a.eval o).run P w=r at*
 cases r with
 |ok x w'=>
  cases x<;>simp only [Oper.upon] at h<;>simp only [Oper.uponIn]
  all_goals first
   |exact h
   |exact h.elim
   |exact ⟨(fun hh=>by cases hh),callsIn_wide.2 h⟩
   |exact ⟨(fun hh=>by cases hh),fun c cs _=>let ⟨v,w1,r,s⟩:=h c cs;⟨v,w1,r,stepsIn_wide.2 s⟩⟩
 |halt x w'=>cases x<;>exact h
theorem Ov {p q:Nat->Oper->Prop} (h:∀i o,p i o->q i o):∀{l:List Oper} {k:Nat},Bx p k l->Bx q k l
 |[],_,_=>trivial
 |_::_,_,hp=>⟨h _ _ hp.1,Ov h hp.2⟩
section
variable {a:Act} {P:Program} {Q:Exit->Act->World->Prop} {w:World}
theorem Om {m:Nat} {ops:Array Oper} {md:Region.Mode} (J:Array Bool->Act->World->Prop) (hJ:∀listed a w i,J listed a w->i∈Region.ready md ops listed->wpOpIn Fence.wide m P ops Q i (fun a' w'=>J (listed.setIfInBounds i true) a' w') a w)
  (hend:∀listed a w,J listed a w->Region.ready md ops listed=[]->Q .normal a w):
  ∀(fuel:Nat) (listed:Array Bool) (a:Act) (w:World),Eh listed ops.size<=fuel->J listed a w->wpAnyIn Fence.wide m P md ops Q fuel listed a w
 |0,listed,a,w,hf,h=>by
  have hr:Region.ready md ops listed=[]:=by
   rw [List.eq_nil_iff_forall_not_mem];intro i hi;obtain ⟨h1,o,h2,_⟩:=mem_ready.1 hi;have hlt:i<ops.size:=(Bj2.1 h2).1;exact Ir (by omega) hlt h1
  exact ⟨hr,hend _ _ _ h hr⟩
 |fuel+1,listed,a,w,hf,h=>by
  refine ⟨hend _ _ _ h,fun i hi=>?_⟩;obtain ⟨h1,o,h2,_⟩:=mem_ready.1 hi;have hlt:i<ops.size:=(Bj2.1 h2).1;have hc:=My hlt h1;exact wpOpIn_mono (fun a' w' h'=>Om J hJ hend fuel _ a' w' (by omega) h') (hJ _ _ _ _ h hi)
theorem Ia {id rl m:Nat} {l:List Oper} (hdf:Hu l=true) (hm:P.follows .mixedOrders=true) (J:Array Bool->Act->World->Prop) (h0:J (Array.replicate l.toArray.size false) a w.drew)
  (hJ:∀listed a w i,J listed a w->i∈Region.ready .any l.toArray listed->wpOpIn Fence.wide m P l.toArray Q i (fun a' w'=>J (listed.setIfInBounds i true) a' w') a w)
  (hend:∀listed a w,J listed a w->Region.ready .any l.toArray listed=[]->Q .normal a w):(Code.region id l.toArray true).wpIn (Fence.wide.inRound rl) m P Q a w:=
 Ky rfl (by simpa using hdf) hm (Om J hJ hend _ _ _ _ (Mz _ _) h0)
theorem Mu {id rl m:Nat} {l:List Oper} (D:Nat->Nat) (R:Nat->Value->List Nat->(Nat->Value)->World->Prop) (hdf:Hu l=true) (hm:P.follows .mixedOrders=true)
  (hD:∀i,i<l.length->D i<a.tmps.size) (hdst:∀i o,l[i]? =some o->o.dst=some (D i)/\o.guard=none) (hinj:∀i j,i<l.length->j<l.length->D i=D j->i=j)
  (hord:∀i o,l[i]? =some o->∀e∈o.after,Region.binds .any e=true->e.on<i) (hmono:∀i v g vs w w',Below w.heap.size w w'->R i v g vs w->R i v g vs w')
  (hloc:∀i o,l[i]? =some o->∀v g vs vs' w,(∀e∈o.after,Region.binds .any e=true->vs' e.on=vs e.on)->R i v g vs w->R i v g vs' w)
  (hop:∀i o,l[i]? =some o->∀(vs:Nat->Value) w',Below w.heap.size w w'->(∀e∈o.after,Region.binds .any e=true->∃g,R e.on (vs e.on) g vs w')->
   ∀K:Act->World->Prop,(∀v g w'',Below w'.heap.size w' w''->R i v g vs w''->(∀k∈g,w'.heap.size<=k/\k<w''.heap.size)->K ((Al a D vs l.length).put (some (D i)) v) w'')->o.wp P (Al a D vs l.length) w' K Q)
  (hend:∀(vs:Nat->Value) (gs:Nat->List Nat) w',Below w.heap.size w w'->(∀i,i<l.length->R i (vs i) (gs i) vs w')->(∀i k,i<l.length->k∈gs i->w.heap.size<=k/\k<w'.heap.size)->(∀i j k,i<l.length->j<l.length->i≠j->k∈gs i->k∉gs j)->Q .normal (Al a D vs l.length) w'):(Code.region id l.toArray true).wpIn (Fence.wide.inRound rl) m P Q a w:=by
 have ha:=Hr (a:=a) (a':=a) hinj rfl rfl hD (fun _ _=>rfl);refine Ia hdf hm (fun listed a' w'=>listed.size=l.length/\(∀i o,l[i]? =some o->listed.getD i false=true->∀e∈o.after,Region.binds .any e=true->listed.getD e.on false=true)/\
  ∃(vs:Nat->Value) (gs:Nat->List Nat),a'=Al a D vs l.length/\Below w.heap.size w w'/\(∀i,i<l.length->listed.getD i false=true->R i (vs i) (gs i) vs w')/\(∀i,i<l.length->listed.getD i false=true->∀k∈gs i,w.heap.size<=k/\k<w'.heap.size)/\
   ∀i j k,i<l.length->j<l.length->listed.getD i false=true->listed.getD j false=true->i≠j->k∈gs i->k∉gs j) ?_ ?_ ?_
 ·have hz:∀i,¬(Array.replicate l.toArray.size false).getD i false=true:=fun i h=>by
   rw [getD_replicate_false] at h
   cases h
  exact ⟨by simp,fun i o _ h=>absurd h (hz i),_,fun _=>[],ha,(Below.refl _ w).drew,fun i _ h=>absurd h (hz i),fun i _ h=>absurd h (hz i),fun i j k _ _ h=>absurd h (hz i)⟩
 ·rintro listed a' w' i ⟨hsz,hcl,vs,gs,rfl,hb,hR,hF,hN⟩ hi
  obtain ⟨h1,o,h2,h3⟩:=mem_ready.1 hi;have h2':l[i]? =some o:=by simpa using h2
  have hlt:i<l.length:=(Bj8.1 h2').1;have hun:∀j,listed.getD j false=true->j≠i:=by
   rintro j hj rfl;have:=getD_both h1;rw [this] at hj
   cases hj
  obtain ⟨hd,hg⟩:=hdst i o h2';unfold wpOpIn;simp only [h2];rw [if_pos (by simp [Region.wanted,hg])];refine Oper.wpIn_of_wp (hop i o h2' vs w' hb (fun e he hb'=>?_) _ (fun v g w'' hb2 hr hf=>?_))
  ·have h4:=h3 e he hb'
   have h5:e.on<l.length:=by have:=hord i o h2' e he hb';omega
   exact ⟨_,hR _ h5 h4⟩
  ·have hset:∀j,(listed.setIfInBounds i true).getD j false=true->j=i\/(j≠i/\listed.getD j false=true):=fun j hl=>by
    by_cases e:j=i
    ·exact .inl e
    ·rw [getD_set_ne false (fun h=>e h.symm)] at hl
     exact .inr ⟨e,hl⟩
   have hkeep:∀j,listed.getD j false=true->(listed.setIfInBounds i true).getD j false=true:=fun j hl=>by
    rw [getD_set_ne false (fun h=>hun j hl h.symm)];exact hl
   obtain ⟨gs2,hgs⟩:∃gs2:Nat->List Nat,gs2=fun j=>if j=i then g else gs j:=⟨_,rfl⟩
   have hgi:gs2 i=g:=by rw [hgs];exact if_pos rfl
   have hgn:∀j,j≠i->gs2 j=gs j:=fun j hj=>by rw [hgs];exact if_neg hj
   have hvi:Hl vs i v i=v:=if_pos rfl;have hvn:∀j,j≠i->Hl vs i v j=vs j:=fun j hj=>if_neg hj;have hsz2:=hb2.size;refine ⟨by simp [hsz],?_,Hl vs i v,gs2,Gw hinj hD hlt,hb.st hb2,?_,?_,?_⟩
   ·intro j oj hj hl e he hb'
    rcases hset j hl with rfl|⟨hji,hl'⟩
    ·rw [h2'] at hj
     cases hj
     exact hkeep _ (h3 e he hb')
    ·exact hkeep _ (hcl j oj hj hl' e he hb')
   ·intro j hj hl
    rcases hset j hl with rfl|⟨hji,hl'⟩
    ·rw [hvi,hgi]
     exact hloc j o h2' _ _ _ _ _ (fun e he hb'=>hvn _ (by have:=hord j o h2' e he hb';omega)) hr
    ·rw [hvn j hji,hgn j hji]
     exact hloc j l[j] (Bj0 hj) _ _ _ _ _ (fun e he hb'=>hvn _ (hun _ (hcl j l[j] (Bj0 hj) hl' e he hb'))) (hmono _ _ _ _ _ _ hb2 (hR j hj hl'))
   ·intro j hj hl k hk
    rcases hset j hl with rfl|⟨hji,hl'⟩
    ·rw [hgi] at hk
     have:=hf k hk;have:=hb.size;exact ⟨by omega,by omega⟩
    ·rw [hgn j hji] at hk
     have:=hF j hj hl' k hk;exact ⟨this.1,by omega⟩
   ·intro j1 j2 k hj1 hj2 hl1 hl2 hne hk1 hk2
    rcases hset j1 hl1 with rfl|⟨hji1,hl1'⟩<;>rcases hset j2 hl2 with e2|⟨hji2,hl2'⟩
    ·exact absurd e2.symm hne
    ·rw [hgi] at hk1
     rw [hgn j2 hji2] at hk2;have:=hf k hk1;have:=hF j2 hj2 hl2' k hk2;omega
    ·subst e2
     rw [hgi] at hk2;rw [hgn j1 hji1] at hk1;have:=hf k hk2;have:=hF j1 hj1 hl1' k hk1;omega
    ·rw [hgn j1 hji1] at hk1
     rw [hgn j2 hji2] at hk2;exact hN j1 j2 k hj1 hj2 hl1' hl2' hne hk1 hk2
 ·rintro listed a' w' ⟨hsz,hcl,vs,gs,rfl,hb,hR,hF,hN⟩ hr
  have hall:∀d i,i=d->i<l.length->listed.getD i false=true:=by
   intro d
   induction d using Nat.strongRecOn with
   |_ d ih=>
    rintro i rfl hi
    cases hl:listed.getD i false with
    |true=>rfl
    |false=>
     have hin:i∈Region.ready .any l.toArray listed:=by
      refine mem_ready.2 ⟨Go.getD_in (by omega) hl,l[i],by simp [hi],fun e he hb'=>?_⟩;have h6:=hord i l[i] (Bj0 hi) e he hb';exact ih e.on h6 e.on rfl (by omega)
     rw [hr] at hin
     cases hin
  exact hend vs gs w' hb (fun i hi=>hR i hi (hall i i rfl hi)) (fun i k hi hk=>hF i hi (hall i i rfl hi) k hk) (fun i j k hi hj=>hN i j k hi hj (hall i i rfl hi) (hall j j rfl hj))
theorem Lp {id rl m:Nat} {l:List Oper} (R:Nat->Value->List Nat->(Nat->Value)->World->Prop) (hdf:Hu l=true) (hm:P.follows .mixedOrders=true) (hB:Oy l a.tmps.size=true)
  (hmono:∀i v g vs w w',Below w.heap.size w w'->R i v g vs w->R i v g vs w')
  (hloc:∀i v g vs vs' w,(∀j,Cc l i j=true->vs' j=vs j)->R i v g vs w->R i v g vs' w)
  (hop:Bx (fun i o=>∀(vs:Nat->Value) w',Below w.heap.size w w'->(∀j,Cc l i j=true->∃g,R j (vs j) g vs w')->
   ∀K:Act->World->Prop,(∀v g w'',Below w'.heap.size w' w''->R i v g vs w''->(∀k∈g,w'.heap.size<=k/\k<w''.heap.size)->K ((Al a (Ae l) vs l.length).put o.dst v) w'')->o.wp P (Al a (Ae l) vs l.length) w' K Q) 0 l)
  (hend:∀(vs:Nat->Value) (gs:Nat->List Nat) w',Below w.heap.size w w'->(∀i,i<l.length->R i (vs i) (gs i) vs w')->(∀i k,i<l.length->k∈gs i->w.heap.size<=k/\k<w'.heap.size)->(∀i j k,i<l.length->j<l.length->i≠j->k∈gs i->k∉gs j)->Q .normal (Al a (Ae l) vs l.length) w'):(Code.region id l.toArray true).wpIn (Fence.wide.inRound rl) m P Q a w:=by
 have hg:=fun i (hi:i<l.length)=>Bd hB (Bj0 hi);have hds:∀i o,l[i]? =some o->o.dst=some (Ae l i):=fun i o hi=>by
  have h:=(Bd hB hi).1;obtain ⟨d,hd⟩:=Option.isSome_iff_exists.1 h;unfold Ae;rw [hi];simp [hd]
 have hdep:∀i o,l[i]? =some o->∀j,Cc l i j=true->∃e∈o.after,Region.binds .any e=true/\e.on=j:=fun i o hi j h=>by
  unfold Cc at h;simp only [hi] at h;obtain ⟨e,he,h2⟩:=List.any_eq_true.1 h;simp only [Bool.and_eq_true,beq_iff_eq] at h2;exact ⟨e,Array.mem_toList_iff.1 he,h2⟩
 refine Mu (Ae l) R hdf hm (fun i hi=>(hg i hi).2.2.1) (fun i o hi=>⟨hds i o hi,by have:=(Bd hB hi).2.1;simpa using this⟩) ?_ (fun i o hi=>(Bd hB hi).2.2.2.1) hmono ?_ ?_ hend
 ·intro i j hi hj e
  rcases Nat.lt_trichotomy i j with h|h|h
  ·exact absurd e ((hg j hj).2.2.2.2 i h)
  ·exact h
  ·exact absurd e.symm ((hg i hi).2.2.2.2 j h)
 ·intro i o hi v g vs vs' w1 h hr
  refine hloc i v g vs vs' w1 (fun j hj=>?_) hr;obtain ⟨e,he,hb,rfl⟩:=hdep i o hi j hj;exact h e he hb
 ·intro i o hi vs w' hb hR K hK
  have h:=Ej l 0 hop i o hi;rw [Nat.zero_add] at h;refine h vs w' hb (fun j hj=>?_) K (fun v g w'' h1 h2 h3=>?_)
  ·obtain ⟨e,he,hb,rfl⟩:=hdep i o hi j hj
   exact hR e he hb
  ·rw [hds i o hi]
   exact hK v g w'' h1 h2 h3
theorem Mt {id rl m:Nat} {l:List Oper} (vals:List Value) (hdf:Hu l=true) (hm:P.follows .mixedOrders=true) (hB:Oy l a.tmps.size=true)
  (hop:Bx (fun i o=>∀(vs:Nat->Value) w',Below w.heap.size w w'->(∀j,Cc l i j=true->vs j=vals.getD j undef)->
   ∀K:Act->World->Prop,(∀w'',Below w'.heap.size w' w''->K ((Al a (Ae l) vs l.length).put o.dst (vals.getD i undef)) w'')->o.wp P (Al a (Ae l) vs l.length) w' K Q) 0 l)
  (hend:∀w',Below w.heap.size w w'->Q .normal (Al a (Ae l) (fun i=>vals.getD i undef) l.length) w'):(Code.region id l.toArray true).wpIn (Fence.wide.inRound rl) m P Q a w:=by
 refine Lp (fun i v _ _ _=>v=vals.getD i undef) hdf hm hB (fun _ _ _ _ _ _ _ h=>h) (fun _ _ _ _ _ _ _ h=>h) ?_ ?_
 ·refine Ov (fun i o h vs w' hb hd K hK=>?_) hop
  exact h vs w' hb (fun j hj=>(hd j hj).choose_spec) K (fun w'' hb2=>hK _ [] w'' hb2 rfl (fun k hk=>nomatch hk))
 ·intro vs gs w' hb hR _ _
  have:∀n,n<=l.length->Al a (Ae l) vs n=Al a (Ae l) (fun i=>vals.getD i undef) n:=by
   intro n
   induction n with
   |zero=>intro _;rfl
   |succ n ih=>
    intro hn
    show Act.put _ _ _=Act.put _ _ _
    rw [ih (by omega),hR n (by omega)]
  rw [this _ (Bi7 _)];exact hend w' hb
end
end
section
open Go Go.Proofs Go.RowKit Go.Shelf Hp Ch
attribute [local go_sem] Oper.semAt_some
theorem Gi {fn:Func} {tmps:Array Value} {R:Ending->World->Prop} {D:Nat} {W:World} {a:Act} (ha:a={ tmps:=tmps,defers:=[{ target:=.collected D,args:=#[] }] }) (hK:W.heap[D]? =some (.deferred (some [])))
  (h:∀W',OffX (· =D) W W'->∃v,(results fn tmps).run Tryz.prog W'=.ok v W'/\R (.returned v) W'):Exit.noGoto (bodyPostM Fence.wide 4 Tryz.prog fn R) Exit.ret a W:=by
 subst ha;refine ⟨by simp,.inl ⟨_,_,rfl,run_takeDeferred hK,?_⟩⟩;exact h _ (.put _ rfl)
def Am3 (far:List (Option Int)) (d:Int) (x:Bt):Bool:=match far.getD x.2.1.toNat none with
 |some e=>decide (e+x.2.2<d)
 |none=>false
def Gl (far:List (Option Int)) (d:Int) (l:List Bt):Bool:=l.any (Am3 far d)
theorem Yb {far:List (Option Int)} {d:Int} {l:List Bt} {x:Bt} (h:Gl far d l=false) (hx:Am3 far d x=false):Gl far d (l++[x])=false:=by
 unfold Gl at*;rw [List.any_append,h,List.any_cons,hx];rfl
theorem Am2 {far:List (Option Int)} {d:Int} {l:List Bt} {x:Bt} (hx:Am3 far d x=true):Gl far d (l++[x])=true:=by
 unfold Gl;rw [List.any_append,List.any_cons,hx];simp
theorem Vl {far:List (Option Int)} {d:Int} {l m:List Bt} (h:Gl far d l=true) (hp:l <+:m):Gl far d m=true:=by
 obtain ⟨t,rfl⟩:=hp;unfold Gl at*;rw [List.any_append,h];rfl
structure StI (w0 W Wx:World) (xb hb:Nat) (back:Bool) (sb rb fb hp n:Nat) (va v:Value) (s:US) (d:Int):Prop where
 up:UpW w0 Wx xb hb back sb rb fb hp n va v s
 c0:Wx.cell? ⟨W.heap.size,0,none⟩=some (.pointer (some ⟨xb,0,none⟩))
 c1:Wx.cell? ⟨W.heap.size+1,0,none⟩=some (.int .u64 d)
 c2:Wx.cell? ⟨W.heap.size+2,0,none⟩=some (.bool false)
 z2:Wx.frozen? ⟨W.heap.size+2,0,none⟩=false
 bel:Below W.heap.size W Wx
 sz:W.heap.size+6<=Wx.heap.size
section
variable {w0 W Wx Wy:World} {xb hb:Nat} {back:Bool} {sb rb fb hp n:Nat} {va v:Value} {s:US} {d:Int}
theorem StI.off {D:Nat} (h:StI w0 W Wx xb hb back sb rb fb hp n va v s d) (hw:UpW w0 W xb hb back sb rb fb hp n va v s) (hD:D=W.heap.size+6) (ho:OffX (Au D) Wx Wy):StI w0 W Wy xb hb back sb rb fb hp n va v s d:=by
 have hux:=hw.ux;have hx:=hw.bx.lt;have hg:=hw.sr.bel.size;refine ⟨h.up.off ho (fun k hk e=>?_) (fun e=>?_) (fun k e=>?_),ho.cell h.c0 ?_,ho.cell h.c1 ?_,ho.cell h.c2 ?_,(ho.frozen (p:=⟨W.heap.size+2,0,none⟩) (by show W.heap.size+2<_;have:=h.sz;omega) ?_).trans h.z2,h.bel.trans (ho.below h.bel.size (fun k e=>?_)),Bi9 h.sz ho.size⟩
 ·have:=(hux k hk).2;unfold Au at e;omega
 ·unfold Au at e;omega
 ·unfold Au at e;omega
 ·intro e;unfold Au at e;simp only at e;omega
 ·intro e;unfold Au at e;simp only at e;omega
 ·intro e;unfold Au at e;simp only at e;omega
 ·intro e;unfold Au at e;simp only at e;omega
 ·unfold Au at e;omega
theorem StI.go (h:StI w0 W Wx xb hb back sb rb fb hp n va v s d) (hz:Below Wx.heap.size Wx Wy):StI w0 W Wy xb hb back sb rb fb hp n va v s d:=
 ⟨h.up.go hz,Bi6 hz h.c0,Bi6 hz h.c1,Bi6 hz h.c2,(hz.frozen (p:=⟨W.heap.size+2,0,none⟩) (by show W.heap.size+2<_;have:=h.sz;omega)).trans h.z2,h.bel.st hz,Bi9 h.sz hz.size⟩
end
def Oi (W:World) (b:Bool) (e:Ending) (w':World):Prop:=e=.returned (.bool b)/\Below W.heap.size W w'
theorem Zi (w0 W:World) (xb hb:Nat) (back:Bool) (sb rb fb hp n:Nat) (va v:Value) (s:US) (es:List EdgeD) (R:List Int) (S:List SC) (O I:List (List Int)) (u:Nat) (d:Int) (h:UpW w0 W xb hb back sb rb fb hp n va v s) (hh:HierM w0 hb n es R S O I) (hu:u<n)
  (hrow:∀i∈(if (back != true) then I else O).getD u [],0<=i/\i<(S.length:Int)) (hends:∀x∈S,Aa n x.f/\Aa n x.t) (hto:∀x∈Kz S O I u (back != true),0<=x.2.1/\x.2.1<n/\0<=x.2.2/\x.2.2<=1152921504606846976)
  (hd:0<=d/\d<=1152921504606846976) (hfar:∀i e,s.far.getD i none=some e->0<=e/\e<=1152921504606846976):
  Calls Tryz.prog 236 #[.pointer (some ⟨xb,0,none⟩),.int .i64 (u:Int),.int .u64 d] W (Oi W (Gl s.far d (Kz S O I u (back != true)))):=by
 have HEA:=Bi5 (fun w=>Hg hb back true (u:Int) w);have HU:=Bi5 h;have HH:=Bi5 hh;have HRO:=Bi5 hrow;have HEN:=Bi5 hends;have HTO:=Bi5 hto;have HFA:=Bi5 hfar;obtain ⟨V,hV⟩:∃V,V=((W.alloc (Obj.cells #[.pointer (some ⟨xb,0,none⟩)] 271)).alloc (Obj.cells #[.int .u64 d] 37)).alloc (Obj.cells #[.bool false] 4):=⟨_,rfl⟩;have hbV:Below W.heap.size W V:=by rw [hV];exact ((Below.of_al _ _).al _).al _
 have hzV:V.heap.size=W.heap.size+3:=by rw [hV];simp
 have q0:V.cell? ⟨W.heap.size,0,none⟩=some (.pointer (some ⟨xb,0,none⟩)):=by rw [hV];go_simp
 have q1:V.cell? ⟨W.heap.size+1,0,none⟩=some (.int .u64 d):=by rw [hV];go_simp
 have q2:V.cell? ⟨W.heap.size+2,0,none⟩=some (.bool false):=by rw [hV];go_simp
 have z2:V.frozen? ⟨W.heap.size+2,0,none⟩=false:=by rw [hV];go_simp
 have x0:=Bi6 hbV (h.bx 0 _ rfl).1;have x1:=Bi6 hbV (h.bx 1 _ rfl).1;have HUV:=Bi5 (h.go hbV);have HBV:=Bi5 hbV;have HZV:=Bi5 hzV;have HV:=Bi5 hV;have hxl:=h.bx.lt;unfold Oi;clear h hh hrow hends hto hfar hbV hzV hV;refine (callsIn_wide (n:=4)).1 (callsIn_of_wp_marks Tryz.func236 rfl trivial (wpIn_wide.2 ?_) rfl);simp only [Tryz.ntmps236,List.size_toArray,Bk0,Bk1,Nat.reduceAdd,Nat.reduceSub,Array.replicate_succ,Array.replicate_zero,List.push_toArray,List.append_toArray,List.nil_append,List.cons_append]
 go_upto_region 1 with (fail)
 rw [<-HV.out]
 go_wp2_with (go_at_call 199;refine (HEA.out _).mono ?_;rintro e w1 ⟨rfl,hb1,hz1,b0,b1,b2,b3⟩)
 rw [HZV.out] at hb1 hz1 b0 b1 b2 b3 ⊢;have hbl:Below W.heap.size W w1:=HBV.out.trans (hb1.mono (by omega));have hbl0:Below w0.heap.size w0 w1:=HU.out.sr.bel.trans (hbl.mono HU.out.sr.bel.size);have HI0:=Bi5 (show StI w0 W w1 xb hb back sb rb fb hp n va v s d from ⟨HUV.out.go (by rw [HZV.out];exact hb1),(Bl2 (a:=⟨W.heap.size,0,none⟩) (hb1.block _ (by show W.heap.size<_;omega))).trans q0,(Bl2 (a:=⟨W.heap.size+1,0,none⟩) (hb1.block _ (by show W.heap.size+1<_;omega))).trans q1,
  (Bl2 (a:=⟨W.heap.size+2,0,none⟩) (hb1.block _ (by show W.heap.size+2<_;omega))).trans q2,(World.frozen?_of_block (a:=⟨W.heap.size+2,0,none⟩) (hb1.block _ (by show W.heap.size+2<_;omega))).trans z2,hbl,by omega⟩)
 have hkB:∀j,KpU w0.heap.size (W.heap.size+3) j->j<w1.heap.size:=by
  rintro j (h|h)
  ·have:=hbl0.size;omega
  ·omega
 have HSEQ:=Bi5 (En 3 (by decide) hb n es R S O I back true u (W.heap.size+3) w0 w1 HH.out (fun k hk=>hbl0.block k hk) hkB hu HRO.out HEN.out b0 b1 b2 b3);have hz0:w1.heap.size=W.heap.size+6:=by omega
 have HZ:=Bi5 hz0;have HKB:=Bi5 hkB;clear hb1 hz1 b0 b1 b2 b3 hbl hbl0 hkB hz0 q0 q1 q2 z2 x0 x1 HEA HUV HV;refine (wpIn_wide (n:=4)).1 (Ge rfl (by decide) (gf:=250) rfl trivial (enters_of Tryz.func250 (by kernel_rfl) rfl) HSEQ.out HKB.out (fun _=>rfl)
  (fun pre Wx=>StI w0 W Wx xb hb back sb rb fb hp n va v s d/\Gl s.far d pre=false)
  (fun c pre Wx=>c=.ret/\Gl s.far d pre=true/\Wx.cell? ⟨W.heap.size+2,0,none⟩=some (.bool true)/\Below W.heap.size W Wx/\W.heap.size+6<=Wx.heap.size)
  (fun pre Wx Wy h ho=>⟨h.1.off HU.out HZ.out ho,h.2⟩)
  (fun c pre Wx Wy h ho=>⟨h.1,h.2.1,ho.cell h.2.2.1 (by intro e;unfold Au at e;simp only at e;have:=HZ.out;omega),h.2.2.2.1.trans (ho.below h.2.2.2.1.size (fun k e=>by unfold Au at e;have:=HZ.out;omega)),Bi9 h.2.2.2.2 ho.size⟩)
  ⟨HI0.out,rfl⟩
  (fun x Wx=>{ tmps:=#[.pointer (some ⟨xb,0,none⟩),.int .i64 (u:Int),.int .u64 d,.pointer (some ⟨W.heap.size,0,none⟩),undef,.pointer (some ⟨W.heap.size+1,0,none⟩),.pointer (some ⟨W.heap.size+1+1,0,none⟩),undef,.pointer (some ⟨Wx.heap.size,0,none⟩),undef,undef,.pointer (some ⟨xb,0,none⟩),.pointer (some ⟨xb,0,none⟩),.pointer (some ⟨xb,0,none⟩),.agg #[.pointer (some ⟨hb,0,none⟩),.bool back],.int .i64 (u:Int),
   .func (.func 250) #[] #[.pointer (some ⟨W.heap.size+3,0,none⟩),.pointer (some ⟨W.heap.size+3+1,0,none⟩),.pointer (some ⟨W.heap.size+3+2,0,none⟩)],.int .i64 x.1,.agg #[.int .i64 0,.int .i64 x.2.1,.int .u64 x.2.2,.int .i64 0,.int .i64 0,.int .i64 0],undef,undef,undef,undef,undef,undef,undef,undef,undef,undef,undef,undef,undef,undef,undef,undef,undef,undef,undef],defers:=[] })
  (fun x Wx=>Wx.alloc (Obj.cells #[.int .i64 0,.int .i64 x.2.1,.int .u64 x.2.2,.int .i64 0,.int .i64 0,.int .i64 0] 187)) (fun x Wx=>Below.of_al _ _) ?assign ?body ?done ?stop)
 case assign=>
  intro l x Wx K hK
  dsimp only [Aw4]
  gi_wp2
  exact hK
 case body=>
  rintro l pre ⟨xi,xt,xw⟩ W0 Wx ⟨hI,hno⟩ hpx hsz ho;obtain ⟨t0,t1,t2,t3⟩:=HTO.out (xi,xt,xw) (hpx.subset (by simp));simp only at t0 t1 t2 t3;obtain ⟨t,rfl⟩:∃t:Nat,xt=t:=⟨xt.toNat,by omega⟩;have hDz:w1.heap.size+1≠W0.heap.size:=by omega
  have y1:=ho.cell (p:=⟨W0.heap.size,1,none⟩) (v:=.int .i64 (t:Int)) (by go_simp) (fun e=>hDz (by unfold Au at e;exact e.symm));have y2:=ho.cell (p:=⟨W0.heap.size,2,none⟩) (v:=.int .u64 xw) (by go_simp) (fun e=>hDz (by unfold Au at e;exact e.symm));have hWx:W0.heap.size+1<=Wx.heap.size:=by have h9:=ho.size;rwa [World.size_alloc] at h9
  have c0:=hI.c0;have c1:=hI.c1;have c2:=hI.c2;have z2:=hI.z2;have x1:=(hI.up.bx 2 _ rfl).1;have HI:=Bi5 hI;clear hI;have hli:t<s.far.length:=by have:=HU.out.lens.1;omega
  have HG:=Bi5 (fun Wz (hz:Below Wx.heap.size Wx Wz)=>Wq sb rb t s.far Wz (HI.out.up.sr.s1.go hz) hli);have hex:s.far.getD t none=s.far[t]:=by rw [Bj1,Bj0 hli];rfl
  have HHB:=Bi5 (show Am3 s.far d (xi,(t:Int),xw)=match s.far[t] with|some e=>decide (e+xw<d)|none=>false by unfold Am3;simp only [Bj9];rw [hex]);have HFE:=Bi5 (show ∀e,s.far[t]=some e->0<=e/\e<=1152921504606846976 from fun e he=>HFA.out t e (by rw [hex];exact he));clear hex;generalize s.far[t]=o at*
  gi_wp2
  rename_i K Q' hK2
  refine Mt [.pointer (some ⟨xb,0,none⟩),.pointer (some ⟨xb,0,none⟩),.pointer (some ⟨xb,2,none⟩),.pointer (some ⟨sb,0,none⟩),.pointer (some ⟨W0.heap.size,1,none⟩),.int .i64 (t:Int),.tuple #[.int .u64 (Lr o),.bool o.isSome],.tuple #[.int .u64 (Lr o),.bool o.isSome],.int .u64 (Lr o),.bool o.isSome,.int .u64 (Lr o),.bool o.isSome] (by kernel_rfl) (by kernel_rfl) (by kernel_rfl) ?_ ?_
  ·refine ⟨?_,?_,?_,?_,?_,?_,?_,?_,?_,?_,?_,?_,trivial⟩
   ·intro vs w' hbe hd K hK
    have hm0:True:=trivial;have f0:=Bi6 hbe c0;simp only [Al,Ae,Bk7,Bk6,Bl1,Bl0,Act.put,Bk0,Bk1,Nat.reduceAdd,Bk5,Bk8,Bk9,List.getD_cons_zero,List.getD_cons_succ,f0] at hK ⊢;simp [Oper.wp,execOp,Oper.upon,go_sem,Act.eval,Act.put,f0];exact hK w' (Below.refl _ _)
   ·intro vs w' hbe hd K hK
    have hm0:True:=trivial;have e0:vs 0=.pointer (some ⟨xb,0,none⟩):=hd 0 (by rfl);simp only [Al,Ae,Bk7,Bk6,Bl1,Bl0,Act.put,Bk0,Bk1,Nat.reduceAdd,Bk5,Bk8,Bk9,List.getD_cons_zero,List.getD_cons_succ,e0] at hK ⊢;simp [Oper.wp,execOp,Oper.upon,go_sem,Act.eval,Act.put,e0];exact hK w' (Below.refl _ _)
   ·intro vs w' hbe hd K hK
    have hm0:True:=trivial;have e1:vs 1=.pointer (some ⟨xb,0,none⟩):=hd 1 (by rfl);simp only [Al,Ae,Bk7,Bk6,Bl1,Bl0,Act.put,Bk0,Bk1,Nat.reduceAdd,Bk5,Bk8,Bk9,List.getD_cons_zero,List.getD_cons_succ,e1] at hK ⊢;simp [Oper.wp,execOp,Oper.upon,go_sem,Act.eval,Act.put,e1];exact hK w' (Below.refl _ _)
   ·intro vs w' hbe hd K hK
    have hm0:True:=trivial;have e2:vs 2=.pointer (some ⟨xb,2,none⟩):=hd 2 (by rfl);have f0:=Bi6 hbe x1;simp only [Al,Ae,Bk7,Bk6,Bl1,Bl0,Act.put,Bk0,Bk1,Nat.reduceAdd,Bk5,Bk8,Bk9,List.getD_cons_zero,List.getD_cons_succ,e2,f0] at hK ⊢;simp [Oper.wp,execOp,Oper.upon,go_sem,Act.eval,Act.put,e2,f0];exact hK w' (Below.refl _ _)
   ·intro vs w' hbe hd K hK
    have hm0:True:=trivial
    skip
    simp only [Al,Ae,Bk7,Bk6,Bl1,Bl0,Act.put,Bk0,Bk1,Nat.reduceAdd,Bk5,Bk8,Bk9,List.getD_cons_zero,List.getD_cons_succ,true_and] at hK ⊢;simp [Oper.wp,execOp,Oper.upon,go_sem,Act.eval,Act.put,true_and];exact hK w' (Below.refl _ _)
   ·intro vs w' hbe hd K hK
    have hm0:True:=trivial;have e4:vs 4=.pointer (some ⟨W0.heap.size,1,none⟩):=hd 4 (by rfl);have f0:=Bi6 hbe y1;simp only [Al,Ae,Bk7,Bk6,Bl1,Bl0,Act.put,Bk0,Bk1,Nat.reduceAdd,Bk5,Bk8,Bk9,List.getD_cons_zero,List.getD_cons_succ,e4,f0] at hK ⊢;simp [Oper.wp,execOp,Oper.upon,go_sem,Act.eval,Act.put,e4,f0];exact hK w' (Below.refl _ _)
   ·intro vs w' hbe hd K hK
    have hm0:True:=trivial;have e3:vs 3=.pointer (some ⟨sb,0,none⟩):=hd 3 (by rfl);have e5:vs 5=.int .i64 (t:Int):=hd 5 (by rfl);simp only [Al,Ae,Bk7,Bk6,Bl1,Bl0,Act.put,Bk0,Bk1,Nat.reduceAdd,Bk5,Bk8,Bk9,List.getD_cons_zero,List.getD_cons_succ,e3,e5] at hK ⊢;simp [Oper.wp,execOp,Oper.upon,go_sem,Act.eval,Act.put,e3,e5];refine (HG.out _ hbe).mono ?_;rintro e w4 ⟨rfl,hb4⟩
    dsimp only
    exact hK w4 hb4
   ·intro vs w' hbe hd K hK
    have hm0:True:=trivial;have e6:vs 6=.tuple #[.int .u64 (Lr o),.bool o.isSome]:=hd 6 (by rfl);simp only [Al,Ae,Bk7,Bk6,Bl1,Bl0,Act.put,Bk0,Bk1,Nat.reduceAdd,Bk5,Bk8,Bk9,List.getD_cons_zero,List.getD_cons_succ,e6] at hK ⊢;simp [Oper.wp,execOp,Oper.upon,go_sem,Act.eval,Act.put,e6];exact hK w' (Below.refl _ _)
   ·intro vs w' hbe hd K hK
    have hm0:True:=trivial;have e7:vs 7=.tuple #[.int .u64 (Lr o),.bool o.isSome]:=hd 7 (by rfl);simp only [Al,Ae,Bk7,Bk6,Bl1,Bl0,Act.put,Bk0,Bk1,Nat.reduceAdd,Bk5,Bk8,Bk9,List.getD_cons_zero,List.getD_cons_succ,e7] at hK ⊢;simp [Oper.wp,execOp,Oper.upon,go_sem,Act.eval,Act.put,e7];exact hK w' (Below.refl _ _)
   ·intro vs w' hbe hd K hK
    have hm0:True:=trivial;have e7:vs 7=.tuple #[.int .u64 (Lr o),.bool o.isSome]:=hd 7 (by rfl);simp only [Al,Ae,Bk7,Bk6,Bl1,Bl0,Act.put,Bk0,Bk1,Nat.reduceAdd,Bk5,Bk8,Bk9,List.getD_cons_zero,List.getD_cons_succ,e7] at hK ⊢;simp [Oper.wp,execOp,Oper.upon,go_sem,Act.eval,Act.put,e7];exact hK w' (Below.refl _ _)
   ·intro vs w' hbe hd K hK
    have hm0:True:=trivial;have e8:vs 8=.int .u64 (Lr o):=hd 8 (by rfl);simp only [Al,Ae,Bk7,Bk6,Bl1,Bl0,Act.put,Bk0,Bk1,Nat.reduceAdd,Bk5,Bk8,Bk9,List.getD_cons_zero,List.getD_cons_succ,e8] at hK ⊢;simp [Oper.wp,execOp,Oper.upon,go_sem,Act.eval,Act.put,e8];exact hK w' (Below.refl _ _)
   ·intro vs w' hbe hd K hK
    have hm0:True:=trivial;have e9:vs 9=.bool o.isSome:=hd 9 (by rfl);simp only [Al,Ae,Bk7,Bk6,Bl1,Bl0,Act.put,Bk0,Bk1,Nat.reduceAdd,Bk5,Bk8,Bk9,List.getD_cons_zero,List.getD_cons_succ,e9] at hK ⊢;simp [Oper.wp,execOp,Oper.upon,go_sem,Act.eval,Act.put,e9];exact hK w' (Below.refl _ _)
  ·intro w2 hb2
   simp only [Al,Ae,Bk7,Bk6,Bl1,Bl0,Act.put,Bk0,Bk1,Nat.reduceAdd,Bk5,Bk8,Bk9,List.getD_cons_zero,List.getD_cons_succ];refine hK2 _ _ ?_;have y22:=Bi6 hb2 y2;have c12:=Bi6 hb2 c1;have c22:=Bi6 hb2 c2;have z22:=(hb2.frozen (p:=⟨W.heap.size+2,0,none⟩) (Bj5 _ _ c2)).trans z2;have HI2:=Bi5 (HI.out.go hb2);have HKX:=Bi5 (show KeepX (Mr (KpU w0.heap.size (W.heap.size+3)) w1.heap.size) Wx w2 from ⟨hb2.size,fun k hk=>hb2.block k (by
    have:=HI.out.sz;have:=HI.out.bel.size;have h0:=HU.out.sr.bel.size;have:=HZ.out
    rcases hk with (h|h)|h|h
    ·omega
    ·omega
    ·rw [h];omega
    ·rw [h];omega)⟩)
   clear hb2 y1 y2 c0 c1 c2 z2 x1 hK2
   cases o with
   |none=>
    have HNO:=Bi5 (Yb hno HHB.out);simp only [Lr,Option.getD,Option.isSome]
    gi_wp2
    exact ⟨HKX.out,HI2.out,HNO.out⟩
   |some e=>
    obtain ⟨e0,e1⟩:=HFE.out e rfl;simp only [Lr,Option.getD,Option.isSome];obtain ⟨d0,d1⟩:=hd
    by_cases hlt:e+xw<d
    ·have HYES:=Bi5 (Am2 (l:=pre) (HHB.out.trans (decide_eq_true hlt)))
     gi_wp2
     have hset:=Bj4 w2 ⟨W.heap.size+2,0,none⟩ (.bool true) c22;refine ⟨⟨by simpa [World.setCell] using HKX.out.1,fun k hk=>(Below.heap_setCell _ _ _ _ ?_).trans (HKX.out.2 k hk)⟩,rfl,HYES.out,hset,HI2.out.bel.setCell (show W.heap.size<=W.heap.size+2 by omega) _,by simpa [World.setCell] using HI2.out.sz⟩;have h0:=HU.out.sr.bel.size;have:=HZ.out
     show k≠W.heap.size+2
     rcases hk with (h|h)|h|h
     ·omega
     ·omega
     ·omega
     ·omega
    ·have HNO:=Bi5 (Yb hno (HHB.out.trans (decide_eq_false hlt)))
     gi_wp2
     exact ⟨HKX.out,HI2.out,HNO.out⟩
 case done=>
  rintro D W2 hD0 ⟨hI,hno⟩ hK;have hD1:D=W.heap.size+6:=by have:=HZ.out;omega
  have hn:=Bi5 (show D≠(⟨W.heap.size+2,0,none⟩:Addr).block by show D≠W.heap.size+2;omega);have HNO:=Bi5 hno;have HIB:=Bi5 hI.bel;have HKK:=Bi5 hK;have HD1:=Bi5 hD1;have c2:=hI.c2;have z2:=hI.z2;clear hI hK hD0 hD1 hno
  go_wp2
  have hset:=Bj4 W2 ⟨W.heap.size+2,0,none⟩ (.bool false) c2;refine Gi (a:=_) rfl ((Below.heap_setCell _ _ _ _ hn.out).trans HKK.out) (fun W9 ho=>⟨.bool false,?_,?_⟩)
  ·have r0:=ho.cell hset (show ¬W.heap.size+2=D by have:=HD1.out;omega)
   simp [results,Tryz.results236,go_sem,r0]
   try rfl
  ·exact ⟨by have h9:=HNO.out;rw [show (back != true)=!back by cases back<;>rfl] at h9;rw [h9],(HIB.out.setCell (show W.heap.size<=W.heap.size+2 by omega) _).trans (ho.below (by have:=HIB.out.size;simpa [World.setCell] using this) (fun k e=>by have:=HD1.out;omega))⟩
 case stop=>
  rintro D c pre W2 hD0 hpp ⟨rfl,hyes,c2,hbl,hsz⟩ hK;have hD1:D=W.heap.size+6:=by have:=HZ.out;omega
  have HY:=Bi5 (Vl hyes hpp);refine wpIn_ret ?_;refine Gi (a:=_) rfl hK (fun W9 ho=>⟨.bool true,?_,?_⟩)
  ·have r0:=ho.cell c2 (show ¬W.heap.size+2=D by omega)
   simp [results,Tryz.results236,go_sem,r0]
   try rfl
  ·exact ⟨by rw [HY.out],hbl.trans (ho.below hbl.size (fun k e=>by omega))⟩
end
end Go.Proofs.YteaaapdjplbljaaGreat
