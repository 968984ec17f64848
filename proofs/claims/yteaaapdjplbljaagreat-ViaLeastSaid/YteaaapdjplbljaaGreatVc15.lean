/- Parts; no condition. -/
import Derived.Test.YteaaapdjplbljaaGreatVc14
set_option linter.unusedVariables false
set_option linter.unusedSimpArgs false
set_option linter.unnecessarySimpa false
set_option maxRecDepth 100000
set_option maxHeartbeats 8000000
namespace Go.Proofs.YteaaapdjplbljaaGreat
open Go Go.Proofs Go.RowKit Go.Shelf Hp Ch
structure OrdS (A:Int->Int->Int->Prop) (E:Int->Int->Int->Int->Prop) (n cb se:Nat) (hops:Int) (vr:Value) (m0 k:Nat) (s0:CS) (w0:World) (v2:Value) (hb:Nat) (va:Value) (hand:Option Int) (vh:Value) (l:List IK) (p:List Int) (out:List Int) (s:CS) (wr:World):Prop where
 ci:CoI A E n cb se hops vr out (m0+out.length*(n*n)) wr s
 hp:HeapW wr hb vh va l p
 ok:HeapOK l p
 lp:p.length=n
 mem:∀y∈l,Aa k y.1/\y.1∉out/\0<=y.2/\y.2<=18446744073709551615
 all:∀u,Aa k u->u∈out\/(∃y∈l,y.1=u)\/hand=some u
 hnd:∀u,hand=some u->Aa k u/\u∉out/\∀y∈l,y.1≠u
 row:wr.ownsRow w0.heap.size 3 1 v2 out.length (out.map Aj)
 kn:k<=n
 hx:∀j,HX hb vh va j->w0.heap.size<=j/\¬s.X j
 rx:∀j,v2.ownBlock=some j->¬s.X j/\¬HX hb vh va j
 off:OffX s0.X w0 wr
 x:∀j,s.X j->s0.X j\/w0.heap.size<=j
section
variable {A:Int->Int->Int->Prop} {E:Int->Int->Int->Int->Prop} {n cb se m0 k hb:Nat} {hops:Int} {vr v2 va vh:Value} {s0 s:CS} {w0 wr w':World} {hand:Option Int} {l:List IK} {p out:List Int}
theorem OrdS.len (h:OrdS A E n cb se hops vr m0 k s0 w0 v2 hb va hand vh l p out s wr):l.length<=n:=by
 have:(l.map (·.1)).length<=n:=by
  refine Di ?_ ?_
  ·intro u hu
   obtain ⟨y,hy,rfl⟩:=List.mem_map.1 hu;have:=(h.mem y hy).1;have:=h.kn;exact ⟨by omega,by omega⟩
  ·refine List.pairwise_iff_getElem.2 ?_
   intro i j hi hj hij e;have hj2:j<l.length:=by simpa using hj
   have hi2:i<l.length:=by omega
   simp only [List.getElem_map] at e;rw [<-Jg hi2,<-Jg hj2] at e;have:=h.ok.c.inj hi2 hj2 e;omega
 simpa using this
theorem OrdS.go (h:OrdS A E n cb se hops vr m0 k s0 w0 v2 hb va hand vh l p out s wr) (hz:Below wr.heap.size wr w'):OrdS A E n cb se hops vr m0 k s0 w0 v2 hb va hand vh l p out s w':=
 ⟨h.ci.go hz,h.hp.go hz,h.ok,h.lp,h.mem,h.all,h.hnd,Af h.row hz,h.kn,h.hx,h.rx,h.off.trans (.of_below hz),h.x⟩
theorem CoI.off {m:Nat} {X:Nat->Prop} (h:CoI A E n cb se hops vr out m wr s) (ho:OffX X wr w') (hX:∀j,s.X j->¬X j):CoI A E n cb se hops vr out m w' s:=⟨h.core.off ho hX,h.cc,h.gone,h.dep,h.opt,h.cb,h.room,h.nodes⟩
theorem OrdS.next (h:OrdS A E n cb se hops vr m0 k s0 w0 v2 hb va none vh l p [] s wr) (hk:k<n):OrdS A E n cb se hops vr m0 (k+1) s0 w0 v2 hb va (some (k:Int)) vh l p [] s wr:=by
 refine ⟨h.ci,h.hp,h.ok,h.lp,?_,?_,?_,h.row,by omega,h.hx,h.rx,h.off,h.x⟩
 ·intro y hy
  obtain ⟨a,b,c⟩:=h.mem y hy;exact ⟨⟨a.1,by have:=a.2;omega⟩,b,c⟩
 ·intro u hu
  by_cases e:u=(k:Int)
  ·exact .inr (.inr (by rw [e]))
  ·rcases h.all u ⟨hu.1,by have:=hu.2;omega⟩ with h1|h1|h1
   ·exact .inl h1
   ·exact .inr (.inl h1)
   ·cases h1
 ·intro u hu
  cases hu
  refine ⟨⟨by omega,by omega⟩,by simp,?_⟩;intro y hy e;have:=(h.mem y hy).1.2;omega
theorem OrdS.put {v:Nat} {key:Int} {e:Ending} (h:OrdS A E n cb se hops vr m0 k s0 w0 v2 hb va (some (v:Int)) vh l p out s wr) (hkey:0<=key/\key<=18446744073709551615) (hp:Fo wr hb vh va (Bf l p v key) e w'):
  e=.returned (.bool true)/\∃vh' l' p',OrdS A E n cb se hops vr m0 k s0 w0 v2 hb va none vh' l' p' out s w'/\∀y,y∈l'↔(y=((v:Int),key)\/(y∈l/\y.1≠(v:Int))):=by
 obtain ⟨rfl,vh',h1,h2,h3⟩:=hp;obtain ⟨hv1,hv2,hv3⟩:=h.hnd v rfl;have hvp:v<p.length:=by rw [h.lp];have:=h.kn;have:=hv1.2;omega
 obtain ⟨q1,q2,q3,q4,q5⟩:=Dt h.ok hvp key;have ht:(Bf l p v key).1=true:=by
  cases e:(Bf l p v key).1 with
  |true=>rfl
  |false=>
   obtain ⟨_,x,hx,_⟩:=q4 e;exact absurd rfl (hv3 _ hx)
 have hm:=q3 ht;have hX:∀j,s.X j->¬HX hb vh va j:=fun j hj hh=>(h.hx j hh).2 hj;have hxn:∀j,HX hb vh' va j->HX hb vh va j\/wr.heap.size<=j:=by
  rintro j (hj|hj|hj)
  ·exact .inl (.inl hj)
  ·rcases h3 with e|⟨g,e,hg⟩
   ·exact .inl (.inr (.inl (by rw [<-e];exact hj)))
   ·rw [e] at hj
    cases hj
    exact .inr hg
  ·exact .inl (.inr (.inr hj))
 have hlt:∀j,s.X j->j<wr.heap.size:=fun j hj=>by obtain ⟨i,hi⟩:=hj;exact (h.ci.core.ge i j hi).2
 refine ⟨by rw [ht],vh',_,_,⟨h.ci.off h2 hX,h1,q1,q2.trans h.lp,?_,?_,?_,Ai h.row ?_,h.kn,?_,?_,h.off.then' h2 (fun j hj=>.inr (h.hx j hj).1),h.x⟩,hm⟩
 ·intro y hy
  rcases (hm y).1 hy with rfl|⟨hy1,_⟩
  ·exact ⟨hv1,hv2,hkey⟩
  ·exact h.mem y hy1
 ·intro u hu
  rcases h.all u hu with h4|⟨y,hy,e⟩|h4
  ·exact .inl h4
  ·by_cases e2:u=(v:Int)
   ·exact .inr (.inl ⟨_,(hm _).2 (.inl rfl),e2.symm⟩)
   ·exact .inr (.inl ⟨y,(hm _).2 (.inr ⟨hy,by rw [e];exact e2⟩),e⟩)
  ·exact .inr (.inl ⟨_,(hm _).2 (.inl rfl),Bl4 h4⟩)
 ·intro u hu
  cases hu
 ·intro j hj
  exact h2.block j (h.row.lt j hj).2 (h.rx j hj).2
 ·intro j hj
  rcases hxn j hj with h4|h4
  ·exact h.hx j h4
  ·exact ⟨by have:=h.off.size;omega,fun h5=>by have:=hlt j h5;omega⟩
 ·intro j hj
  refine ⟨(h.rx j hj).1,fun h4=>?_⟩
  rcases hxn j h4 with h5|h5
  ·exact (h.rx j hj).2 h5
  ·have:=(h.row.lt j hj).2
   omega
theorem OrdS.pop {e:Ending} (h:OrdS A E n cb se hops vr m0 k s0 w0 v2 hb va none vh l p out s wr) (hp:Kg wr hb vh va l p e w'):
  (l=[]/\(e=.returned (Fa []))/\OrdS A E n cb se hops vr m0 k s0 w0 v2 hb va none vh l p out s w')\/
  ∃(v:Nat) (d:Int) (vh':Value) (l':List IK) (p':List Int),e=.returned (.tuple #[.int .i64 (v:Int),.int .u64 d,.bool true])/\OrdS A E n cb se hops vr m0 k s0 w0 v2 hb va (some (v:Int)) vh' l' p' out s w'/\((v:Int),d)∈l/\(∀y∈l,d<=y.2)/\∀y,y∈l'↔y∈l/\y.1≠(v:Int):=by
 obtain ⟨he,hp⟩:=hp
 rcases hp with ⟨h0,hz⟩|⟨h0,vh',h1,h2,h3⟩
 ·subst h0
  exact .inl ⟨rfl,he,h.go hz⟩
 ·refine .inr ?_
  obtain ⟨x,r,hl⟩:=List.exists_cons_of_ne_nil h0;have hg:gI l 0=x:=by rw [hl];rfl
  have hx:x∈l:=by rw [hl];simp
  have hl0:0<l.length:=by rw [hl];simp
  obtain ⟨a1,a2,a3⟩:=h.mem x hx;obtain ⟨v,hv⟩:∃v:Nat,x.1=(v:Int):=⟨x.1.toNat,by have:=a1.1;omega⟩;have hvp:v<p.length:=by rw [h.lp];have:=h.kn;have:=a1.2;omega
  obtain ⟨c1,c2,c3⟩:=h.ok.c.pos 0 hl0;rw [hg,hv] at c3;rw [hg,hv] at h1;simp only [Bj9] at c3 h1;obtain ⟨q1,q2,q3,q4⟩:=Ke h.ok hvp hl0 c3 (by rw [hg,hv]);have hX:∀j,s.X j->¬HX hb vh va j:=fun j hj hh=>(h.hx j hh).2 hj;have hxn:∀j,HX hb vh' va j->HX hb vh va j:=by
   rintro j (hj|hj|hj)
   ·exact .inl hj
   ·exact .inr (.inl (by rw [<-h3];exact hj))
   ·exact .inr (.inr hj)
  have hxe:x=((v:Int),x.2):=by rw [<-hv]
  refine ⟨v,x.2,vh',_,_,?_,⟨h.ci.off h2 hX,h1,q1,q2.trans h.lp,fun y hy=>h.mem y ((q4 y).1 hy).1,?_,?_,Ai h.row (fun j hj=>h2.block j (h.row.lt j hj).2 (h.rx j hj).2),h.kn,fun j hj=>h.hx j (hxn j hj),fun j hj=>⟨(h.rx j hj).1,fun h4=>(h.rx j hj).2 (hxn j h4)⟩,h.off.then' h2 (fun j hj=>.inr (h.hx j hj).1),h.x⟩,by rw [<-hxe];exact hx,?_,q4⟩
  ·rw [he,hl]
   show Ending.returned (.tuple #[.int .i64 x.1,.int .u64 x.2,.bool true])=_
   rw [hv]
  ·intro u hu
   rcases h.all u hu with h4|⟨y,hy,e⟩|h4
   ·exact .inl h4
   ·by_cases e2:u=(v:Int)
    ·exact .inr (.inr (by rw [e2]))
    ·exact .inr (.inl ⟨y,(q4 y).2 ⟨hy,by rw [e];exact e2⟩,e⟩)
   ·cases h4
  ·intro u hu
   cases hu
   rw [<-hv];refine ⟨a1,a2,?_⟩;intro y hy;rw [hv];exact ((q4 y).1 hy).2
  ·intro y hy
   have:=h.ok.least hy;rw [hg] at this;exact this
theorem OrdS.gone {v g cap:Nat} {s':CS} {w4 w5:World} {o:Obj} (h:OrdS A E n cb se hops vr m0 k s0 w0 v2 hb va (some (v:Int)) vh l p out s wr) (hc:CoI A E n cb se hops vr (out++[(v:Int)]) (m0+out.length*(n*n)+n*n) w4 s') (ho:OffX s.X wr w4) (hX:∀j,s'.X j->s.X j\/wr.heap.size<=j)
  (hown:w5.ownsRow w0.heap.size 3 1 (.slice (some ⟨g,0,none⟩) (out.length+1) cap) (out.length+1) (out.map Aj++[.int .i64 (v:Int)])) (hgr:(w4.alloc o).grownBy w5 v2.ownBlock) (hat:v2.ownBlock=some g\/g=(w4.alloc o).heap.size):
  OrdS A E n cb se hops vr m0 k s0 w0 (.slice (some ⟨g,0,none⟩) (out.length+1) cap) hb va none vh l p (out++[(v:Int)]) s' w5:=by
 have hz4:=ho.size;have hzo:=h.off.size;have hbl:OffX (fun j=>v2.ownBlock=some j) w4 w5:=(OffX.of_below (Below.of_al w4 o)).trans ⟨hgr.os,hgr.tape,hgr.output,hgr.size,fun j hj hn=>hgr.block j hj (fun e=>hn e.symm)⟩;have hX5:∀j,s'.X j->¬v2.ownBlock=some j:=by
  intro j hj e
  rcases hX j hj with h1|h1
  ·exact (h.rx j e).1 h1
  ·have:=(h.row.lt j e).2
   omega
 have hH4:HeapW w4 hb vh va l p:=by
  have hk:∀j,HX hb vh va j->j<wr.heap.size->w4.heap[j]? =wr.heap[j]?:=fun j hj hlt=>ho.block j hlt (h.hx j hj).2;exact ⟨h.hp.pb.eq (hk hb (.inl rfl) h.hp.pb.lt),Ai h.hp.ol (fun j hj=>hk j (.inr (.inl hj)) (h.hp.ol.lt j hj).2),Ai h.hp.oa (fun j hj=>hk j (.inr (.inr hj)) (h.hp.oa.lt j hj).2),h.hp.d1,h.hp.d2,h.hp.d3⟩
 have hlt4:∀j,HX hb vh va j->j<w4.heap.size:=by
  rintro j (rfl|hj|hj)
  ·exact hH4.pb.lt
  ·exact (hH4.ol.lt j hj).2
  ·exact (hH4.oa.lt j hj).2
 have hH5:HeapW w5 hb vh va l p:=by
  have hk:∀j,HX hb vh va j->w5.heap[j]? =w4.heap[j]?:=fun j hj=>hbl.block j (hlt4 j hj) (fun e=>(h.rx j e).2 hj);exact ⟨hH4.pb.eq (hk hb (.inl rfl)),Ai hH4.ol (fun j hj=>hk j (.inr (.inl hj))),Ai hH4.oa (fun j hj=>hk j (.inr (.inr hj))),hH4.d1,hH4.d2,hH4.d3⟩
 have hsz5:w4.heap.size<=(w4.alloc o).heap.size:=(Below.of_al w4 o).size;have hlt':∀j,s'.X j->j<w4.heap.size:=fun j hj=>by obtain ⟨i,hi⟩:=hj;exact (hc.core.ge i j hi).2
 refine ⟨?_,hH5,h.ok,h.lp,?_,?_,?_,?_,h.kn,?_,?_,?_,?_⟩
 ·have e:m0+out.length*(n*n)+n*n=m0+(out++[(v:Int)]).length*(n*n):=by
   rw [Bl5,List.length_singleton,Nat.add_mul,Nat.one_mul,Nat.add_assoc]
  rw [<-e];exact hc.off hbl hX5
 ·intro y hy
  obtain ⟨a,b,c⟩:=h.mem y hy;refine ⟨a,?_,c⟩;intro hm
  rcases Bl8.1 hm with hm|hm
  ·exact b hm
  ·rw [Bk2] at hm
   exact (h.hnd v rfl).2.2 y hy hm
 ·intro u hu
  rcases h.all u hu with h4|h4|h4
  ·exact .inl (by simp [h4])
  ·exact .inr (.inl h4)
  ·have:=Bl4 h4
   exact .inl (by simp [<-this])
 ·intro u hu
  cases hu
 ·rw [Bl5,Bm6]
  exact hown
 ·intro j hj
  refine ⟨(h.hx j hj).1,fun h4=>?_⟩
  rcases hX j h4 with h5|h5
  ·exact (h.hx j hj).2 h5
  ·have:j<wr.heap.size:=by
    rcases hj with rfl|hj|hj
    ·exact h.hp.pb.lt
    ·exact (h.hp.ol.lt j hj).2
    ·exact (h.hp.oa.lt j hj).2
   omega
 ·intro j hj
  cases hj
  rcases hat with e|e
  ·refine ⟨fun h4=>hX5 g h4 e,(h.rx g e).2⟩
  ·refine ⟨fun h4=>?_,fun h4=>?_⟩
   ·have:=hlt' g h4;omega
   ·have:=hlt4 g h4;omega
 ·refine (h.off.then' ho h.x).then' hbl ?_
  intro j hj;exact .inr (h.row.lt j hj).1
 ·intro j hj
  rcases hX j hj with h4|h4
  ·exact h.x j h4
  ·exact .inr (by omega)
end
theorem Aq0 (n:Nat):∃B:Nat,∀l:List IK,(∀y∈l,0<=y.2)->wtN l n<=B:=by
 induction n with
 |zero=>exact ⟨0,fun _ _=>Bi7 _⟩
 |succ n ih=>
  obtain ⟨B,hB⟩:=ih;refine ⟨B+18446744073709551616,fun l hl=>Nat.add_le_add (hB l hl) ?_⟩;unfold wt1
  split
  ·rename_i k hk
   unfold Me at hk;rw [Option.map_eq_some_iff] at hk;obtain ⟨y,hy,rfl⟩:=hk;have:=hl y (List.mem_of_find?_eq_some hy);omega
  ·exact Bi8 _
def Vy (A:Int->Int->Int->Prop) (E:Int->Int->Int->Int->Prop) (n cb se:Nat) (hops:Int) (vr:Value) (m0:Nat) (s0:CS) (w0:World) (e:Ending) (w':World):Prop:=
 ∃(out:List Int) (ao:Option Addr) (cap:Nat) (s':CS),e=.returned (.slice ao out.length cap)/\Cel w' ao (out.map Aj)/\CoI A E n cb se hops vr out (m0+out.length*(n*n)) w' s'/\(∀u,Aa n u->u∈out)/\OffX s0.X w0 w'/\∀j,s'.X j->s0.X j\/w0.heap.size<=j
def OJ (A:Int->Int->Int->Prop) (E:Int->Int->Int->Int->Prop) (n cb se:Nat) (hops:Int) (vr:Value) (m0:Nat) (s0:CS) (w0:World) (mm l0:Nat) (a:Act) (wr:World):Prop:=
 l0=0/\∃u,a=lit 70 u/\u 0=.pointer (some ⟨cb,0,none⟩)/\∃(hb:Nat),u 3=.pointer (some ⟨hb,0,none⟩)/\Aside (∃va vh l p out s,OrdS A E n cb se hops vr m0 n s0 w0 (u 2) hb va none vh l p out s wr/\wtN l n<=mm)
theorem Ak0 {A:Int->Int->Int->Prop} {E:Int->Int->Int->Int->Prop} (hA:∀u v w,A u v w->1<=w) (n cb se:Nat) (hops:Int) (vr:Value) (m0:Nat) (w:World) (s:CS) (h:CoI A E n cb se hops vr [] m0 w s)
  (hn:n<=26) (hm:m0+n*(n*n)<=1000000) (hse:se<=1000000) (hvr:∃a n c,vr=.slice a n c):
  Calls Tryz.prog 109 #[.pointer (some ⟨cb,0,none⟩)] w (Vy A E n cb se hops vr m0 s w):=by
 have HM:=Bi5 (fun (out:List Int) (ho:out.length<=n)=>(show m0+out.length*(n*n)<=1000000 from Bi9 (Nat.add_le_add_left (Nat.mul_le_mul_right _ ho) _) hm));have r0:w.cell? ⟨cb,0,none⟩=some (.slice (some ⟨s.ob,0,none⟩) n s.cO):=by
  have:=(h.core.re 0 _ rfl).1;rw [h.cb,h.nn] at this;exact this
 have HX0:=Bi5 (fun j (hj:s.X j)=>(show j<w.heap.size by obtain ⟨i,hi⟩:=hj;exact (h.core.ge i j hi).2));obtain ⟨B,hB⟩:=Aq0 n;have HBD:=Bi5 hB;have HNW:=Bi5 (Mj n (by omega) w);have H:=Bi5 h;have hn2:(n:Int)<=26:=by omega
 clear h hB hm;unfold Vy
 go_enter Tryz.func109,Tryz.ntmps109
 repeat go_step
 refine Ko 0 B (OJ A E n cb se hops vr m0 s w) rfl ?_ ?_ ?_ ?_
 ·rintro m m' l a w' hle ⟨h1,u,h2,h3,hb,h4,h5⟩
  obtain ⟨va,vh,l,p,out,s',h6,h7⟩:=h5;exact ⟨h1,u,h2,h3,hb,h4,va,vh,l,p,out,s',h6,Bi9 h7 hle⟩
 ·intro hcont
  have HCONT:=Bi5 hcont;clear hcont
  go_wp2_with fail
  refine HNW.out.mono ?_;rintro e w1 ⟨hb,a,rfl,hhp,hb1,hb2,hz⟩;have HS0:=Bi5 (show OrdS A E n cb se hops vr m0 0 s w (.slice none 0 0) hb (.slice (some ⟨a,0,none⟩) n n) none (.slice none 0 0) [] (List.replicate n (-1)) [] s w1 from
   ⟨by rw [Bk1,Nat.zero_mul,Nat.add_zero];exact H.out.go hz,hhp,Gb n,by simp,(by simp),(fun u hu=>absurd hu.2 (by have:=hu.1;omega)),(fun u hu=>by cases hu),World.ownsRow_nil _ _ _ _,Bi8 _,
    (by
     rintro j (rfl|hj|hj)
     ·exact ⟨hb1,fun k=>by have:=HX0.out j k;omega⟩
     ·cases hj
     ·obtain rfl:a=j:=Bl4 hj
      exact ⟨hb2,fun k=>by have:=HX0.out _ k;omega⟩),(fun j hj=>by cases hj),.of_below hz,fun j hj=>.inl hj⟩)
  have q0:=Bi6 hz r0;clear hhp hb1 hb2 hz r0 HNW
  go_wp2
  go_loopg [25] n (fun gm v25 wr=>∃k:Nat,k<=n/\n-k<=gm/\v25=.int .i64 k/\Aside (∃vh l p s',OrdS A E n cb se hops vr m0 k s w (.slice none 0 0) hb (.slice (some ⟨a,0,none⟩) n n) none vh l p [] s' wr))
  case atStart=>exact ⟨0,Bi8 _,by omega,rfl,_,_,_,_,HS0.out⟩
  case round=>
   clear HS0 q0;obtain ⟨k,hk,hg,rfl,hs⟩:=hrel;obtain ⟨vh,l,p,s',hs⟩:=hs.out;have HS:=Bi5 hs;clear hs
   by_cases hlt:k<n
   ·have hlt2:(k:Int)<(n:Int):=by omega
    have HN:=Bi5 (HS.out.next hlt);have HKY:=Bi5 (Ag4 n cb se hops vr [] _ wr s' k HS.out.ci hlt hn (HM.out [] (Bi8 _)) hse hvr);unfold Pr at HKY
    go_wp2_with fail
    refine HKY.out.mono ?_;rintro e w2 ⟨d,rfl,hd,hz2⟩;have HN2:=Bi5 (HN.out.go hz2);have hlp:=HN2.out.lp;have HPT:=Bi5 (Hb hb k d vh _ l p w2 HN2.out.hp HN2.out.ok (by omega) (by have:=HN2.out.len;omega));have HD:=Bi5 hd;clear hd hz2 HKY HN hlp
    go_wp2_with fail
    refine HPT.out.mono ?_;intro e w3 hpp;obtain ⟨rfl,vh3,l3,p3,h3,-⟩:=HN2.out.put HD.out hpp;have HS3:=Bi5 h3;clear h3 hpp HPT HN2
    go_wp2
    go_roundg (n-(k+1))
    case measure=>omega
    case rel=>exact ⟨k+1,by omega,Bi7 _,by go_num,_,_,_,_,HS3.out⟩
   ·obtain rfl:k=n:=by omega
    go_wp2
    go_step3
    first
     |refine HCONT.out _ _ ?_
     |(go_step;refine HCONT.out _ _ ?_)
     |(go_step;go_step;refine HCONT.out _ _ ?_)
     |(go_step;go_step;go_step;refine HCONT.out _ _ ?_)
    exact ⟨rfl,_,Aa6 70 _ rfl rfl,rfl,hb,rfl,_,_,_,_,_,_,HS.out,HBD.out _ (fun y hy=>(HS.out.mem y hy).2.2.1)⟩
 ·rintro m a wr ⟨-,u,rfl,h0,hb,h3,h⟩
  obtain ⟨va,vh,l,p,out,s',hs,hwt⟩:=h;simp only [lit,List.range,List.range.loop,List.map_cons,List.map_nil,h0,h3];have HS:=Bi5 hs;have HWT:=Bi5 hwt;have HPP:=Bi5 (Mi hb vh va l p wr hs.hp hs.ok (by have:=hs.len;omega));obtain ⟨v2,hv2⟩:∃v2,v2=u 2:=⟨_,rfl⟩;rw [<-hv2] at HS ⊢;clear hs hwt hv2 h0 h3
  go_wp2_with fail
  refine HPP.out.mono ?_;intro e w1 hpp
  rcases HS.out.pop hpp with ⟨hl,rfl,hs1⟩|⟨v,d,vh1,l1,p1,rfl,hs1,hmem,hleast,hiff⟩
  ·subst hl
   have HS1:=Bi5 hs1;obtain ⟨ao,cap,e2,hce⟩:=Cel.of_owns hs1.row;have HCE:=Bi5 hce;subst e2;clear hs1 hpp HPP hce;unfold Fa
   go_wp2
   simp only [Ty]
   go_ret
   refine ⟨out,ao,cap,s',rfl,HCE.out,HS1.out.ci,?_,HS1.out.off,HS1.out.x⟩;intro u hu
   rcases HS1.out.all u hu with h4|⟨y,hy,_⟩|h4
   ·exact h4
   ·cases hy
   ·cases h4
  ·have HS1:=Bi5 hs1
   have HI1:=Bi5 hiff;have HME:=Bi5 (And.intro hmem hleast);have hvn:v<n:=by have:=(hs1.hnd v rfl).1.2;omega
   have hol:out.length<=n:=Di hs1.ci.nodes.1 hs1.ci.nodes.2;have HKY:=Bi5 (Ag4 n cb se hops vr out _ w1 s' v hs1.ci hvn hn (HM.out out hol) hse hvr);unfold Pr at HKY;clear hs1 hiff hmem hleast hpp HPP hol
   go_wp2_with fail
   refine HKY.out.mono ?_;rintro e w2 ⟨now,rfl,hnow,hz2⟩;have HS2:=Bi5 (HS1.out.go hz2);have HNOW:=Bi5 hnow;have HTP:=Bi5 (Ye hb vh1 va l1 p1 w2 HS2.out.hp);clear hnow hz2 HKY HS1
   go_wp2_with fail
   refine HTP.out.mono ?_;rintro e w3 ⟨rfl,hz3⟩;have HS3:=Bi5 (HS2.out.go hz3);clear HTP HS2 hz3
   by_cases hput:∃x r,l1=x::r/\x.2<now
   ·obtain ⟨x,r,hl1,hlt⟩:=hput
    have HPT:=Bi5 (Hb hb v now vh1 va l1 p1 w3 HS3.out.hp HS3.out.ok (by have:=HS3.out.lp;omega) (by have:=HS3.out.len;omega));have HXM:=Bi5 (show x∈l1 by rw [hl1];simp);have HT:=Bi5 (show Fa l1=.tuple #[.int .i64 x.1,.int .u64 x.2,.bool true] by rw [hl1];rfl);obtain ⟨x1,x2⟩:=x;rw [HT.out];have HLT:=Bi5 hlt;simp only at hlt;clear hl1 HT
    go_wp2_with fail
    refine HPT.out.mono ?_;intro e w4 hpp;obtain ⟨rfl,vh4,l4,p4,h4,h5⟩:=HS3.out.put HNOW.out hpp;have HW4:=Bi5 (Aq1 HS.out.ok.once hvn HME.out.1 (show d<now by have:=HME.out.2 _ ((HI1.out _).1 HXM.out).1;simp only at this;omega) HNOW.out.2 HI1.out h5);have HS4:=Bi5 h4;clear hpp h4 h5 HPT hlt
    go_wp2
    go_step3
    repeat go_step
    rw [Lj];exact ⟨wtN l4 n,by have:=HW4.out.1;have:=HWT.out;omega,rfl,_,Aa6 70 _ rfl rfl,rfl,hb,rfl,va,vh4,l4,p4,out,s',HS4.out,Bi7 _⟩
   ·have HCN:=Bi5 (Mo hA n cb se hops vr out _ w3 s' v HS3.out.ci hvn (HS3.out.hnd v rfl).2.1 hn (by
     have h1:=HM.out (out++[(v:Int)]) (Di (n:=n) (fun u hu=>by
      rcases Bl8.1 hu with hu|hu
      ·exact HS3.out.ci.nodes.1 u hu
      ·rw [Bk2] at hu
       rw [hu];exact (HS3.out.hnd v rfl).1) (by
      rw [List.nodup_append];refine ⟨HS3.out.ci.nodes.2,by simp,?_⟩;intro a ha b hb e;rw [Bk2] at hb;rw [e,hb] at ha;exact (HS3.out.hnd v rfl).2.1 ha))
     rw [Bl5,List.length_singleton,Nat.add_mul,Nat.one_mul] at h1;omega) hse hvr)
    have HWD:=Bi5 (Ay9 (l':=l1) HS.out.ok.once hvn HME.out.1 (HS.out.mem _ HME.out.1).2.2.2 HI1.out);have HTF:Fa l1=Fa []\/∃x1 x2,Fa l1=.tuple #[.int .i64 x1,.int .u64 x2,.bool true]/\¬x2<now:=by
     cases l1 with
     |nil=>exact .inl rfl
     |cons x r=>exact .inr ⟨x.1,x.2,rfl,fun hh=>hput ⟨x,r,rfl,hh⟩⟩
    have HOL:=Bi5 (Di HS3.out.ci.nodes.1 HS3.out.ci.nodes.2);have HRW:=Bi5 HS3.out.row;clear hput;unfold Ps at HCN;have HBW:=Bi5 HS3.out.off.size
    rcases HTF with HTF|⟨x1,x2,HTF,hnl⟩
    all_goals
     rw [HTF];clear HTF
     try unfold Fa
     go_wp2_with fail
     refine HCN.out.mono ?_;rintro e w4 ⟨rfl,s4,hc4,ho4,hx4⟩;have HC4:=Bi5 hc4;have HO4:=Bi5 ho4;have HX4:=Bi5 hx4;have HRW4:=Bi5 (Ai HRW.out (fun k hk=>ho4.block k (HRW.out.lt k hk).2 (HS3.out.rx k hk).1));have HZ4:=Bi5 (Bi9 HBW.out ho4.size);clear hc4 ho4 hx4 HCN
     go_wp2_with (at_builtin;refine Ce w.heap.size 3 _ 1 8 Dc Tryz.underlying25 v2 out.length _ ⟨w4.heap.size,0,none⟩ 1 1 [.int .i64 (v:Int)] rfl rfl (World.ownsRow.alloc HRW4.out _) (cell_one_new _ _ _) (Cr rfl) ⟨rfl,by decide,(by have:=HOL.out;omega),(by have:=HOL.out;omega),(by have:=HZ4.out;simp;omega)⟩ ?_;intro g5 cap5 w5 hown5 hgrow5 hbl5 hat5 hlt5;(have H5:=Bi5 (HS3.out.gone HC4.out HO4.out HX4.out hown5 hgrow5 hat5));clear hown5 hgrow5 hbl5 hat5 hlt5)
     go_step3
     repeat go_step
     rw [Lj];exact ⟨wtN l1 n,by have:=HWD.out;have:=HWT.out;omega,rfl,_,Aa6 70 _ rfl rfl,rfl,hb,rfl,va,vh1,l1,p1,_,s4,H5.out,Bi7 _⟩
 ·rintro m l a wr hl ⟨h,_⟩
  exact absurd h hl
end Go.Proofs.YteaaapdjplbljaaGreat
