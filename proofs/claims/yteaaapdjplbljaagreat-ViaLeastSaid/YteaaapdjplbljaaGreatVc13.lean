/- Parts; no condition. -/
import Derived.Test.YteaaapdjplbljaaGreatVc12
set_option linter.unusedVariables false
set_option linter.unusedSimpArgs false
set_option linter.unnecessarySimpa false
set_option maxRecDepth 100000
set_option maxHeartbeats 8000000
namespace Go.Proofs.YteaaapdjplbljaaGreat
open Go Go.Proofs Go.RowKit Go.Shelf Hp Ch
structure CoI (A:Int->Int->Int->Prop) (E:Int->Int->Int->Int->Prop) (n cb se:Nat) (hops:Int) (vr:Value) (out:List Int) (m:Nat) (wr:World) (s:CS):Prop where
 core:CoreW wr 0 s
 cc:Core A E n out s.c
 gone:∀u,Aa n u->(s.gone.getD u.toNat true=true↔u∈out)
 dep:∀d∈s.dep,0<=d/\d<=out.length
 opt:s.hops=hops/\s.settles=se/\s.vr=vr
 cb:s.cb=cb
 room:Room s m
 nodes:(∀u∈out,Aa n u)/\out.Nodup
section
variable {A:Int->Int->Int->Prop} {E:Int->Int->Int->Int->Prop} {n cb se m:Nat} {hops:Int} {vr:Value} {out:List Int} {w wr:World} {s:CS}
theorem CoI.nn (h:CoI A E n cb se hops vr out m wr s):s.n=n:=h.cc.inv.len
theorem CoI.go (h:CoI A E n cb se hops vr out m wr s) (hb:Below wr.heap.size wr w):CoI A E n cb se hops vr out m w s:=⟨h.core.go hb,h.cc,h.gone,h.dep,h.opt,h.cb,h.room,h.nodes⟩
theorem Di {n:Nat}:∀{out:List Int},(∀u∈out,Aa n u)->out.Nodup->out.length<=n:=by
 intro out h1 h2;have:∀(l:List Int) (r:List Nat),(∀x∈l,∃k∈r,x=(k:Int))->l.Nodup->l.length<=r.length:=by
  intro l
  induction l with
  |nil=>intro r _ _;simp
  |cons x l ih=>
   intro r hr hn;obtain ⟨k,hk,e⟩:=hr x (by simp);obtain ⟨h1,h2⟩:=List.nodup_cons.1 hn;have h3:=ih (r.erase k) (fun y hy=>by
    obtain ⟨j,hj,ej⟩:=hr y (by simp [hy]);refine ⟨j,(List.mem_erase_of_ne ?_).2 hj,ej⟩;rintro rfl;exact h1 (by rw [e,<-ej];exact hy)) h2
   have h4:=List.length_erase_of_mem hk;have h5:=List.length_pos_of_mem hk;simp only [Bk0];omega
 have:=this out (List.range n) (fun x hx=>⟨x.toNat,Bl9.2 (by have:=h1 x hx;omega),by have:=h1 x hx;omega⟩) h2
 simpa using this
theorem CoI.big (h:CoI A E n cb se hops vr out m wr s) (hn:n<=26):4294967296*2 ^ out.length<=(288230376151711744:Int):=by
 have hl:=Di h.nodes.1 h.nodes.2;have h1:(2:Int) ^ out.length<=2 ^ 26:=by
  have:(2:Nat) ^ out.length<=2 ^ 26:=Nat.pow_le_pow_right (by decide) (by omega)
  exact_mod_cast this
 have h2:(2:Int) ^ 26=67108864:=by decide
 omega
theorem CoI.netOK (h:CoI A E n cb se hops vr out m wr s):NetOK s.c.O s.gone (4294967296*2 ^ out.length):=by
 obtain ⟨l1,l2,l3⟩:=h.core.lens;refine ⟨l2,?_⟩;intro u a hu ha;have hn:s.c.O.length=n:=h.cc.inv.len;rw [hn] at hu ⊢;obtain ⟨i,x,h1,h2,h3⟩:=(h.cc.inv.arc u a.1 a.2 hu).1 (by simpa using ha);obtain ⟨y,y1,y2,y3⟩:=h.cc.inv.at1 _ _ _ h1;rw [h2] at y1
 cases y1
 have hm:=Bl3 h2;have he:=h.cc.inv.ends x hm;have hb:=h.cc.big x hm;rw [<-h3,<-y3];exact ⟨he.2.1,he.2.2.2,hb⟩
structure EndsL (n:Nat) (l:List (Int×Int×Int)):Prop where
 ok:∀y∈l,Aa n y.1/\Aa n y.2.1/\y.1≠y.2.1/\1<=y.2.2
theorem Rb {n:Nat} {z:Int}:∀{l:List (Int×Int×Int)} {c:CoreD},InvN n c->EndsL n l->InvN n (Ch.addL c z l)
 |[],c,h,_=>h
 |y::l,c,h,hl=>by
  have hy:=hl.ok y (by simp);exact Rb (l:=l) (h.add (x:=Fg c z y) hy) ⟨fun x hx=>hl.ok x (by simp [hx])⟩
theorem Ap6 {z:Int} {c:CoreD} {l:List (Int×Int×Int)} {j:Nat} (hj:j<l.length):Ch.addL c z (l.take (j+1))=Ed (Ch.addL c z (l.take j)) (Fg (Ch.addL c z (l.take j)) z l[j]):=by
 unfold Ch.addL;rw [Bk3 hj,List.foldl_append];rfl
theorem CoI.kept (h:CoI A E n cb se hops vr out m wr s) (hA:∀u v w,A u v w->1<=w) {z:Nat} (hz:z<n) {l:List (Int×Int×Int)} (hk:KeptI s.c.O s.gone z (Ee s.c.O s.gone z s.c.O.length) s.c.O.length 0 l):KeptOK s.c n out z l/\EndsL n l/\l.length<=n*n:=by
 obtain ⟨l1,l2,l3⟩:=h.core.lens;have hn:s.c.O.length=n:=h.cc.inv.len;have hzN:Aa n (z:Int):=⟨by omega,by omega⟩;have hgl:s.gone.length=n:=by rw [l2];exact hn
 have hok:KeptOK s.c n out z l:=by
  refine KeptI.ok (O:=s.c.O) (mm:=Ee s.c.O s.gone z s.c.O.length) rfl hn h.cc.inv hzN ?_ ?_ (Aa7 s.c.O s.gone (by rw [hn];exact hzN)) ?_ hk hgl
  ·intro u hu hun hm
   have:=(h.gone u hun).2 hm;rw [hu] at this
   cases this
  ·intro u hun hm
   cases e:s.gone.getD u.toNat true with
   |false=>rfl
   |true=>exact absurd ((h.gone u hun).1 e) hm
  ·intro u x y hu hm
   have:=(h.netOK.arcs u (x,y) (by rw [hn];exact hu) hm).1
   rwa [hn] at this
 refine ⟨hok,⟨fun y hy=>?_⟩,?_⟩
 ·obtain ⟨i1,i2,i3,i4,i5,i6,i7,a,b,ia,ib,ie⟩:=hok.is y hy
  have ha:=(h.netOK.arcs y.1 (_,a) (by rw [hn];exact i1) ia).2.1;have hb:=(h.netOK.arcs z (_,b) (by rw [hn];exact hzN) ib).2.1;simp only at ha hb;exact ⟨i1,i2,i7,by omega⟩
 ·have:=hk.len
  rw [hn] at this
  simpa using this
end
structure ConL (s0:CS) (z:Int) (l:List (Int×Int×Int)) (m:Nat) (W2:World) (j:Nat) (s:CS) (wr:World):Prop where
 core:CoreW wr 0 s
 c:s.c=Ch.addL s0.c z (l.take j)
 same:s.gone=s0.gone/\s.dep=s0.dep/\s.hops=s0.hops/\s.settles=s0.settles/\s.vr=s0.vr/\s.cb=s0.cb
 room:Room s (m+j)
 off:OffX s0.X W2 wr
 x:∀k,s.X k->s0.X k\/W2.heap.size<=k
theorem ConL.add {s0 s:CS} {z:Int} {l:List (Int×Int×Int)} {m n j:Nat} {W2 wr wa w':World} {e:Ending} (h:ConL s0 z l m W2 j s wr) (hi:InvN n s0.c) (hl:EndsL n l) (hj:j<l.length) (hb:Below wr.heap.size wr wa) (hp:Kh 0 s (Fg s.c z l[j]) wa e w'):
  e=.returned (.tuple #[])/\∃s',ConL s0 z l m W2 (j+1) s' w':=by
 obtain ⟨s',rfl,h1,h2,h3,h4,h5,h6,h7,h8,h9,h10,h11⟩:=hp;obtain ⟨a1,a2,a3,a4,a5,a6⟩:=h.same;have hI:InvN n s.c:=by rw [h.c];exact Rb hi ⟨fun y hy=>hl.ok y (List.mem_of_mem_take hy)⟩
 have hsz:=hb.size;have hof:=h.off.size;refine ⟨rfl,s',h1,?_,⟨h3.trans a1,h4.trans a2,h5.trans a3,h6.trans a4,h7.trans a5,h8.trans a6⟩,Uk h.room (by rw [show s.n=n from hI.len];exact hI) h2 h9,?_,?_⟩
 ·rw [h2,Ap6 hj,<-h.c]
 ·have ho:=(OffX.of_below (X:=s.X) hb).trans h10
  exact h.off.then' ho h.x
 ·intro k hk
  rcases h11 k hk with h12|h12
  ·exact h.x k h12
  ·exact .inr (by omega)
structure DepI (s1:CS) (n:Nat) (v:Nat) (b d0:Int) (W wr:World) (D:List Int):Prop where
 core:CoreW wr 0 { s1 with dep:=D }
 len:D.length=n
 bd:∀d∈D,0<=d/\d<=b
 at0:D[v]? =some d0
 off:OffX s1.X W wr
theorem Ax2 {s1:CS} {D:List Int} {k:Nat}:CS.X { s1 with dep:=D } k↔s1.X k:=by
 constructor<;>(rintro ⟨i,hi⟩;refine ⟨i,?_⟩;match i with|0|1|2|3|4|5=>exact hi|i+6=>exact hi)
theorem DepI.lt {s1:CS} {n v:Nat} {b d0:Int} {W wr:World} {D:List Int} (h:DepI s1 n v b d0 W wr D) {k:Nat} (hk:s1.X k):k<wr.heap.size:=by
 obtain ⟨i,hi⟩:=Ax2.2 hk;exact (h.core.ge i k hi).2
theorem DepI.go {s1:CS} {n v:Nat} {b d0:Int} {W wr w':World} {D:List Int} {Y:Nat->Prop} (h:DepI s1 n v b d0 W wr D) (ho:OffX Y wr w') (h1:∀k,s1.X k->¬Y k) (h2:∀k,Y k->W.heap.size<=k):DepI s1 n v b d0 W w' D:=
 ⟨h.core.off ho (fun k hk=>h1 k (Ax2.1 hk)),h.len,h.bd,h.at0,h.off.then' ho (fun j hj=>.inr (h2 j hj))⟩
theorem DepI.set {s1:CS} {n v:Nat} {b d0:Int} {W wr:World} {D:List Int} (h:DepI s1 n v b d0 W wr D) {u:Nat} {x:Int} (huv:u≠v) (hx:0<=x/\x<=b):DepI s1 n v b d0 W (wr.setCell ⟨s1.db,u,none⟩ (.int .i64 x)) (D.set u x):=by
 refine ⟨h.core.dset u x,by rw [Bj6];exact h.len,?_,by rw [Bn3 huv];exact h.at0,h.off.trans (.set _ ⟨4,rfl⟩)⟩;intro d hd
 rcases List.mem_or_eq_of_mem_set hd with hd|rfl
 ·exact h.bd d hd
 ·exact hx
theorem Ak2 {w w':World} {r:Nat} (hg:w.grownBy w' (some r)):OffX (· =r) w w':=⟨hg.os,hg.tape,hg.output,hg.size,fun k hk hn=>hg.block k hk (fun e=>hn (Bl4 e))⟩
theorem Yg (w:World) (b i:Nat) (x:Value):w.grownBy (w.setCell ⟨b,i,none⟩ x).drew (some b):=
 ⟨rfl,rfl,rfl,by show w.heap.size<=(w.setCell ⟨b,i,none⟩ x).heap.size;rw [World.size_setCell];exact Bi7 _,fun k _ hk=>Below.heap_setCell _ _ _ _ (fun e=>hk (by rw [e]))⟩
def Ps (A:Int->Int->Int->Prop) (E:Int->Int->Int->Int->Prop) (n cb se:Nat) (hops:Int) (vr:Value) (out:List Int) (m:Nat) (s:CS) (w:World) (e:Ending) (w':World):Prop:=
 e=.returned (.tuple #[])/\∃s',CoI A E n cb se hops vr out m w' s'/\OffX s.X w w'/\∀k,s'.X k->s.X k\/w.heap.size<=k
def Bd3 (O:List (List (Int×Int))) (gone:List Bool) (v:Nat) (W1:World) (v4 v5:Value) (w1:World):Prop:=
 ∃(l:List (Int×Int×Int)) (ao bo:Option Addr) (ca cb:Nat),v4=.slice ao l.length ca/\v5=.slice bo l.length cb/\Cel w1 ao (Aq (l.map (·.2)))/\Cel w1 bo (l.map (fun y=>.int .i64 y.1))/\
  KeptI O gone v (Ee O gone v O.length) O.length 0 l/\Below W1.heap.size W1 w1/\(∀k,(Value.slice ao l.length ca).ownBlock=some k->W1.heap.size<=k)/\(∀k,(Value.slice bo l.length cb).ownBlock=some k->W1.heap.size<=k)
theorem Au2 {f:Int->Option Int} {D:DataW Unit} {u c:Int} (hu:Maps.has D (Su u)=(f u).isSome) (h2:D.atKey (Su u) (.lit (.int .u64 0))=.lit (.int .u64 ((f u).getD 0))) (h3:Maps.has D (Su u)=true):∃x,f u=some x:=by
 rw [h3] at hu
 cases h:f u with
 |some x=>exact ⟨x,rfl⟩
 |none=>rw [h] at hu;cases hu
theorem Af3 {wr:World} {cb fb fo j v:Nat} {y1 y2 y3:Int} {s':CS} (h1:In6 y1) (h2:In6 y2) (h3:In6 (v:Int)) {w1 w2:World} (hb:Below w1.heap.size w1 w2) (h:w1.cell? ⟨wr.heap.size,0,none⟩=some (.int .i64 y2)/\w1.cell? ⟨wr.heap.size,1,none⟩=some (.int .u64 y3)/\w1.cell? ⟨cb,2,none⟩=some (.map (some s'.mb))/\w1.cell? ⟨fb,fo+j,none⟩=some (.int .i64 y1)/\(Instr.lookup 180 (.map (some s'.mb)) (.agg #[.int .i64 y1,.int .i64 (v:Int)]) false).run Tryz.prog w1=.ok (.int .i64 (Ik (s'.c.p y1 v))) w1/\(Instr.lookup 180 (.map (some s'.mb)) (.agg #[.int .i64 (v:Int),.int .i64 y2]) false).run Tryz.prog w1=.ok (.int .i64 (Ik (s'.c.p v y2))) w1/\Aside (MapP w1 s'.mb s'.nb s'.c.p)):w2.cell? ⟨wr.heap.size,0,none⟩=some (.int .i64 y2)/\w2.cell? ⟨wr.heap.size,1,none⟩=some (.int .u64 y3)/\w2.cell? ⟨cb,2,none⟩=some (.map (some s'.mb))/\w2.cell? ⟨fb,fo+j,none⟩=some (.int .i64 y1)/\(Instr.lookup 180 (.map (some s'.mb)) (.agg #[.int .i64 y1,.int .i64 (v:Int)]) false).run Tryz.prog w2=.ok (.int .i64 (Ik (s'.c.p y1 v))) w2/\(Instr.lookup 180 (.map (some s'.mb)) (.agg #[.int .i64 (v:Int),.int .i64 y2]) false).run Tryz.prog w2=.ok (.int .i64 (Ik (s'.c.p v y2))) w2/\Aside (MapP w2 s'.mb s'.nb s'.c.p):=by
 obtain ⟨c0,c1,c2,c3,_,_,hm⟩:=h;have hm2:=hm.out.go hb;exact ⟨Bi6 hb c0,Bi6 hb c1,Bi6 hb c2,Bi6 hb c3,MapP.get hm2 h1 h3,MapP.get hm2 h3 h2,hm2⟩
theorem Mo {A:Int->Int->Int->Prop} {E:Int->Int->Int->Int->Prop} (hA:∀u v w,A u v w->1<=w) (n cb se:Nat) (hops:Int) (vr:Value) (out:List Int) (m:Nat) (w:World) (s:CS) (v:Nat) (h:CoI A E n cb se hops vr out m w s) (hv:v<n) (hvo:(v:Int)∉out)
  (hn:n<=26) (hm:m+n*n<=1000000) (hse:se<=1000000) (hvr:∃a n c,vr=.slice a n c):
  Calls Tryz.prog 110 #[.pointer (some ⟨cb,0,none⟩),.int .i64 (v:Int)] w (Ps A E n cb se hops vr (out++[(v:Int)]) (m+n*n) s w):=by
 have hsn:=h.nn;have hcb:=h.cb;obtain ⟨o1,o2,o3⟩:=h.opt;obtain ⟨l1,l2,l3⟩:=h.core.lens;have hnO:s.c.O.length=n:=h.cc.inv.len;have hrow:∀l∈s.c.O,l.length<=1000000:=fun l hl=>Bi9 (h.room.row l hl) (by omega);have hBb:=h.big hn;have hpw:(0:Int)<=2 ^ out.length:=Int.pow_nonneg (by decide);have HKP:=Bi5 (fun W (hb:Below w.heap.size w W)=>(Xu s.c.O s.gone _ _ vr v se hops (4294967296*2 ^ out.length) W (h.core.go hb).net (by omega) h.netOK ⟨by omega,hBb⟩ hse (by omega) hrow hvr));have HLI:=Bi5 (fun W (hb:Below w.heap.size w W)=>(Hv s.c.O s.gone _ _ v (4294967296*2 ^ out.length) W (h.core.go hb).net (by omega) h.netOK (by omega) (by omega) hrow));have r0:=(h.core.re 0 _ rfl).1;have r1:=(h.core.re 1 _ rfl).1;have r4:=(h.core.re 4 _ rfl).1;have r5:=(h.core.re 5 _ rfl).1;have r6:=(h.core.re 6 _ rfl).1;rw [hcb,hsn] at r0 r1;rw [hcb] at r4 r5 r6;rw [o1] at r4;rw [o2] at r5;rw [o3] at r6;have H:=Bi5 h;have hv0:(0:Int)<=(v:Int):=by omega
 have hv1:(v:Int)<(n:Int):=by omega
 rw [hsn] at HKP HLI;clear h o1 o2 o3 l1 l2 l3 hnO hrow hBb hpw hcb hsn;unfold Ps
 go_enter Tryz.func110,Tryz.ntmps110
 go_upto_region 0 with (fail)
 obtain ⟨W1,hW1⟩:∃W1,W1=w.drew:=⟨_,rfl⟩;have hb1:Below w.heap.size w W1:=by rw [hW1];exact Below.of_dr w 1
 have HK1:=Bi5 (HKP.out w.drew (Below.of_dr w 1));have HB1:=Bi5 hb1;rw [<-hW1] at HK1;have HW1:=Bi5 hW1;clear hW1 HKP hb1;unfold Wd at HK1
 go_cut [4,5] from 14 (fun v4 v5 w1=>Bd3 s.c.O s.gone v W1 v4 v5 w1)
 case first=>
  go_region_with (go_at_call 167;rw [<-HW1.out];refine HK1.out.mono ?_;rintro e w1 ⟨l,ao,bo,ca,cbf,rfl,hcl,hcf,hki,hb2,hfa,hfb⟩;(have HR:=Bi5 (show Bd3 s.c.O s.gone v W1 (.slice ao l.length ca) (.slice bo l.length cbf) w1 from ⟨l,ao,bo,ca,cbf,rfl,rfl,hcl,hcf,hki,hb2,hfa,hfb⟩));clear hcl hcf hki hb2 hfa hfb)
  all_goals
   go_wp2_with fail
   go_meet
   exact HR.out
 case rest=>
 obtain ⟨l,ao,bo,ca,cbf,rfl,rfl,hcl,hcf,hki,hb2,hfa,hfb⟩:=hcut;obtain ⟨w1,hw1⟩:∃w1,w1=wc:=⟨_,rfl⟩;subst hw1;have hb1:=HB1.out;have hB2:=hb1.st hb2;have r0:=Bi6 hB2 r0;have r1:=Bi6 hB2 r1;have HB2:=Bi5 hB2;have HCL:=Bi5 hcl;have HCF:=Bi5 hcf;obtain ⟨hok,hends,hll⟩:=H.out.kept hA hv hki;have HOK:=Bi5 hok;have HEN:=Bi5 hends;have HLL:=Bi5 hll;have HFA:=Bi5 (And.intro hfa hfb);have HL2:=Bi5 (HLI.out w1 hB2);clear hcl hcf hki hb2 hfa hfb hB2 hb1 hok hends hll HLI HK1 r4 r5 r6 HW1;unfold Sd at HL2
 go_wp2_with fail
 refine HL2.out.mono ?_;rintro e W2 ⟨bt,bf,rfl,hmt,hmf,hne,hbt,hbf,hb3⟩;have HMT:=Bi5 hmt;have HMF:=Bi5 hmf;have HNE:=Bi5 (And.intro hne (And.intro (Bi9 HB2.out.size hbt) (Bi9 HB2.out.size hbf)));have hB3:=HB2.out.st hb3;have HB3:=Bi5 hB3;have HCL2:=Bi5 (HCL.out.go hb3);have HCF2:=Bi5 (HCF.out.go hb3);have HLT:=Bi5 (Aa7 s.c.O s.gone (v:=(v:Int)) ⟨by omega,by rw [show s.c.O.length=n from H.out.nn];omega⟩);have HS2:=Bi5 (show ConL s (v:Int) l m W2 0 s W2 from ⟨H.out.core.go hB3,rfl,⟨rfl,rfl,rfl,rfl,rfl,rfl⟩,H.out.room,OffX.of_below (Below.refl _ _),fun k hk=>.inl hk⟩);have HX0:=Bi5 (fun k (hk:s.X k)=>(show k<w.heap.size by obtain ⟨i,hi⟩:=hk;exact (H.out.core.ge i k hi).2));have hmm:m+l.length<=1000000:=by have:=HLL.out;omega
 have HM1:=Bi5 hmm;have hlen:(l.length:Int)<=1000000:=by omega
 clear hmt hmf hne hbt hbf hb3 hB3 HCL HCF HL2 r0 r1 hmm
 go_wp2
 go_loopg [38] l.length (fun gm v38 wr=>∃j:Nat,j<=l.length/\l.length-j<=gm/\v38=.int .i64 j/\Aside (∃s',ConL s (v:Int) l m W2 j s' wr))
 case atStart=>exact ⟨0,Bi8 _,by omega,rfl,_,HS2.out⟩
 case round=>
  obtain ⟨j,hj,hg,rfl,hs⟩:=hrel;obtain ⟨s',hs⟩:=hs.out;have HBS:=Bi5 hs;clear hs HS2
  by_cases hlt:j<l.length
  ·have hlt2:(j:Int)<(l.length:Int):=by omega
   have hj0:(0:Int)<=(j:Int):=by omega
   have hml:j<(l.map (·.2)).length:=by simpa using hlt
   obtain ⟨x0,x1⟩:=Ay (l.map (·.2)) j hml;have hgI:gI (l.map (·.2)) j=l[j].2:=by rw [Jg hml];simp
   rw [hgI] at x0 x1;have x2:(l.map (fun y=>Value.int .i64 y.1))[j]? =some (.int .i64 l[j].1):=by simp [hlt]
   obtain ⟨lb,lo,e,y0⟩:=HCL2.out (j*2) _ x0;subst e;obtain ⟨lb',lo',e,y1⟩:=HCL2.out (j*2+1) _ x1
   cases e
   obtain ⟨fb,fo,e,y2⟩:=HCF2.out j _ x2;subst e;have hnl:¬s.X lb:=fun k=>by have:=HFA.out.1 lb rfl;have:=HX0.out _ k;have:=HB1.out.size;omega
   have hnf:¬s.X fb:=fun k=>by have:=HFA.out.2 fb rfl;have:=HX0.out _ k;have:=HB1.out.size;omega
   have z0:=HBS.out.off.cell y0 hnl;have z1:wr.cell? ⟨lb,lo+j*2+1,none⟩=some (.int .u64 l[j].2.2):=HBS.out.off.cell y1 hnl;have z2:=HBS.out.off.cell y2 hnf;have hcb:s'.cb=cb:=HBS.out.same.2.2.2.2.2.trans H.out.cb;have hI:InvN n s'.c:=by rw [HBS.out.c];exact Rb H.out.cc.inv ⟨fun y hy=>HEN.out.ok y (List.mem_of_mem_take hy)⟩
   have hye:=HEN.out.ok l[j] (Bj7 hlt);have HADD:=Bi5 (fun W (hb:Below wr.heap.size wr W)=>(Ai1 0 s' (Fg s'.c (v:Int) l[j]) W (HBS.out.core.go hb) (by rw [show s'.n=n from hI.len];exact hI) (by rw [show s'.n=n from hI.len];exact ⟨hye.1,hye.2.1⟩) (HBS.out.room.mono (by have:=HM1.out;omega)):
    Calls Tryz.prog 161 #[.pointer (some ⟨s'.cb,0,none⟩),.agg #[.int .i64 l[j].1,.int .i64 l[j].2.1,.int .u64 l[j].2.2,.int .i64 (-1),.int .i64 (Ik (s'.c.p l[j].1 v)),.int .i64 (Ik (s'.c.p v l[j].2.1))]] W (Kh 0 s' (Fg s'.c (v:Int) l[j]) W)))
   rw [hcb] at HADD;have HNX:=Bi5 (fun wa w' e (hb:Below wr.heap.size wr wa) hp=>HBS.out.add (wa:=wa) (w':=w') (e:=e) H.out.cc.inv HEN.out hlt hb hp);have r2:wr.cell? ⟨cb,2,none⟩=some (.map (some s'.mb)):=by rw [<-hcb];exact (HBS.out.core.re 2 _ rfl).1
   have h61:In6 l[j].1:=⟨by have:=hye.1.1;omega,by have:=hye.1.2;omega⟩;have h62:In6 l[j].2.1:=⟨by have:=hye.2.1.1;omega,by have:=hye.2.1.2;omega⟩;have h6v:In6 (v:Int):=⟨by omega,by omega⟩;have HMP:=Bi5 HBS.out.core.mp;clear hcb hI hye x0 x1 x2 y0 y1 y2 hnl hnf hgI hml;generalize l[j]=y at*;obtain ⟨y1,y2,y3⟩:=y;simp only at z0 z1 z2 h61 h62 HADD
   go_upto_region 5 with (fail)
   obtain ⟨W5,hW5⟩:∃W5,W5=wr.alloc (Obj.cells #[.int .i64 y2,.int .u64 y3] 253):=⟨_,rfl⟩;have hb5:Below wr.heap.size wr W5:=by rw [hW5];exact Below.of_al _ _
   have q0:W5.cell? ⟨wr.heap.size,0,none⟩=some (.int .i64 y2):=by rw [hW5];go_simp
   have q1:W5.cell? ⟨wr.heap.size,1,none⟩=some (.int .u64 y3):=by rw [hW5];go_simp
   have p2:=Bi6 hb5 r2;have p3:=Bi6 hb5 z2;have HSZ5:=Bi5 (show W5.heap.size=wr.heap.size+1 by rw [hW5];simp);have k1:=MapP.get (w:=W5) (HMP.out.go hb5) h61 h6v;have k2:=MapP.get (w:=W5) (HMP.out.go hb5) h6v h62;have hS:W5.cell? ⟨wr.heap.size,0,none⟩=some (.int .i64 y2)/\W5.cell? ⟨wr.heap.size,1,none⟩=some (.int .u64 y3)/\W5.cell? ⟨cb,2,none⟩=some (.map (some s'.mb))/\W5.cell? ⟨fb,fo+j,none⟩=some (.int .i64 y1)/\(Instr.lookup 180 (.map (some s'.mb)) (.agg #[.int .i64 y1,.int .i64 (v:Int)]) false).run Tryz.prog W5=.ok (.int .i64 (Ik (s'.c.p y1 v))) W5/\(Instr.lookup 180 (.map (some s'.mb)) (.agg #[.int .i64 (v:Int),.int .i64 y2]) false).run Tryz.prog W5=.ok (.int .i64 (Ik (s'.c.p v y2))) W5/\Aside (MapP W5 s'.mb s'.nb s'.c.p):=⟨q0,q1,p2,p3,k1,k2,HMP.out.go hb5⟩;have HB5:=Bi5 hb5;rw [<-hW5];clear hW5 hb5 r2 z0 z1 z2 q0 q1 p2 p3 k1 k2;have HSS:=Bi5 hS;clear hS
   go_region_held3 (fun w'=>w'.cell? ⟨wr.heap.size,0,none⟩=some (.int .i64 y2)/\w'.cell? ⟨wr.heap.size,1,none⟩=some (.int .u64 y3)/\w'.cell? ⟨cb,2,none⟩=some (.map (some s'.mb))/\w'.cell? ⟨fb,fo+j,none⟩=some (.int .i64 y1)/\(Instr.lookup 180 (.map (some s'.mb)) (.agg #[.int .i64 y1,.int .i64 (v:Int)]) false).run Tryz.prog w'=.ok (.int .i64 (Ik (s'.c.p y1 v))) w'/\(Instr.lookup 180 (.map (some s'.mb)) (.agg #[.int .i64 (v:Int),.int .i64 y2]) false).run Tryz.prog w'=.ok (.int .i64 (Ik (s'.c.p v y2))) w'/\Aside (MapP w' s'.mb s'.nb s'.c.p)) (first|exact Af3 h61 h62 h6v (Below.refl _ W5).drew HSS.out|exact Af3 h61 h62 h6v (Below.of_al W5 _).drew HSS.out) (first|fail)
   all_goals
    go_wp2_with fail
    have hbw:=(HB5.out.alloc (by have:=HB5.out.size;omega) (Obj.cells #[.int .i64 y1,.int .i64 y2,.int .u64 y3,.int .i64 (-1),.int .i64 (Ik (s'.c.p y1 ↑v)),.int .i64 (Ik (s'.c.p ↑v y2))] 187)).drew;refine (HADD.out _ hbw).mono ?_;rintro e w' hp;obtain ⟨rfl,hs'⟩:=HNX.out _ _ _ hbw hp;have HS':=Bi5 hs';clear hs' hp HADD HNX hbw
    go_wp2
    go_roundg (l.length-(j+1))
    case measure=>omega
    case rel=>exact ⟨j+1,by omega,Bi7 _,by go_num,HS'.out⟩
  ·obtain rfl:j=l.length:=by omega
   clear hlt hg hj HCL2 HCF2 HFA hlen;obtain ⟨a1,a2,a3,a4,a5,a6⟩:=HBS.out.same;have hcb:s'.cb=cb:=a6.trans H.out.cb;have hnn:s'.n=n:=by
    have:=HBS.out.core.lens.2.1;rw [a1,H.out.core.lens.2.1] at this;rw [<-this];exact H.out.nn
   have r1:wr.cell? ⟨cb,1,none⟩=some (.slice (some ⟨s'.gb,0,none⟩) n s'.cG):=by rw [<-hcb,<-hnn];exact (HBS.out.core.re 1 _ rfl).1
   have z0:wr.frozen? ⟨s'.gb,v,none⟩=false:=HBS.out.core.gon.frozenAt v;have hlg:s'.gone.length=n:=HBS.out.core.lens.2.1.trans hnn;have z1:=(HBS.out.core.gon.cellAt v (by rw [hnn];omega)).trans (show (s'.gone.map Ip)[v]? =some (Ip (s'.gone[v]'(by omega))) by simp [hlg,hv]);have HC3:=Bi5 (HBS.out.core.gset v true);have hld:s'.dep.length=n:=HBS.out.core.lens.2.2.trans hnn;have HD0:=Bi5 (show DepI { s' with gone:=s'.gone.set v true } n v (out.length+1) (s'.dep[v]'(by omega)) (wr.setCell ⟨s'.gb,v,none⟩ (.bool true)) (wr.setCell ⟨s'.gb,v,none⟩ (.bool true)) s'.dep from
    ⟨HC3.out,hld,fun d hd=>by have:=H.out.dep d (by rw [<-a2];exact hd);omega,Bj0 _,.of_below (Below.refl _ _)⟩)
   have hd0:=H.out.dep (s'.dep[v]'(by omega)) (by rw [<-a2];exact Bj7 _);generalize s'.dep[v]'(by omega)=d0 at HD0 hd0
   go_wp2
   obtain ⟨s1,hs1⟩:∃s1:CS,s1={ s' with gone:=s'.gone.set v true }:=⟨_,rfl⟩;obtain ⟨W3,hW3⟩:∃W3,W3=wr.setCell ⟨s'.gb,v,none⟩ (.bool true):=⟨_,rfl⟩;rw [<-hs1,<-hW3] at HD0;have hX1:∀k,s1.X k↔s'.X k:=by
    intro k;rw [hs1];constructor<;>(rintro ⟨i,hi⟩;refine ⟨i,?_⟩;match i with|0|1|2|3|4|5=>exact hi|i+6=>exact hi)
   have hoff:OffX s.X W2 W3:=by
    rw [hW3];refine HBS.out.off.then' (Y:=s'.X) (.set _ ⟨2,rfl⟩) HBS.out.x
   have hbn:∀b,w.heap.size<=b->b<W2.heap.size->¬s1.X b:=by
    intro b h1 h2 h3
    rcases HBS.out.x b ((hX1 b).1 h3) with h4|h4
    ·have:=HX0.out b h4;omega
    ·omega
   have nt:=hbn bt HNE.out.2.1 HMT.out.lt;have nf:=hbn bf HNE.out.2.2 HMF.out.lt;have sx0:∀b,w.heap.size<=b->¬s.X b:=fun b h1 h2=>by have:=HX0.out b h2;omega
   have HM3:=Bi5 (And.intro (HMT.out.off hoff (sx0 _ HNE.out.2.1)) (HMF.out.off hoff (sx0 _ HNE.out.2.2)));have HO3:=Bi5 hoff;have HNB:=Bi5 (And.intro nt nf);have hcb1:s1.cb=cb:=by rw [hs1];exact hcb
   have hn1:s1.n=n:=by rw [hs1];exact hnn
   have HS1:=Bi5 (And.intro hs1 hW3);have HX1:=Bi5 hX1;have HDD:=Bi5 hd0;have hd1:=hd0.1;have hol:=Di H.out.nodes.1 H.out.nodes.2;have hd2:d0<=26:=by have:=hd0.2;omega
   rw [<-hW3];clear hW3 hs1 hX1 hoff hbn nt nf sx0 hd0 hol a1 a2 a3 a4 a5 a6 r0 r1 z0 z1 hlg hld HC3 hcb hnn
   go_loopg [86] 2 (fun gm v86 wr=>∃k:Nat,k<=2/\2-k<=gm/\v86=.int .i64 k/\Aside (∃D,DepI s1 n v (out.length+1) d0 W3 wr D))
   case atStart=>exact ⟨0,by omega,by omega,rfl,_,HD0.out⟩
   case round=>
    clear HD0;obtain ⟨k,hk,hg,rfl,hd⟩:=hrel;obtain ⟨wo,hwo⟩:∃wo,wo=wr:=⟨_,rfl⟩;subst hwo;obtain ⟨D,hd⟩:=hd.out;have HD:=Bi5 hd;clear hd
    by_cases hlt:k<2
    ·have hlt2:(k:Int)<2:=by omega
     obtain ⟨bb,f,hidx,hm,hkey,hbb⟩:∃bb f,(∀w,(Instr.index 255 (.agg #[.map (some bt),.map (some bf)]) (.int .i64 (k:Int))).run Tryz.prog w=.ok (.map (some bb)) w)/\MapW W3 bb 100000000000000000 f/\(∀u x,f u=some x->Aa n u/\u≠v)/\¬s1.X bb:=by
      have hO:s.c.O.length=n:=H.out.nn
      match k,hlt with
      |0,_=>
       refine ⟨bt,_,fun _=>by kernel_rfl,HM3.out.1,?_,HNB.out.1⟩;intro u x hx;obtain ⟨⟨h1,h2,h3⟩,h4,-⟩:=(HLT.out.to u).1 x hx;rw [hO] at h1;exact ⟨h1,h4⟩
      |1,_=>
       refine ⟨bf,_,fun _=>by kernel_rfl,HM3.out.2,?_,HNB.out.2⟩;intro u x hx;obtain ⟨h1,h4,-⟩:=(HLT.out.fr u).1 x hx;have:=(H.out.netOK.arcs v (u,x) (by rw [hO];exact ⟨by omega,by omega⟩) h1).1;rw [hO] at this;exact ⟨this,h4⟩
     have HKEY:=Bi5 hkey;have HMB:=Bi5 (hm.off HD.out.off hbb);have HBB:=Bi5 hbb;clear hm hkey hbb;obtain ⟨DM,hown,hq⟩:=HMB.out;have HQ:=Bi5 hq;clear hq
     go_wp2_with (at_range;refine wpList_range_own _ rfl _ 148 rfl 3 37 Ma Lz _ bb 100000000000000000 DM rfl hown ?_;intro w0 hrg0 hg0 hs0)
     go_frame
     have hbw0:Below wo.heap.size wo w0:=(Below.refl _ _).grown hg0 (Bi7 _) (fun j hj=>by cases hj);have hWo:=HD.out.off.size;have HD1:=Bi5 (HD.out.go (.of_below hbw0) (Y:=fun _=>False) (fun _ _ h=>h) (fun _ h=>h.elim));have HRS:=Bi5 (fun k (hk:s1.X k)=>(show k≠wo.heap.size by have:=HD.out.lt hk;omega));have HWO:=Bi5 hWo;obtain ⟨R,hR⟩:∃R,R=wo.heap.size:=⟨_,rfl⟩;rw [<-hR] at hrg0 HRS HWO ⊢;have HSZ0:=Bi5 (show w0.heap.size=R+1 by rw [hs0,hR]);clear hbw0 hWo hs0 hg0 hown HMB hidx hR HD
     go_loopg [13] (Maps.size DM) (fun gm v13 wr=>∃(left:Lit->Bool) (cnt:Nat),cnt<=gm/\wr.ranges Tryz.prog 3 (plainElem Tryz.prog 37) bb R 100000000000000000 DM left cnt/\Aside (∀kl,left kl=true->Maps.has DM kl=true)/\Aside (∃D,DepI s1 n v (out.length+1) d0 W3 wr D))
     case atStart=>exact ⟨_,_,Bi7 _,hrg0,fun _ h=>h,_,HD1.out⟩
     case round=>
      clear HD1 hrg0;obtain ⟨left,cnt,hcg,hrg,hsub,hd⟩:=hrel;obtain ⟨D,hd⟩:=hd.out;have HD:=Bi5 hd;have HSUB:=Bi5 hsub.out;clear hd hsub
      go_wp2_with (at_next;refine wpList_next_ranges_ii _ rfl _ rfl 3 37 .i64 .u64 Ma Tryz.underlying3 Tryz.underlying37 bb R 100000000000000000 DM left cnt rfl hrg ?_ ?_)
      ·intro hc0 hl0
       go_wp2
       go_roundg (2-(k+1))
       case measure=>omega
       case rel=>exact ⟨k+1,by omega,Bi7 _,by go_num,_,HD.out⟩
      ·intro x c w4 cnt4 hwx hwc hlx hat hrg4 hlt4 hg4 hs4 hen
       have h6:In6 x:=by
        have:=hwx;simp [Lit.wf,IntKind.min,IntKind.max,IntKind.signed,IntKind.bits] at this;exact ⟨by omega,by omega⟩
       obtain ⟨q1,q2⟩:=HQ.out x h6;obtain ⟨y,hy⟩:=Au2 (c:=c) q1 q2 (HSUB.out _ hlx);obtain ⟨hxn,hxv⟩:=HKEY.out x y hy;have hd4:DepI s1 n v (out.length+1) d0 W3 w4 D:=HD.out.go (Ak2 hg4) HRS.out (fun k hk=>by rw [show k=R from hk];exact HWO.out);obtain ⟨u,rfl⟩:∃u:Nat,x=(u:Int):=⟨x.toNat,by have:=hxn.1;omega⟩;have hun:u<n:=by have:=hxn.2;omega
       have huv:u≠v:=fun e=>hxv (by rw [e]);have HD4:=Bi5 hd4;have r7:w4.cell? ⟨cb,7,none⟩=some (.slice (some ⟨s1.db,0,none⟩) n s1.cD):=by
        have:=(hd4.core.re 7 _ rfl).1;rw [show CS.n { s1 with dep:=D }=n from hn1] at this;rw [<-hcb1];exact this
       have hlD:=hd4.len;have cu:w4.cell? ⟨s1.db,u,none⟩=some (.int .i64 (D[u]'(by omega))):=(hd4.core.dp.cellAt u (by show u<s1.n*1;rw [hn1];omega)).trans (show (D.map Aj)[u]? =some (.int .i64 (D[u]'(by omega))) by simp [hlD,hun]);have cv:w4.cell? ⟨s1.db,v,none⟩=some (.int .i64 d0):=(hd4.core.dp.cellAt v (by show v<s1.n*1;rw [hn1];omega)).trans (show (D.map Aj)[v]? =some (.int .i64 d0) by rw [Bk4,hd4.at0];rfl);have zu:w4.frozen? ⟨s1.db,u,none⟩=false:=hd4.core.dp.frozenAt u;have hbu:=hd4.bd _ (Bj7 (by omega:u<D.length));have HSET:=Bi5 (fun x hx=>hd4.set (u:=u) (x:=x) huv hx);generalize D[u]'(by omega)=du at cu hbu;have HR4:=Bi5 hrg4;have HSB:=Bi5 (show ∀kl,(left kl&&!kl.sameKey (Lit.int IntKind.i64 ↑u))=true->Maps.has DM kl=true from fun kl hkl=>HSUB.out kl (by simp at hkl;exact hkl.1));have hu0:(0:Int)<=(u:Int):=by omega
       have hu1:(u:Int)<(n:Int):=by omega
       have HLT4:=Bi5 (Nat.lt_of_lt_of_le hlt4 hcg);have HB4:=Bi5 (show bb≠s1.db/\R≠s1.db from ⟨fun e=>HBB.out (by rw [e];exact ⟨4,rfl⟩),fun e=>HRS.out s1.db ⟨4,rfl⟩ e.symm⟩);have HRR:=Bi5 (fun x=>HR4.out.kept (Yg w4 s1.db u x) (fun e=>HB4.out.1 (Bl4 e)) (fun e=>HB4.out.2 (Bl4 e)));have hb3:=hbu.1;have hb4:=hbu.2;have HDN1:=Bi5 ((HSET.out du ⟨hb3,hb4⟩).go (.of_below (Below.of_dr _ 1)) (Y:=fun _=>False) (fun _ _ h=>h) (fun _ h=>h.elim));have HDN2:=Bi5 ((HSET.out (d0+1) ⟨by omega,by have:=HDD.out.2;omega⟩).go (.of_below (Below.of_dr _ 1)) (Y:=fun _=>False) (fun _ _ h=>h) (fun _ h=>h.elim));have HDN3:=Bi5 ((HSET.out (max du (d0+1)) ⟨by omega,by have:=HDD.out.2;omega⟩).go (.of_below (Below.of_dr _ 1)) (Y:=fun _=>False) (fun _ _ h=>h) (fun _ h=>h.elim));have hol:(out.length:Int)<=26:=by have:=Di H.out.nodes.1 H.out.nodes.2;omega
       clear hlx hat hrg4 hrg hwx hwc q1 q2 hy hxn hxv huv hlD hd4 hg4 hs4 hlt4 hbu
       go_wp2
       go_region
       go_wp2
       all_goals
        go_roundg cnt4
        case measure=>exact HLT4.out
        case rel=>exact ⟨_,cnt4,Bi7 _,HRR.out _,HSB.out,(by first|exact ⟨_,HDN1.out⟩|exact ⟨_,HDN2.out⟩|exact ⟨_,HDN3.out⟩)⟩
    ·obtain rfl:k=2:=by omega
     go_wp2
     refine bodyPost_end (results_none rfl _ _ _) rfl ?_;obtain ⟨hs1,hW3⟩:=HS1.out;obtain ⟨a1,a2,a3,a4,a5,a6⟩:=HBS.out.same;have hX:∀k,s1.X k->s.X k\/W2.heap.size<=k:=fun k hk=>HBS.out.x k ((HX1.out k).1 hk);have hz:Aa n (v:Int):=⟨by omega,by omega⟩;have hco:=H.out.cc.go hA hz hvo HOK.out;have hcs:s1.c=Ch.addL s.c v l:=by
      rw [hs1]
      show s'.c=_
      rw [HBS.out.c,Bn1]
     have ho2:OffX s.X w W3:=(OffX.of_below HB3.out).trans HO3.out;refine ⟨rfl,{ s1 with dep:=D },⟨HD.out.core,by show Core A E n _ s1.c;rw [hcs];exact hco,?_,?_,?_,hcb1,?_,?_⟩,?_,?_⟩
     ·intro u hu
      have hg:s1.gone=s.gone.set v true:=by rw [hs1];show s'.gone.set v true=_;rw [a1]
      show s1.gone.getD u.toNat true=true↔_
      rw [hg,Dw _ _ _ _ _ (by rw [H.out.core.lens.2.1,H.out.nn];exact hv)]
      by_cases e:u.toNat=v
      ·rw [if_pos e]
       have:u=(v:Int):=by have:=hu.1;omega
       simp [this]
      ·rw [if_neg e,H.out.gone u hu]
       have:u≠(v:Int):=by rintro rfl;exact e (by simp)
       simp [this]
     ·intro d hd
      have:=HD.out.bd d hd;rw [Bl5];exact ⟨this.1,by simpa using this.2⟩
     ·obtain ⟨o1,o2,o3⟩:=H.out.opt
      rw [hs1];exact ⟨a3.trans o1,a4.trans o2,a5.trans o3⟩
     ·have hr:=HBS.out.room
      have hll:=HLL.out;refine ⟨?_,?_,?_,?_⟩
      ·show s1.c.O.length<=_
       have:s1.c.O.length=n:=hn1;omega
      ·show s1.c.S.length<=_
       rw [hs1];have:=hr.S
       show s'.c.S.length<=_
       omega
      ·intro r hr2
       have hr3:r∈s'.c.O:=by rw [hs1] at hr2;exact hr2
       have:=hr.row r hr3;omega
      ·show s1.nb<=_
       rw [hs1];have:=hr.nb
       show s'.nb<=_
       omega
     ·refine ⟨?_,?_⟩
      ·intro u hu
       rcases Bl8.1 hu with hu|hu
       ·exact H.out.nodes.1 u hu
       ·rw [Bk2] at hu
        rw [hu];exact hz
      ·rw [List.nodup_append]
       refine ⟨H.out.nodes.2,by simp,?_⟩;intro a ha b hb e;rw [Bk2] at hb;rw [e,hb] at ha;exact hvo ha
     ·refine ho2.then' HD.out.off ?_
      intro k hk
      rcases hX k hk with h|h
      ·exact .inl h
      ·exact .inr (by have:=HB3.out.size;omega)
     ·intro k hk
      rcases hX k (Ax2.1 hk) with h|h
      ·exact .inl h
      ·exact .inr (by have:=HB3.out.size;omega)
end Go.Proofs.YteaaapdjplbljaaGreat
