/- Parts; no condition. -/
import Derived.Test.YteaaapdjplbljaaGreatVa34
import Derived.Test.YteaaapdjplbljaaGreatVa33
set_option linter.unusedVariables false
set_option linter.unusedSimpArgs false
set_option linter.unnecessarySimpa false
set_option maxRecDepth 100000
set_option maxHeartbeats 8000000
namespace Go.Proofs.YteaaapdjplbljaaGreat
section
open Go Go.Proofs Go.RowKit Go.Shelf Hp Ch
def Bj2 (w:World) (hb:Nat) (g:GD) (R:List Int) (S:List SC) (out:List Int):Prop:=
 HierM w hb g.n.toNat g.es R S (An R S g.n.toNat S.length).1 (An R S g.n.toNat S.length).2/\HierOK g.es g.n.toNat R S out
def BltPost (g:GD) (k:Int) (w:World) (e:Ending) (w':World):Prop:=
 ((k=0/\∃hb R S out,e=.returned (.tuple #[.pointer (some ⟨hb,0,none⟩),.int .i64 0])/\Bj2 w' hb g R S out)\/(k≠0/\e=.returned (.tuple #[.pointer none,.int .i64 k])))/\Below w.heap.size w w'
def BltPost2 (r:List Int) (g:GD) (k:Int) (w:World) (e:Ending) (w':World):Prop:=
 ((k=0/\∃hb R S out,e=.returned (.tuple #[.pointer (some ⟨hb,0,none⟩),.int .i64 0])/\Bj2 w' hb g R S out/\(r≠[]->R=r))\/(k≠0/\e=.returned (.tuple #[.pointer none,.int .i64 k])))/\Below w.heap.size w w'
theorem BltPost2.weak {r:List Int} {g:GD} {k:Int} {w w':World} {e:Ending} (h:BltPost2 r g k w e w'):BltPost g k w e w':=
 ⟨h.1.imp (fun ⟨a,hb,R,S,out,b,c,_⟩=>⟨a,hb,R,S,out,b,c⟩) id,h.2⟩
theorem BltPost2.bad {r:List Int} {g:GD} {k:Int} {w w':World} (h:k≠0) (hb:Below w.heap.size w w'):BltPost2 r g k w (.returned (.tuple #[.pointer none,.int .i64 k])) w':=⟨.inr ⟨h,rfl⟩,hb⟩
theorem Af5 (g:GD) (ao ro:Option Addr) (cap rc:Nat) (hops settles:Int) (r:List Int) (w:World) (hc:Cel w ao (Ar g.es)) (hr:Cel w ro (r.map Ai)) (hg:Aj g=0->g.n<=26) (hl:g.es.length<=1000) (hrl:r.length<=1000000):
  Calls Tryz.prog 13 #[.agg #[.int .i64 g.n,.slice ao g.es.length cap],.agg #[.int .i64 hops,.int .i64 settles,.slice ro r.length rc]] w (BltPost2 r g (Dq g hops settles r) w):=by
 obtain ⟨W,hW⟩:∃W,W=(w.alloc (Obj.cells #[.int .i64 g.n,.slice ao g.es.length cap] 24)).alloc (Obj.cells #[.int .i64 hops,.int .i64 settles,.slice ro r.length rc] 27):=⟨_,rfl⟩;have hbw:Below w.heap.size w W:=by rw [hW];exact (Below.of_al _ _).al _
 have c0:W.cell? ⟨w.heap.size,0,none⟩=some (.int .i64 g.n):=by rw [hW];go_simp
 have c1:W.cell? ⟨w.heap.size,1,none⟩=some (.slice ao g.es.length cap):=by rw [hW];go_simp
 have d0:W.cell? ⟨w.heap.size+1,0,none⟩=some (.int .i64 hops):=by rw [hW];go_simp
 have d1:W.cell? ⟨w.heap.size+1,1,none⟩=some (.int .i64 settles):=by rw [hW];go_simp
 have d2:W.cell? ⟨w.heap.size+1,2,none⟩=some (.slice ro r.length rc):=by rw [hW];go_simp
 have HBU:=Bj3 (Aq5 g ao ro cap rc hops settles r W (hc.go hbw) (hr.go hbw) hg hl hrl);have HC:=Bj3 (hc.go hbw);have HB:=Bj3 hbw;have HW:=Bj3 hW;have HG:=Bj3 hg;have HZ:=Bj3 (show Dq g hops settles r=0->Aj g=0 from fun h=>by
  unfold Dq at h
  split at h
  ·cases h
  ·rename_i hn
   exact Decidable.byContradiction fun e=>hn (.inl e))
 generalize Dq g hops settles r=k at*;unfold Ga at HBU;clear hW hbw hc hr hg
 go_enter Tryz.func13,Tryz.ntmps13
 go_upto_region 1 with (fail)
 rw [<-HW.out]
 go_upto_if 15 with (go_at_call 58;refine HBU.out.mono ?_;rintro e w1 ⟨R,S,a1,a2,k1,k2,rfl,h1,h2,h3,h4,hb1,h5,h6,h7⟩;(have H7:=Bj3 h7);(have H1:=Bj3 (And.intro h1 (And.intro h2 (And.intro h3 (And.intro h4 (And.intro h5 h6))))));(have HB1:=Bj3 hb1);(have c0':=Bj4 hb1 c0);(have c1':=Bj4 hb1 c1);clear h1 h2 h3 h4 hb1 h5 h6 h7)
 by_cases hk:k=0
 ·subst hk
  have hgz:=HZ.out rfl;obtain ⟨gn,es⟩:=g;have hn1:=Py hgz;have hn2:=HG.out hgz;simp only at hn1 hn2 hl c0 c1 c0' c1' HC;obtain ⟨n,rfl⟩:∃n:Nat,gn=(n:Int):=⟨gn.toNat,by omega⟩;obtain ⟨h1,h2,h3,-,h5,h6⟩:=H1.out;obtain ⟨out,ho⟩:=BuiltOK.hier (Hq hgz rfl) (h3 rfl);have hba:=Below.of_al w1 (Obj.cells #[.slice a1 R.length k1,.slice a2 S.length k2] 81);have HN:=Bj3 (Bg3 n es R S ao a1 a2 cap k1 k2 _ ((HC.out.go HB1.out).go hba) (h1.go hba) (h2.go hba) (by omega) (by omega) (by have e:R.length=n:=ho.len;omega) h6 h5 (fun x hx=>by have e:=ho.ends x hx;exact ⟨e.1,e.2.1⟩) ho.len (Yp hgz rfl ho (by omega)));have HBA:=Bj3 hba;have HO:=Bj3 ho;have c02:=Bj4 hba c0';have c12:=Bj4 hba c1';clear hgz h1 h2 h3 h5 h6 ho hba hn1 hn2 H1;unfold Xd at HN
  go_wp2_with (go_at_call 59;refine HN.out.mono ?_;rintro e w3 ⟨hb,rfl,hh,hb3⟩;(have HH:=Bj3 hh);(have HB3:=Bj3 hb3);clear hh hb3)
  refine bodyPost_ret (v:=.tuple #[.pointer (some ⟨hb,0,none⟩),.int .i64 0]) (by simp [results,Tryz.results13,go_sem];try rfl) rfl ?_;exact ⟨.inl ⟨rfl,hb,R,S,out,rfl,⟨HH.out,HO.out⟩,H7.out (by simp)⟩,HB.out.trans (((HB1.out.al _).st HB3.out).mono HB.out.size)⟩
 ·have hk2:(k != 0)=true:=by simpa using hk
  have HK:=Bj3 hk;clear hk
  go_wp2
  refine bodyPost_ret (v:=.tuple #[.pointer none,.int .i64 k]) (by simp [results,Tryz.results13,go_sem];try rfl) rfl ?_;exact .bad HK.out (HB.out.trans ((HB1.out.al _).mono HB.out.size))
theorem Aq3 (g:GD) (ao ro:Option Addr) (cap rc:Nat) (hops settles:Int) (r:List Int) (w:World) (hc:Cel w ao (Ar g.es)) (hr:Cel w ro (r.map Ai)) (hg:Aj g=0->g.n<=26) (hl:g.es.length<=1000) (hrl:r.length<=1000000):
  Calls Tryz.prog 13 #[.agg #[.int .i64 g.n,.slice ao g.es.length cap],.agg #[.int .i64 hops,.int .i64 settles,.slice ro r.length rc]] w (BltPost g (Dq g hops settles r) w):=
 (Af5 g ao ro cap rc hops settles r w hc hr hg hl hrl).mono (fun _ _ h=>h.weak)
end
section
open Go Go.Proofs Go.RowKit Go.Shelf Hp Ch
theorem Aa9 {A:Int->Int->Int->Prop} {X:Nums} {r:Int->Int} {s B:Int} {out:List Lab} (h:Space A X r s out) (hB:∀i u v w,X i u v w->w<=B) (hB0:0<=B) (hr0:∀v,0<=r v):∀(k:Nat) (a:Lab),a∈out->(r a.v).toNat=k->a.d<=(k:Int)*B:=by
 intro k
 induction k using Nat.strongRecOn with
 |_ k ih=>
  intro a ha hk
  rcases h.way a ha with ⟨_,hd,_⟩|⟨x,w,hx,hr,b,hb,e1,e2⟩
  ·rw [hd];exact Int.mul_nonneg (by omega) hB0
  ·have h1:=hr0 x
   rw [<-e1] at hr h1;have h2:=ih (r b.v).toNat (by omega) b hb rfl;have h3:=hB _ _ _ _ hx;have h4:((r b.v).toNat:Int)+1<=(k:Int):=by omega
   have h5:=Int.mul_le_mul_of_nonneg_right h4 hB0;rw [Int.add_mul,Int.one_mul] at h5;omega
theorem Lx {es:List EdgeD} {n:Nat} {R:List Int} {S:List SC} {ro:List Int} {back:Bool} {s:Nat} {l:List LB} (hok:HierOK es n R S ro) (h:Space (Ca back (Am es)) (XN S back) (rk ro) (s:Int) (l.map Cq)) (hs:s<n) (hn:n<=12):∀x∈l,Ac n x.v/\0<=x.d/\x.d<=211106232532992:=by
 intro x hx;have hm:Cq x∈l.map Cq:=List.mem_map.2 ⟨x,hx,rfl⟩;have hH:=hok.hierB back;have hw:=h.sound _ hm;have hv:Ac n x.v:=by
  rcases hw with ⟨e,_⟩|hw
  ·have e2:(s:Int)=x.v:=e
   rw [<-e2];exact ⟨by omega,by omega⟩
  ·exact (hw.nodes hH.node).2
 refine ⟨hv,hw.nonneg hH.pos,?_⟩;have hr0:∀v,0<=rk ro v:=fun v=>by unfold rk;omega
 have hB:=Zq hn;have hB0:(0:Int)<=4294967296*2 ^ n:=by have:(0:Int)<=2 ^ n:=Int.le_of_lt (Int.pow_pos (by decide));omega
 have h1:=Aa9 (B:=4294967296*2 ^ n) h (fun i u v w hx=>by
  obtain ⟨x,_,hx1,hx2,_⟩:=hx;rw [<-hx2];exact hok.big x (Bm1 hx1)) hB0 hr0 _ (Cq x) hm rfl
 have h2:=hok.at1 x.v hv;have h3:=Fb hok.rank (rk ro x.v) (Bm1 h2);rw [hok.len] at h3;have h4:((rk ro x.v).toNat:Int)<=12:=by omega
 have h5:=Int.mul_le_mul_of_nonneg_right h4 hB0;have h6:(Cq x).v=x.v:=rfl;have h7:(Cq x).d=x.d:=rfl;rw [h6,h7] at h1;omega
theorem Ht:∀(l:List LB),l.Pairwise (fun a b=>a.v≠b.v)->∀u d,byF l u=some d↔∃x∈l,x.v=u/\x.d=d:=by
 intro l;have key:∀(k:Nat),k<=l.length->l.Pairwise (fun a b=>a.v≠b.v)->∀u d,byF (l.take k) u=some d↔∃x∈l.take k,x.v=u/\x.d=d:=by
  intro k
  induction k with
  |zero=>intro _ _ u d;simp [byF]
  |succ k ih=>
   intro hk hp u d;have hlt:k<l.length:=by omega
   rw [Ss hlt,Bl1 hlt];unfold Aa7
   by_cases e:u=l[k].v
   ·rw [if_pos e]
    constructor
    ·intro h
     cases h
     exact ⟨l[k],List.mem_append_right _ (Bl0.2 rfl),e.symm,rfl⟩
    ·rintro ⟨x,hx,h1,h2⟩
     rcases Bm6.1 hx with hx|hx
     ·obtain ⟨i,hi,rfl⟩:=Bn7.1 hx
      rw [List.length_take] at hi;have h3:=List.pairwise_iff_getElem.1 hp i k (by omega) hlt (by omega);rw [List.getElem_take] at h1;exact absurd (h1.trans e) h3
     ·rw [Bl0] at hx
      subst hx;rw [h2]
   ·rw [if_neg e,ih (by omega) hp]
    constructor
    ·rintro ⟨x,hx,h1⟩
     exact ⟨x,List.mem_append_left _ hx,h1⟩
    ·rintro ⟨x,hx,h1,h2⟩
     rcases Bm6.1 hx with hx|hx
     ·exact ⟨x,hx,h1,h2⟩
     ·rw [Bl0] at hx
      subst hx;exact absurd h1.symm e
 intro hp u d;have:=key l.length (Bj5 _) hp u d
 rwa [Bn9] at this
theorem Ac4 (f:Int->Option Int):∀(l:List LB),(∀a∈l,∀y,f a.v=some y->Bm f l<=a.d+y)/\(Bm f l=4611686018427387904\/∃a∈l,∃y,f a.v=some y/\Bm f l=a.d+y)/\Bm f l<=4611686018427387904:=by
 intro l;have key:∀(k:Nat),k<=l.length->(∀a∈l.take k,∀y,f a.v=some y->Bm f (l.take k)<=a.d+y)/\(Bm f (l.take k)=4611686018427387904\/∃a∈l.take k,∃y,f a.v=some y/\Bm f (l.take k)=a.d+y)/\Bm f (l.take k)<=4611686018427387904:=by
  intro k
  induction k with
  |zero=>intro _;exact ⟨fun a ha=>by simp at ha,.inl rfl,Int.le_refl _⟩
  |succ k ih=>
   intro hk;have hlt:k<l.length:=by omega
   obtain ⟨i1,i2,i3⟩:=ih (by omega);rw [Rk hlt,Bl1 hlt];unfold Ym
   cases hf:f l[k].v with
   |none=>
    simp only;refine ⟨fun a ha y hy=>?_,i2.imp id (fun ⟨a,ha,h⟩=>⟨a,List.mem_append_left _ ha,h⟩),i3⟩
    rcases Bm6.1 ha with ha|ha
    ·exact i1 a ha y hy
    ·rw [Bl0] at ha
     subst ha;rw [hf] at hy
     cases hy
   |some z=>
    simp only;refine ⟨fun a ha y hy=>?_,?_,Int.le_trans (Int.min_le_left _ _) i3⟩
    ·rcases Bm6.1 ha with ha|ha
     ·exact Int.le_trans (Int.min_le_left _ _) (i1 a ha y hy)
     ·rw [Bl0] at ha
      subst ha;rw [hf] at hy
      cases hy
      exact Int.min_le_right _ _
    ·rcases Int.le_total (Bm f (l.take k)) (l[k].d+z) with h|h
     ·rw [Int.min_eq_left h]
      exact i2.imp id (fun ⟨a,ha,h⟩=>⟨a,List.mem_append_left _ ha,h⟩)
     ·rw [Int.min_eq_right h]
      exact .inr ⟨l[k],List.mem_append_right _ (Bl0.2 rfl),z,hf,rfl⟩
 have:=key l.length (Bj5 _)
 rwa [Bn9] at this
def DistIs (n:Nat) (A:Int->Int->Int->Prop) (s t d k:Int):Prop:=
 (k=0/\Ac n s/\Ac n t/\Dist A s t d/\d<=1152921504606846976)\/(k=9/\d=0/\Ac n s/\Ac n t/\∀e,¬Way0 A Any s t e)\/(k=7/\d=0/\¬(Ac n s/\Ac n t))
theorem DistIs.uniq {n:Nat} {A:Int->Int->Int->Prop} {s t d k d' k':Int} (h:DistIs n A s t d k) (h':DistIs n A s t d' k'):d=d'/\k=k':=by
 rcases h with ⟨rfl,h1,h2,h3,_⟩|⟨rfl,rfl,h1,h2,h3⟩|⟨rfl,rfl,h1⟩<;>rcases h' with ⟨rfl,k1,k2,k3,_⟩|⟨rfl,rfl,k1,k2,k3⟩|⟨rfl,rfl,k1⟩
 ·exact ⟨h3.uniq k3,rfl⟩
 ·exact absurd h3.1 (k3 _)
 ·exact absurd ⟨h1,h2⟩ k1
 ·exact absurd k3.1 (h3 _)
 ·exact ⟨rfl,rfl⟩
 ·exact absurd ⟨h1,h2⟩ k1
 ·exact absurd ⟨k1,k2⟩ h1
 ·exact absurd ⟨k1,k2⟩ h1
 ·exact ⟨rfl,rfl⟩
theorem Am5 {es:List EdgeD} {n:Nat} {R:List Int} {S:List SC} {ro:List Int} {s t:Nat} {la lb:List LB} (hok:HierOK es n R S ro) (hn:n<=12) (hs:s<n) (ht:t<n) (ha:Space (Ca false (Am es)) (XN S false) (rk ro) (s:Int) (la.map Cq)) (hb:Space (Ca true (Am es)) (XN S true) (rk ro) (t:Int) (lb.map Cq)):
  (4611686018427387904<=Bm (byF lb) la/\DistIs n (Am es) s t 0 9)\/(Bm (byF lb) la<4611686018427387904/\DistIs n (Am es) s t (Bm (byF lb) la) 0):=by
 have hH:=hok.hierB false;have hns:Ac n (s:Int):=⟨by omega,by omega⟩;have hnt:Ac n (t:Int):=⟨by omega,by omega⟩;have hpw:lb.Pairwise (fun a b=>a.v≠b.v):=by
  have h9:=hb.once;rw [List.pairwise_map] at h9;exact h9
 obtain ⟨b1,b2⟩:=Space.both (A:=Am es) (X:=XN S false) (Y:=XN S true) hH ha hb;obtain ⟨n1,n2,n3⟩:=Ac4 (byF lb) la;have hla:=Lx hok ha hs hn;have hlb:=Lx hok hb ht hn
 rcases n2 with e|⟨a,hia,y,hy,e⟩
 ·refine .inl ⟨by omega,.inr (.inl ⟨rfl,rfl,hns,hnt,fun d hd=>?_⟩)⟩
  obtain ⟨d',hd'⟩:=Fz hH.pos hd;obtain ⟨a,ha1,b,hb1,e1,e2⟩:=b2 d' hd';obtain ⟨x,hx,rfl⟩:=List.mem_map.1 ha1;obtain ⟨z,hz,rfl⟩:=List.mem_map.1 hb1;have h1:=n1 x hx z.d ((Ht lb hpw _ _).2 ⟨z,hz,e1.symm,rfl⟩);have h2:=(hla x hx).2.2;have h3:=(hlb z hz).2.2;omega
 ·obtain ⟨z,hz,e1,rfl⟩:=(Ht lb hpw _ _).1 hy
  have h2:=(hla a hia).2.2;have h3:=(hlb z hz).2.2;have hw:=b1 (Cq a) (List.mem_map.2 ⟨a,hia,rfl⟩) (Cq z) (List.mem_map.2 ⟨z,hz,rfl⟩) e1.symm;have hw':Way0 (Am es) Any (s:Int) (t:Int) (Bm (byF lb) la):=by rw [e];exact hw
  refine .inr ⟨by omega,.inl ⟨rfl,hns,hnt,⟨hw',fun d hd=>?_⟩,by omega⟩⟩;obtain ⟨d',hd'⟩:=Fz hH.pos hd;obtain ⟨a',ha1,b',hb1,e1',e2'⟩:=b2 d' hd';obtain ⟨x,hx,rfl⟩:=List.mem_map.1 ha1;obtain ⟨z',hz',rfl⟩:=List.mem_map.1 hb1;have h1:=n1 x hx z'.d ((Ht lb hpw _ _).2 ⟨z',hz',e1'.symm,rfl⟩);have h9:=hd'.2 d hd;have h8:x.d+z'.d=d':=e2';omega
end
section
open Go Go.Proofs Go.RowKit Go.Shelf Hp Ch
theorem Wm {n:Nat} {u:Int} (h:Ac n u) (hn:n<=12):In6 u:=⟨by have:=h.1;omega,by have:=h.2;omega⟩
structure BH (w:World) (hb n:Nat) (es:List EdgeD) (R:List Int) (S:List SC) (ro:List Int):Prop where
 mem:HierM w hb n es R S (An R S n S.length).1 (An R S n S.length).2
 ok:HierOK es n R S ro
 le:n<=12
 pos:0<n
theorem BH.go {w w':World} {hb n:Nat} {es:List EdgeD} {R:List Int} {S:List SC} {ro:List Int} (h:BH w hb n es R S ro) (hz:Below w.heap.size w w'):BH w' hb n es R S ro:=⟨h.mem.go hz,h.ok,h.le,h.pos⟩
def Aa3 (es:List EdgeD) (S:List SC) (ro:List Int) (s t n:Nat) (w:World) (e:Ending) (w':World):Prop:=
 ∃(ao bo:Option Addr) (ca cb:Nat) (la lb:List LB),e=.returned (.tuple #[.slice ao la.length ca,.slice bo lb.length cb,.int .i64 0])/\Cel w' ao (Ao la)/\Cel w' bo (Ao lb)/\Below w.heap.size w w'/\
  Space (Ca false (Am es)) (XN S false) (rk ro) (s:Int) (la.map Cq)/\Space (Ca true (Am es)) (XN S true) (rk ro) (t:Int) (lb.map Cq)/\la.length<=n/\lb.length<=n/\la.Pairwise (fun a b=>a.v<=b.v)
theorem Bd4 (hb n:Nat) (es:List EdgeD) (R:List Int) (S:List SC) (ro:List Int) (s t:Nat) (w:World) (h:BH w hb n es R S ro) (hs:s<n) (ht:t<n):
  Calls Tryz.prog 141 #[.pointer (some ⟨hb,0,none⟩),.int .i64 (s:Int),.int .i64 (t:Int)] w (Aa3 es S ro s t n w):=by
 have HA:=Bj3 (Kd hb n es R S ro s false w h.mem h.ok h.le hs);have HB:=Bj3 (fun W (hz:Below w.heap.size w W)=>Kd hb n es R S ro t true W (h.mem.go hz) h.ok h.le ht);unfold Hu at HA HB;clear h
 go_enter Tryz.func141,Tryz.ntmps141
 go_upto_if 16 with (go_at_call 123;refine HA.out.mono ?_;rintro e w1 ⟨ao,ca,la,rfl,h1,h2,h3,h4⟩;(have H1:=Bj3 (And.intro h1 (And.intro h2 (And.intro h3 h4))));clear h1 h2 h3 h4)
 go_wp2_with (go_at_call 123;refine (HB.out _ H1.out.2.1).mono ?_;rintro e w2 ⟨bo,cb,lb,rfl,k1,k2,k3,k4⟩;(have H2:=Bj3 (And.intro k1 (And.intro k2 (And.intro k3 k4))));clear k1 k2 k3 k4)
 refine bodyPost_ret (v:=.tuple #[.slice ao la.length ca,.slice bo lb.length cb,.int .i64 0]) (by simp [results,Tryz.results141,go_sem];try rfl) rfl ?_;obtain ⟨h1,h2,h3,h4⟩:=H1.out;obtain ⟨k1,k2,k3,k4⟩:=H2.out;exact ⟨ao,bo,ca,cb,la,lb,rfl,h1.go k2,k1,h2.st k2,h3,k3,h4.1,k4.1,h4.2.1⟩
theorem Ay9 (hb n:Nat) (es:List EdgeD) (R:List Int) (S:List SC) (ro:List Int) (s t:Int) (w:World) (h:BH w hb n es R S ro) (hst:¬(Ac n s/\Ac n t)):
  Calls Tryz.prog 141 #[.pointer (some ⟨hb,0,none⟩),.int .i64 s,.int .i64 t] w fun e w'=>(∃a b,e=.returned (.tuple #[a,b,.int .i64 7]))/\Below w.heap.size w w':=by
 by_cases hs:Ac n s
 ·obtain ⟨u,rfl⟩:∃u:Nat,s=u:=⟨s.toNat,by have:=hs.1;omega⟩
  have hu:u<n:=by have:=hs.2;omega
  have ht:t<0\/(n:Int)<=t:=by
   have h9:¬Ac n t:=fun k=>hst ⟨hs,k⟩;unfold Ac at h9;omega
  have HA:=Bj3 (Kd hb n es R S ro u false w h.mem h.ok h.le hu);have HB:=Bj3 (fun W (hz:Below w.heap.size w W)=>Ub hb n es R S _ _ t true W (h.mem.go hz) h.pos ht);unfold Hu at HA;clear h ht hst hs
  go_enter Tryz.func141,Tryz.ntmps141
  go_upto_if 16 with (go_at_call 123;refine HA.out.mono ?_;rintro e w1 ⟨ao,ca,la,rfl,h1,h2,h3,h4⟩;(have H1:=Bj3 h2);clear h1 h2 h3 h4)
  go_wp2_with (go_at_call 123;refine (HB.out _ H1.out).mono ?_;rintro e w2 ⟨rfl,k2⟩;(have H2:=Bj3 k2);clear k2)
  refine bodyPost_ret (v:=.tuple #[.slice ao la.length ca,.slice none 0 0,.int .i64 7]) (by simp [results,Tryz.results141,go_sem];try rfl) rfl ?_;exact ⟨⟨_,_,rfl⟩,H1.out.st H2.out⟩
 ·have hs2:s<0\/(n:Int)<=s:=by unfold Ac at hs;omega
  have HA:=Bj3 (Ub hb n es R S _ _ s false w h.mem h.pos hs2);clear h hst hs hs2
  go_enter Tryz.func141,Tryz.ntmps141
  go_wp2_with (go_at_call 123;refine HA.out.mono ?_;rintro e w1 ⟨rfl,h2⟩;(have H1:=Bj3 h2);clear h2)
  refine bodyPost_ret (v:=.tuple #[.slice none 0 0,.slice none 0 0,.int .i64 7]) (by simp [results,Tryz.results141,go_sem];try rfl) rfl ?_;exact ⟨⟨_,_,rfl⟩,H1.out⟩
def DistPost (n:Nat) (es:List EdgeD) (s t:Int) (w:World) (e:Ending) (w':World):Prop:=(∃d k,e=.returned (.tuple #[.int .u64 d,.int .i64 k])/\DistIs n (Am es) s t d k)/\Below w.heap.size w w'
theorem DistPost.mk {n:Nat} {es:List EdgeD} {s t d k:Int} {w w':World} (h:DistIs n (Am es) s t d k) (hb:Below w.heap.size w w'):DistPost n es s t w (.returned (.tuple #[.int .u64 d,.int .i64 k])) w':=⟨⟨d,k,rfl,h⟩,hb⟩
theorem Ay2 (hb n:Nat) (es:List EdgeD) (R:List Int) (S:List SC) (ro:List Int) (s t:Int) (w:World) (h:BH w hb n es R S ro):
  Calls Tryz.prog 87 #[.pointer (some ⟨hb,0,none⟩),.int .i64 s,.int .i64 t] w (DistPost n es s t w):=by
 by_cases hst:Ac n s/\Ac n t
 ·obtain ⟨hs,ht⟩:=hst
  obtain ⟨u,rfl⟩:∃u:Nat,s=u:=⟨s.toNat,by have:=hs.1;omega⟩;obtain ⟨v,rfl⟩:∃v:Nat,t=v:=⟨t.toNat,by have:=ht.1;omega⟩;have hu:u<n:=by have:=hs.2;omega
  have hv:v<n:=by have:=ht.2;omega
  have HA:=Bj3 (Bd4 hb n es R S ro u v w h hu hv);have HOK:=Bj3 h.ok;have hle:=h.le;unfold Aa3 at HA;clear h hs ht
  go_enter Tryz.func87,Tryz.ntmps87
  go_upto_if 21 with (go_at_call 141;refine HA.out.mono ?_;rintro e w1 ⟨ao,bo,ca,cb,la,lb,rfl,h1,h2,h3,h4,h5,h6,h7,-⟩)
  have hla:=Lx HOK.out h4 hu hle;have hlb:=Lx HOK.out h5 hv hle;have hpw:lb.Pairwise (fun a b=>a.v≠b.v):=by
   have h9:=h5.once;rw [List.pairwise_map] at h9;exact h9
  have HND:=Bj3 (Am5 HOK.out hle hu hv h4 h5);have HBY:=Bj3 (Af4 lb bo cb w1 h2 (by omega) (fun x hx=>⟨Wm (hlb x hx).1 hle,(hlb x hx).2.1,by have:=(hlb x hx).2.2;omega⟩));have HLE:=Bj3 (fun W b (hz:Below w1.heap.size w1 W) (hm:MapW W b lb.length (byF lb))=>An1 la (byF lb) ao ca b lb.length W (h1.go hz) hm (by omega) (fun x hx=>⟨Wm (hla x hx).1 hle,(hla x hx).2.1,by have:=(hla x hx).2.2;omega⟩) (fun u x hx=>by
   obtain ⟨z,hz,_,rfl⟩:=(Ht lb hpw _ _).1 hx;exact ⟨(hlb z hz).2.1,by have:=(hlb z hz).2.2;omega⟩))
  have HB1:=Bj3 h3;unfold Mc at HBY;clear h1 h2 h3 h4 h5 h6 h7 hla hlb hpw
  go_upto_if 28 with (first
   |(go_at_call 143;refine HBY.out.mono ?_;rintro e w2 ⟨b,rfl,m1,m2,m3⟩;(have HM2:=Bj3 (And.intro m1 m3));clear m1 m2 m3)
   |(go_at_call 142;refine (HLE.out _ _ HM2.out.2 HM2.out.1).mono ?_;rintro e w3 ⟨rfl,hb3⟩;(have HB3:=Bj3 hb3);clear hb3))
  have HBB:=Bj3 ((HB1.out.st HM2.out.2).st HB3.out)
  rcases HND.out with ⟨hge,hd⟩|⟨hlt,hd⟩
  ·have HD:=Bj3 hd
   clear hd
   go_wp2
   refine bodyPost_ret (v:=.tuple #[.int .u64 0,.int .i64 9]) (by simp [results,Tryz.results87,go_sem];try rfl) rfl ?_;exact .mk HD.out HBB.out
  ·have HD:=Bj3 hd
   have hng:¬4611686018427387904<=Bm (byF lb) la:=by omega
   clear hd
   go_wp2
   refine bodyPost_ret (v:=.tuple #[.int .u64 (Bm (byF lb) la),.int .i64 0]) (by simp [results,Tryz.results87,go_sem];try rfl) rfl ?_;exact .mk HD.out HBB.out
 ·have HA:=Bj3 (Ay9 hb n es R S ro s t w h hst)
  have HD:=Bj3 (show DistIs n (Am es) s t 0 7 from .inr (.inr ⟨rfl,rfl,hst⟩));clear h hst
  go_enter Tryz.func87,Tryz.ntmps87
  go_wp2_with (go_at_call 141;refine HA.out.mono ?_;rintro e w1 ⟨⟨a,b,rfl⟩,h2⟩;(have H1:=Bj3 h2);clear h2)
  refine bodyPost_ret (v:=.tuple #[.int .u64 0,.int .i64 7]) (by simp [results,Tryz.results87,go_sem];try rfl) rfl ?_;exact .mk HD.out H1.out
end
section
open Go Go.Proofs Go.RowKit Go.Shelf Hp Ch
end
section
open Go Go.Proofs Go.RowKit Go.Shelf Hp Ch
end
section
open Go Go.Proofs Go.RowKit Go.Shelf Hp Ch
theorem Zn (W:World) (x y z:Value) (T:TypeId):Cel (W.alloc (Obj.cells #[x,y,z] T)) (some ⟨W.heap.size,0,none⟩) [x,y,z]:=by
 intro j u hj;have h:=Sp W x y z T j u hj;rw [Addr.add_lit] at h;exact ⟨_,_,rfl,h⟩
abbrev exE:List EdgeD:=[⟨0,1,3⟩]
theorem Oo {u v w:Int}:Am exE u v w↔u=0/\v=1/\w=3:=by
 unfold Am exE;constructor
 ·rintro ⟨x,hx,h1,h2,h3⟩
  rw [Bl0] at hx;subst hx;exact ⟨h1.symm,h2.symm,h3.symm⟩
 ·rintro ⟨rfl,rfl,rfl⟩
  exact ⟨_,Bl0.2 rfl,rfl,rfl,rfl⟩
theorem Ae3:∀u v w,Am exE u v w->1<=w:=by
 intro u v w h;obtain ⟨_,_,rfl⟩:=Oo.1 h
 decide
theorem Ax5 {p:Int->Prop} {u v d:Int} (h:Ch.Way (Am exE) p u v d):u=0/\v=1/\d=3:=by
 induction h with
 |one h=>exact Oo.1 h
 |cons h1 _ _ ih=>
  obtain ⟨_,h2,_⟩:=Oo.1 h1;obtain ⟨h3,_⟩:=ih;rw [h2] at h3
  cases h3
theorem Bc9 {d k:Int} (h:DistIs 2 (Am exE) 0 1 d k):d=3/\k=0:=by
 have hw:Way0 (Am exE) Any 0 1 3:=.inr (.one (Oo.2 ⟨rfl,rfl,rfl⟩))
 rcases h with ⟨hk,_,_,h,_⟩|⟨_,_,_,_,h⟩|⟨_,_,h⟩
 ·refine ⟨?_,hk⟩
  rcases h.1 with ⟨e,_⟩|h
  ·cases e
  ·exact (Ax5 h).2.2
 ·exact absurd hw (h _)
 ·exact absurd ⟨⟨by decide,by decide⟩,⟨by decide,by decide⟩⟩ h
theorem Aj5 {d k:Int} (h:DistIs 2 (Am exE) 1 1 d k):d=0/\k=0:=by
 have hw:=Dist.self (A:=Am exE) Ae3 1
 rcases h with ⟨hk,_,_,h,_⟩|⟨_,_,_,_,h⟩|⟨_,_,h⟩
 ·exact ⟨h.uniq hw,hk⟩
 ·exact absurd hw.1 (h _)
 ·exact absurd ⟨⟨by decide,by decide⟩,⟨by decide,by decide⟩⟩ h
theorem BltPost.good {g:GD} {k:Int} {w w':World} {e:Ending} (h:BltPost g k w e w') (hk:k=0) (hg:Aj g=0) (hn:g.n<=12):∃hb R S ro,e=.returned (.tuple #[.pointer (some ⟨hb,0,none⟩),.int .i64 0])/\BH w' hb g.n.toNat g.es R S ro/\Below w.heap.size w w':=by
 obtain ⟨h1|h1,h2⟩:=h
 ·obtain ⟨_,hb,R,S,ro,e,hm,ho⟩:=h1
  have:=Py hg;exact ⟨hb,R,S,ro,e,⟨hm,ho,by omega,by omega⟩,h2⟩
 ·exact absurd hk h1.1
end
section
namespace Dj
open Go Go.Proofs Go.RowKit Go.Shelf Hp Ch Ad
theorem Gj {es:List EdgeD} {bk:Bool} {u v w:Int}:(XD es bk).rel u v w↔Ca bk (Am es) u v w:=by
 constructor
 ·rintro ⟨i,j,rfl,h,h1,h2,h3⟩
  cases bk with
  |false=>exact ⟨es[j],Bk5 h,h1,h2,h3⟩
  |true=>exact ⟨es[j],Bk5 h,h2,h1,h3⟩
 ·intro h
  cases bk with
  |false=>
   obtain ⟨x,hx,h1,h2,h3⟩:=h;obtain ⟨j,hj,e⟩:=List.getElem_of_mem hx;exact ⟨(j:Int),j,rfl,hj,by rw [e];exact h1,by rw [e];exact h2,by rw [e];exact h3⟩
  |true=>
   obtain ⟨x,hx,h1,h2,h3⟩:=h;obtain ⟨j,hj,e⟩:=List.getElem_of_mem hx;exact ⟨(j:Int),j,rfl,hj,by rw [e];exact h2,by rw [e];exact h1,by rw [e];exact h3⟩
theorem Be3 (es:List EdgeD) (bk:Bool):(XD es bk).rel=Ca bk (Am es):=funext fun _=>funext fun _=>funext fun _=>propext Gj
theorem FarL.farV {n:Nat} {es:List EdgeD} {bk:Bool} {s:Int} {l:List Int} (h:FarL es bk n s l) (hE:EOK n es) (hn:n<=50000) {v:Nat} (hv:v<n):FarV (Ca bk (Am es)) s (v:Int) (gD l (v:Int)):=by
 have hg:gD l (v:Int)=(l[v]?).getD FAR:=by unfold gD;rw [Bk7,Bj9]
 have hA:∀u v w,Ca bk (Am es) u v w->Ac n u/\Ac n v/\1<=w/\w<=4294967296:=fun u v w hx=>XD.ok hE u v w (Gj.2 hx)
 rcases h.2 v hv with ⟨d,h1,h2⟩|⟨h1,h2⟩
 ·rw [hg,h2]
  rw [Be3] at h1;have h3:=Wt (n:=n) (M:=4294967296) (s:=s) (by omega) hA n (v:Int) d [] ⟨by omega,by omega⟩ h1 (fun _ h=>(nomatch h)) List.nodup_nil (by simp);have h4:0<=d:=by
   have h5:=h1.1;exact Way0.nonneg (fun u v w hx=>by have:=(hA u v w hx).2.2.1;omega) h5
  exact .inl ⟨h1,h4,by show d<=_;omega⟩
 ·rw [hg,h2]
  rw [Be3] at h1;exact .inr ⟨rfl,h1⟩
theorem Am0 (bk:Bool) (w:World):Calls Tryz.prog 132 #[Ec bk] w fun e w'=>e=.returned (Ec false)/\Below w.heap.size w w':=by
 unfold Ec
 go_enter Tryz.func132,Tryz.ntmps132
 go_wp2
 refine bodyPost_ret (v:=.agg #[.bool false,.slice none 0 0,.slice none 0 0,.slice none 0 0,.int .u64 0]) ?_ rfl ?_
 ·simp [results,Tryz.results132,go_sem]
 ·exact ⟨rfl,(Below.of_al _ _).al _⟩
def Bm (es:List EdgeD) (l:List Int) (v:Int) (e:EdgeD):Bool:=decide (gD l e.t<4611686018427387904)&&decide (gD l e.t+e.w=gD l v)
theorem Ac3 (n:Nat) (es:List EdgeD) (l:List Int) (fb wb vb ob:Nat) (fa wa:Option Addr) (fc wc:Nat) (i t v:Nat) (ef ew:Int) (W:World) (hn:n<=50000) (hm:es.length<=50000) (hi:es[i]? =some ⟨ef,(t:Int),ew⟩) (ht:t<n) (hv:v<n) (hl:l.length=n) (hb:∀x∈l,0<=x/\x<=4611686018427387904) (hw:0<=ew/\ew<=4294967296)
  (c0:W.cell? ⟨fb,0,none⟩=some (.slice fa n fc)) (c1:W.cell? ⟨wb,0,none⟩=some (.slice wa es.length wc)) (c2:W.cell? ⟨vb,0,none⟩=some (.int .i64 (v:Int))) (c3:W.cell? ⟨ob,2,none⟩=some (.slice none 0 0)) (hF:Cel W fa (l.map Bi)) (hW:Cel W wa ((Hv es).map Bi)):
  Calls Tryz.prog 187 #[.int .i64 (i:Int),.agg #[.int .i64 ef,.int .i64 (t:Int),.int .u64 ew],.pointer (some ⟨fb,0,none⟩),.pointer (some ⟨wb,0,none⟩),.pointer (some ⟨vb,0,none⟩),.pointer (some ⟨ob,0,none⟩)] W fun e w'=>
   e=.returned (.bool (Bm es l (v:Int) ⟨ef,(t:Int),ew⟩))/\Below W.heap.size W w':=by
 obtain ⟨V,hV⟩:∃V,V=W.alloc (Obj.cells #[.int .i64 ef,.int .i64 (t:Int),.int .u64 ew] 109):=⟨_,rfl⟩;have hbV:Below W.heap.size W V:=by rw [hV];exact Below.of_al _ _
 have y1:V.cell? ⟨W.heap.size,1,none⟩=some (.int .i64 (t:Int)):=by rw [hV];go_simp
 have x0:=Bj4 hbV c0;have x1:=Bj4 hbV c1;have x2:=Bj4 hbV c2;have x3:=Bj4 hbV c3;obtain ⟨tb,t9,hta,ct⟩:=(hF.go hbV) t (.int .u64 (gD l (t:Int))) (by rw [Bl2];unfold gD;rw [Bk7,Bj9,Bj8 (by omega)];rfl);obtain ⟨v8,v9,hva,cv⟩:=(hF.go hbV) v (.int .u64 (gD l (v:Int))) (by rw [Bl2];unfold gD;rw [Bk7,Bj9,Bj8 (by omega)];rfl);obtain ⟨w8,w9,hwa,cw⟩:=(hW.go hbV) i (.int .u64 ew) (by unfold Hv;rw [List.map_map,Bl2,hi];rfl);subst hta
 cases hva
 subst hwa;have hil:i<es.length:=(Bk6.1 hi).1;have hgt:0<=gD l (t:Int)/\gD l (t:Int)<=4611686018427387904:=by
  unfold gD;rw [Bk7,Bj9,Bj8 (by omega)];exact hb _ (Bk5 _)
 have t0:(0:Int)<=(t:Int):=by omega
 have t1:(t:Int)<(n:Int):=by omega
 have v0:(0:Int)<=(v:Int):=by omega
 have v1:(v:Int)<(n:Int):=by omega
 have i0:(0:Int)<=(i:Int):=by omega
 have i1:(i:Int)<(es.length:Int):=by omega
 have HC:=Bj3 (fun (U:World)=>(Oq (i:Int) U).mono (R':=fun e w'=>e=.returned (.bool false)/\Below U.heap.size U w') (fun e w' h=>⟨h.1,h.2▸Below.refl _ _⟩));have HBV:=Bj3 hbV;have HE:=Bj3 (show Bm es l (v:Int) ⟨ef,(t:Int),ew⟩=(decide (gD l (t:Int)<4611686018427387904)&&decide (gD l (t:Int)+ew=gD l (v:Int))) from rfl);rw [HE.out];have hwr:IntKind.u64.wrap (gD l (t:Int)+ew)=gD l (t:Int)+ew:=by
  rw [Bo5];omega
 generalize gD l (t:Int)=gt at*;generalize gD l (v:Int)=gv at*;clear hF hW c0 c1 c2 c3 hb hi hbV HE;have e0:=fun p=>Ab p x0;have e1:=fun p=>Ab p x1;have e2:=fun p=>Ab p x2;have e3:=fun p=>Ab p x3;have e4:=fun p=>Ab p y1;have e5:=fun p=>Ab p ct;have e6:=fun p=>Ab p cv;have e7:=fun p=>Ab p cw
 by_cases h1:gt<4611686018427387904
 ·by_cases h2:gt+ew=gv
  ·have HD:=Bj3 (show (decide (gt<4611686018427387904)&&decide (gt+ew=gv))=true by simp [h1,h2])
   rw [HD.out];have h3:(gt+ew==gv)=true:=by simpa using h2
   clear h2 hgt hw
   go_enter Tryz.func187,Tryz.ntmps187
   go_upto_region 1 with (fail)
   rw [<-hV];clear hV;refine Af (by kernel_rfl) (by kernel_rfl) ?_
   repeat (go_big_quiet_step ((go_at_call 68;exact Calls.ext_of (HC.out _))))
   refine wpQuiet_nil ?_;rintro _ ⟨pa,rfl⟩;have HBa:=Bj3 (Ah V pa);generalize ext V pa=wa at HBa ⊢;have HBZ:=Bj3 (HBV.out.st HBa.out);clear e0 e1 e2 e3 e4 e5 e6 e7 x0 x1 x2 x3 y1 ct cv cw
   go_wp2
   go_ret
   exact ⟨rfl,HBZ.out⟩
  ·have HD:=Bj3 (show (decide (gt<4611686018427387904)&&decide (gt+ew=gv))=false by simp [h2])
   rw [HD.out];have h3:(gt+ew==gv)=false:=by rw [beq_eq_false_iff_ne];exact h2
   clear h2 hgt hw
   go_enter Tryz.func187,Tryz.ntmps187
   go_upto_region 1 with (fail)
   rw [<-hV];clear hV;refine Af (by kernel_rfl) (by kernel_rfl) ?_
   repeat (go_big_quiet_step (fail))
   refine wpQuiet_nil ?_;rintro _ ⟨pa,rfl⟩;have HBa:=Bj3 (Ah V pa);generalize ext V pa=wa at HBa ⊢;have HBZ:=Bj3 (HBV.out.st HBa.out);clear e0 e1 e2 e3 e4 e5 e6 e7 x0 x1 x2 x3 y1 ct cv cw
   go_wp2
   go_ret
   exact ⟨rfl,HBZ.out⟩
 ·have HD:=Bj3 (show (decide (gt<4611686018427387904)&&decide (gt+ew=gv))=false by simp [h1])
  rw [HD.out];clear hgt hw
  go_enter Tryz.func187,Tryz.ntmps187
  go_upto_region 1 with (fail)
  rw [<-hV];clear hV;refine Af (by kernel_rfl) (by kernel_rfl) ?_
  repeat (go_big_quiet_step (fail))
  refine wpQuiet_nil ?_;rintro _ ⟨pa,rfl⟩;have HBa:=Bj3 (Ah V pa);generalize ext V pa=wa at HBa ⊢;have HBZ:=Bj3 (HBV.out.st HBa.out);clear e0 e1 e2 e3 e4 e5 e6 e7 x0 x1 x2 x3 y1 ct cv cw
  go_wp2
  go_ret
  exact ⟨rfl,HBZ.out⟩
end Dj
end
end Go.Proofs.YteaaapdjplbljaaGreat
