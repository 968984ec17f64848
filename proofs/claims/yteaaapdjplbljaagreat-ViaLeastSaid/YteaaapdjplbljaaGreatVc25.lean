/- Parts; no condition. -/
import Derived.Test.YteaaapdjplbljaaGreatVc24
import Derived.Test.YteaaapdjplbljaaGreatVc23
set_option linter.unusedVariables false
set_option linter.unusedSimpArgs false
set_option linter.unnecessarySimpa false
set_option maxRecDepth 100000
set_option maxHeartbeats 8000000
namespace Go.Proofs.YteaaapdjplbljaaGreat
section
open Go Go.Proofs Go.RowKit Go.Shelf Hp Ch
def Bi4 (w:World) (hb:Nat) (g:GD) (R:List Int) (S:List SC) (out:List Int):Prop:=
 HierM w hb g.n.toNat g.es R S (An R S g.n.toNat S.length).1 (An R S g.n.toNat S.length).2/\HierOK g.es g.n.toNat R S out
def BltPost (g:GD) (k:Int) (w:World) (e:Ending) (w':World):Prop:=
 ((k=0/\∃hb R S out,e=.returned (.tuple #[.pointer (some ⟨hb,0,none⟩),.int .i64 0])/\Bi4 w' hb g R S out)\/(k≠0/\e=.returned (.tuple #[.pointer none,.int .i64 k])))/\Below w.heap.size w w'
def BltPost2 (r:List Int) (g:GD) (k:Int) (w:World) (e:Ending) (w':World):Prop:=
 ((k=0/\∃hb R S out,e=.returned (.tuple #[.pointer (some ⟨hb,0,none⟩),.int .i64 0])/\Bi4 w' hb g R S out/\(r≠[]->R=r))\/(k≠0/\e=.returned (.tuple #[.pointer none,.int .i64 k])))/\Below w.heap.size w w'
theorem BltPost2.weak {r:List Int} {g:GD} {k:Int} {w w':World} {e:Ending} (h:BltPost2 r g k w e w'):BltPost g k w e w':=
 ⟨h.1.imp (fun ⟨a,hb,R,S,out,b,c,_⟩=>⟨a,hb,R,S,out,b,c⟩) id,h.2⟩
theorem BltPost2.bad {r:List Int} {g:GD} {k:Int} {w w':World} (h:k≠0) (hb:Below w.heap.size w w'):BltPost2 r g k w (.returned (.tuple #[.pointer none,.int .i64 k])) w':=⟨.inr ⟨h,rfl⟩,hb⟩
theorem Ad6 (g:GD) (ao ro:Option Addr) (cap rc:Nat) (hops settles:Int) (r:List Int) (w:World) (hc:Cel w ao (Ax g.es)) (hr:Cel w ro (r.map Aj)) (hg:Ak g=0->g.n<=26) (hl:g.es.length<=1000) (hrl:r.length<=1000000):
  Calls Tryz.prog 13 #[.agg #[.int .i64 g.n,.slice ao g.es.length cap],.agg #[.int .i64 hops,.int .i64 settles,.slice ro r.length rc]] w (BltPost2 r g (Cb g hops settles r) w):=by
 obtain ⟨W,hW⟩:∃W,W=(w.alloc (Obj.cells #[.int .i64 g.n,.slice ao g.es.length cap] 24)).alloc (Obj.cells #[.int .i64 hops,.int .i64 settles,.slice ro r.length rc] 27):=⟨_,rfl⟩;have hbw:Below w.heap.size w W:=by rw [hW];exact (Below.of_al _ _).al _
 have c0:W.cell? ⟨w.heap.size,0,none⟩=some (.int .i64 g.n):=by rw [hW];go_simp
 have c1:W.cell? ⟨w.heap.size,1,none⟩=some (.slice ao g.es.length cap):=by rw [hW];go_simp
 have d0:W.cell? ⟨w.heap.size+1,0,none⟩=some (.int .i64 hops):=by rw [hW];go_simp
 have d1:W.cell? ⟨w.heap.size+1,1,none⟩=some (.int .i64 settles):=by rw [hW];go_simp
 have d2:W.cell? ⟨w.heap.size+1,2,none⟩=some (.slice ro r.length rc):=by rw [hW];go_simp
 have HBU:=Bi5 (Ao8 g ao ro cap rc hops settles r W (hc.go hbw) (hr.go hbw) hg hl hrl);have HC:=Bi5 (hc.go hbw);have HB:=Bi5 hbw;have HW:=Bi5 hW;have HG:=Bi5 hg;have HZ:=Bi5 (show Cb g hops settles r=0->Ak g=0 from fun h=>by
  unfold Cb at h
  split at h
  ·cases h
  ·rename_i hn
   exact Decidable.byContradiction fun e=>hn (.inl e))
 generalize Cb g hops settles r=k at*;unfold Fv at HBU;clear hW hbw hc hr hg
 go_enter Tryz.func13,Tryz.ntmps13
 go_upto_region 1 with (fail)
 rw [<-HW.out]
 go_upto_if 15 with (go_at_call 58;refine HBU.out.mono ?_;rintro e w1 ⟨R,S,a1,a2,k1,k2,rfl,h1,h2,h3,h4,hb1,h5,h6,h7⟩;(have H7:=Bi5 h7);(have H1:=Bi5 (And.intro h1 (And.intro h2 (And.intro h3 (And.intro h4 (And.intro h5 h6))))));(have HB1:=Bi5 hb1);(have c0':=Bi6 hb1 c0);(have c1':=Bi6 hb1 c1);clear h1 h2 h3 h4 hb1 h5 h6 h7)
 by_cases hk:k=0
 ·subst hk
  have hgz:=HZ.out rfl;obtain ⟨gn,es⟩:=g;have hn1:=Jr hgz;have hn2:=HG.out hgz;simp only at hn1 hn2 hl c0 c1 c0' c1' HC;obtain ⟨n,rfl⟩:∃n:Nat,gn=(n:Int):=⟨gn.toNat,by omega⟩;obtain ⟨h1,h2,h3,-,h5,h6⟩:=H1.out;obtain ⟨out,ho⟩:=BuiltOK.hier (Jk hgz rfl) (h3 rfl);have hba:=Below.of_al w1 (Obj.cells #[.slice a1 R.length k1,.slice a2 S.length k2] 81);have HN:=Bi5 (Bf1 n es R S ao a1 a2 cap k1 k2 _ ((HC.out.go HB1.out).go hba) (h1.go hba) (h2.go hba) (by omega) (by omega) (by have e:R.length=n:=ho.len;omega) h6 h5 (fun x hx=>by have e:=ho.ends x hx;exact ⟨e.1,e.2.1⟩) ho.len (Xl hgz rfl ho (by omega)));have HBA:=Bi5 hba;have HO:=Bi5 ho;have c02:=Bi6 hba c0';have c12:=Bi6 hba c1';clear hgz h1 h2 h3 h5 h6 ho hba hn1 hn2 H1;unfold Vz at HN
  go_wp2_with (go_at_call 59;refine HN.out.mono ?_;rintro e w3 ⟨hb,rfl,hh,hb3⟩;(have HH:=Bi5 hh);(have HB3:=Bi5 hb3);clear hh hb3)
  refine bodyPost_ret (v:=.tuple #[.pointer (some ⟨hb,0,none⟩),.int .i64 0]) (by simp [results,Tryz.results13,go_sem];try rfl) rfl ?_;exact ⟨.inl ⟨rfl,hb,R,S,out,rfl,⟨HH.out,HO.out⟩,H7.out (by simp)⟩,HB.out.trans (((HB1.out.al _).st HB3.out).mono HB.out.size)⟩
 ·have hk2:(k != 0)=true:=by simpa using hk
  have HK:=Bi5 hk;clear hk
  go_wp2
  refine bodyPost_ret (v:=.tuple #[.pointer none,.int .i64 k]) (by simp [results,Tryz.results13,go_sem];try rfl) rfl ?_;exact .bad HK.out (HB.out.trans ((HB1.out.al _).mono HB.out.size))
theorem Ui (g:GD) (ao ro:Option Addr) (cap rc:Nat) (hops settles:Int) (r:List Int) (w:World) (hc:Cel w ao (Ax g.es)) (hr:Cel w ro (r.map Aj)) (hg:Ak g=0->g.n<=26) (hl:g.es.length<=1000) (hrl:r.length<=1000000):
  Calls Tryz.prog 13 #[.agg #[.int .i64 g.n,.slice ao g.es.length cap],.agg #[.int .i64 hops,.int .i64 settles,.slice ro r.length rc]] w (BltPost g (Cb g hops settles r) w):=
 (Ad6 g ao ro cap rc hops settles r w hc hr hg hl hrl).mono (fun _ _ h=>h.weak)
end
section
open Go Go.Proofs Go.RowKit Go.Shelf Hp Ch
theorem Zj {A:Int->Int->Int->Prop} {X:Nums} {r:Int->Int} {s B:Int} {out:List Lab} (h:Space A X r s out) (hB:∀i u v w,X i u v w->w<=B) (hB0:0<=B) (hr0:∀v,0<=r v):∀(k:Nat) (a:Lab),a∈out->(r a.v).toNat=k->a.d<=(k:Int)*B:=by
 intro k
 induction k using Nat.strongRecOn with
 |_ k ih=>
  intro a ha hk
  rcases h.way a ha with ⟨_,hd,_⟩|⟨x,w,hx,hr,b,hb,e1,e2⟩
  ·rw [hd];exact Int.mul_nonneg (by omega) hB0
  ·have h1:=hr0 x
   rw [<-e1] at hr h1;have h2:=ih (r b.v).toNat (by omega) b hb rfl;have h3:=hB _ _ _ _ hx;have h4:((r b.v).toNat:Int)+1<=(k:Int):=by omega
   have h5:=Int.mul_le_mul_of_nonneg_right h4 hB0;rw [Int.add_mul,Int.one_mul] at h5;omega
theorem Li {es:List EdgeD} {n:Nat} {R:List Int} {S:List SC} {ro:List Int} {back:Bool} {s:Nat} {l:List LB} (hok:HierOK es n R S ro) (h:Space (Bw back (Am es)) (XN S back) (rk ro) (s:Int) (l.map Cn)) (hs:s<n) (hn:n<=12):∀x∈l,Aa n x.v/\0<=x.d/\x.d<=211106232532992:=by
 intro x hx;have hm:Cn x∈l.map Cn:=List.mem_map.2 ⟨x,hx,rfl⟩;have hH:=hok.hierB back;have hw:=h.sound _ hm;have hv:Aa n x.v:=by
  rcases hw with ⟨e,_⟩|hw
  ·have e2:(s:Int)=x.v:=e
   rw [<-e2];exact ⟨by omega,by omega⟩
  ·exact (hw.nodes hH.node).2
 refine ⟨hv,hw.nonneg hH.pos,?_⟩;have hr0:∀v,0<=rk ro v:=fun v=>by unfold rk;omega
 have hB:=Yr hn;have hB0:(0:Int)<=4294967296*2 ^ n:=by have:(0:Int)<=2 ^ n:=Int.le_of_lt (Int.pow_pos (by decide));omega
 have h1:=Zj (B:=4294967296*2 ^ n) h (fun i u v w hx=>by
  obtain ⟨x,_,hx1,hx2,_⟩:=hx;rw [<-hx2];exact hok.big x (Bl3 hx1)) hB0 hr0 _ (Cn x) hm rfl
 have h2:=hok.at1 x.v hv;have h3:=Es hok.rank (rk ro x.v) (Bl3 h2);rw [hok.len] at h3;have h4:((rk ro x.v).toNat:Int)<=12:=by omega
 have h5:=Int.mul_le_mul_of_nonneg_right h4 hB0;have h6:(Cn x).v=x.v:=rfl;have h7:(Cn x).d=x.d:=rfl;rw [h6,h7] at h1;omega
theorem Hi:∀(l:List LB),l.Pairwise (fun a b=>a.v≠b.v)->∀u d,byF l u=some d↔∃x∈l,x.v=u/\x.d=d:=by
 intro l;have key:∀(k:Nat),k<=l.length->l.Pairwise (fun a b=>a.v≠b.v)->∀u d,byF (l.take k) u=some d↔∃x∈l.take k,x.v=u/\x.d=d:=by
  intro k
  induction k with
  |zero=>intro _ _ u d;simp [byF]
  |succ k ih=>
   intro hk hp u d;have hlt:k<l.length:=by omega
   rw [Rv hlt,Bk3 hlt];unfold Zh
   by_cases e:u=l[k].v
   ·rw [if_pos e]
    constructor
    ·intro h
     cases h
     exact ⟨l[k],List.mem_append_right _ (Bk2.2 rfl),e.symm,rfl⟩
    ·rintro ⟨x,hx,h1,h2⟩
     rcases Bl8.1 hx with hx|hx
     ·obtain ⟨i,hi,rfl⟩:=Bm9.1 hx
      rw [List.length_take] at hi;have h3:=List.pairwise_iff_getElem.1 hp i k (by omega) hlt (by omega);rw [List.getElem_take] at h1;exact absurd (h1.trans e) h3
     ·rw [Bk2] at hx
      subst hx;rw [h2]
   ·rw [if_neg e,ih (by omega) hp]
    constructor
    ·rintro ⟨x,hx,h1⟩
     exact ⟨x,List.mem_append_left _ hx,h1⟩
    ·rintro ⟨x,hx,h1,h2⟩
     rcases Bl8.1 hx with hx|hx
     ·exact ⟨x,hx,h1,h2⟩
     ·rw [Bk2] at hx
      subst hx;exact absurd h1.symm e
 intro hp u d;have:=key l.length (Bi7 _) hp u d
 rwa [Bn1] at this
theorem Aa1 (f:Int->Option Int):∀(l:List LB),(∀a∈l,∀y,f a.v=some y->Bh f l<=a.d+y)/\(Bh f l=4611686018427387904\/∃a∈l,∃y,f a.v=some y/\Bh f l=a.d+y)/\Bh f l<=4611686018427387904:=by
 intro l;have key:∀(k:Nat),k<=l.length->(∀a∈l.take k,∀y,f a.v=some y->Bh f (l.take k)<=a.d+y)/\(Bh f (l.take k)=4611686018427387904\/∃a∈l.take k,∃y,f a.v=some y/\Bh f (l.take k)=a.d+y)/\Bh f (l.take k)<=4611686018427387904:=by
  intro k
  induction k with
  |zero=>intro _;exact ⟨fun a ha=>by simp at ha,.inl rfl,Int.le_refl _⟩
  |succ k ih=>
   intro hk;have hlt:k<l.length:=by omega
   obtain ⟨i1,i2,i3⟩:=ih (by omega);rw [Qq hlt,Bk3 hlt];unfold Xi
   cases hf:f l[k].v with
   |none=>
    simp only;refine ⟨fun a ha y hy=>?_,i2.imp id (fun ⟨a,ha,h⟩=>⟨a,List.mem_append_left _ ha,h⟩),i3⟩
    rcases Bl8.1 ha with ha|ha
    ·exact i1 a ha y hy
    ·rw [Bk2] at ha
     subst ha;rw [hf] at hy
     cases hy
   |some z=>
    simp only;refine ⟨fun a ha y hy=>?_,?_,Int.le_trans (Int.min_le_left _ _) i3⟩
    ·rcases Bl8.1 ha with ha|ha
     ·exact Int.le_trans (Int.min_le_left _ _) (i1 a ha y hy)
     ·rw [Bk2] at ha
      subst ha;rw [hf] at hy
      cases hy
      exact Int.min_le_right _ _
    ·rcases Int.le_total (Bh f (l.take k)) (l[k].d+z) with h|h
     ·rw [Int.min_eq_left h]
      exact i2.imp id (fun ⟨a,ha,h⟩=>⟨a,List.mem_append_left _ ha,h⟩)
     ·rw [Int.min_eq_right h]
      exact .inr ⟨l[k],List.mem_append_right _ (Bk2.2 rfl),z,hf,rfl⟩
 have:=key l.length (Bi7 _)
 rwa [Bn1] at this
def DistIs (n:Nat) (A:Int->Int->Int->Prop) (s t d k:Int):Prop:=
 (k=0/\Aa n s/\Aa n t/\Dist A s t d/\d<=1152921504606846976)\/(k=9/\d=0/\Aa n s/\Aa n t/\∀e,¬Way0 A Any s t e)\/(k=7/\d=0/\¬(Aa n s/\Aa n t))
theorem DistIs.uniq {n:Nat} {A:Int->Int->Int->Prop} {s t d k d' k':Int} (h:DistIs n A s t d k) (h':DistIs n A s t d' k'):d=d'/\k=k':=by
 rcases h with ⟨rfl,h1,h2,h3,_⟩|⟨rfl,rfl,h1,h2,h3⟩|⟨rfl,rfl,h1⟩<;>rcases h' with ⟨rfl,k1,k2,k3,_⟩|⟨rfl,rfl,k1,k2,k3⟩|⟨rfl,rfl,k1⟩
 ·exact ⟨h3.uniq k3,rfl⟩
 ·exact absurd h3.1 (k3 _)
 ·exact absurd ⟨h1,h2⟩ k1
 ·exact absurd k3.1 (h3 _)
 ·exact ⟨rfl,rfl⟩
 ·exact absurd ⟨h1,h2⟩ k1
 ·exact absurd ⟨k1,k2⟩ h1
 ·exact absurd ⟨k1,k2⟩ h1
 ·exact ⟨rfl,rfl⟩
theorem Ak6 {es:List EdgeD} {n:Nat} {R:List Int} {S:List SC} {ro:List Int} {s t:Nat} {la lb:List LB} (hok:HierOK es n R S ro) (hn:n<=12) (hs:s<n) (ht:t<n) (ha:Space (Bw false (Am es)) (XN S false) (rk ro) (s:Int) (la.map Cn)) (hb:Space (Bw true (Am es)) (XN S true) (rk ro) (t:Int) (lb.map Cn)):
  (4611686018427387904<=Bh (byF lb) la/\DistIs n (Am es) s t 0 9)\/(Bh (byF lb) la<4611686018427387904/\DistIs n (Am es) s t (Bh (byF lb) la) 0):=by
 have hH:=hok.hierB false;have hns:Aa n (s:Int):=⟨by omega,by omega⟩;have hnt:Aa n (t:Int):=⟨by omega,by omega⟩;have hpw:lb.Pairwise (fun a b=>a.v≠b.v):=by
  have h9:=hb.once;rw [List.pairwise_map] at h9;exact h9
 obtain ⟨b1,b2⟩:=Space.both (A:=Am es) (X:=XN S false) (Y:=XN S true) hH ha hb;obtain ⟨n1,n2,n3⟩:=Aa1 (byF lb) la;have hla:=Li hok ha hs hn;have hlb:=Li hok hb ht hn
 rcases n2 with e|⟨a,hia,y,hy,e⟩
 ·refine .inl ⟨by omega,.inr (.inl ⟨rfl,rfl,hns,hnt,fun d hd=>?_⟩)⟩
  obtain ⟨d',hd'⟩:=Fu hH.pos hd;obtain ⟨a,ha1,b,hb1,e1,e2⟩:=b2 d' hd';obtain ⟨x,hx,rfl⟩:=List.mem_map.1 ha1;obtain ⟨z,hz,rfl⟩:=List.mem_map.1 hb1;have h1:=n1 x hx z.d ((Hi lb hpw _ _).2 ⟨z,hz,e1.symm,rfl⟩);have h2:=(hla x hx).2.2;have h3:=(hlb z hz).2.2;omega
 ·obtain ⟨z,hz,e1,rfl⟩:=(Hi lb hpw _ _).1 hy
  have h2:=(hla a hia).2.2;have h3:=(hlb z hz).2.2;have hw:=b1 (Cn a) (List.mem_map.2 ⟨a,hia,rfl⟩) (Cn z) (List.mem_map.2 ⟨z,hz,rfl⟩) e1.symm;have hw':Way0 (Am es) Any (s:Int) (t:Int) (Bh (byF lb) la):=by rw [e];exact hw
  refine .inr ⟨by omega,.inl ⟨rfl,hns,hnt,⟨hw',fun d hd=>?_⟩,by omega⟩⟩;obtain ⟨d',hd'⟩:=Fu hH.pos hd;obtain ⟨a',ha1,b',hb1,e1',e2'⟩:=b2 d' hd';obtain ⟨x,hx,rfl⟩:=List.mem_map.1 ha1;obtain ⟨z',hz',rfl⟩:=List.mem_map.1 hb1;have h1:=n1 x hx z'.d ((Hi lb hpw _ _).2 ⟨z',hz',e1'.symm,rfl⟩);have h9:=hd'.2 d hd;have h8:x.d+z'.d=d':=e2';omega
end
section
open Go Go.Proofs Go.RowKit Go.Shelf Hp Ch
theorem Vh {n:Nat} {u:Int} (h:Aa n u) (hn:n<=12):In6 u:=⟨by have:=h.1;omega,by have:=h.2;omega⟩
structure BH (w:World) (hb n:Nat) (es:List EdgeD) (R:List Int) (S:List SC) (ro:List Int):Prop where
 mem:HierM w hb n es R S (An R S n S.length).1 (An R S n S.length).2
 ok:HierOK es n R S ro
 le:n<=12
 pos:0<n
theorem BH.go {w w':World} {hb n:Nat} {es:List EdgeD} {R:List Int} {S:List SC} {ro:List Int} (h:BH w hb n es R S ro) (hz:Below w.heap.size w w'):BH w' hb n es R S ro:=⟨h.mem.go hz,h.ok,h.le,h.pos⟩
def Zd (es:List EdgeD) (S:List SC) (ro:List Int) (s t n:Nat) (w:World) (e:Ending) (w':World):Prop:=
 ∃(ao bo:Option Addr) (ca cb:Nat) (la lb:List LB),e=.returned (.tuple #[.slice ao la.length ca,.slice bo lb.length cb,.int .i64 0])/\Cel w' ao (Ao la)/\Cel w' bo (Ao lb)/\Below w.heap.size w w'/\
  Space (Bw false (Am es)) (XN S false) (rk ro) (s:Int) (la.map Cn)/\Space (Bw true (Am es)) (XN S true) (rk ro) (t:Int) (lb.map Cn)/\la.length<=n/\lb.length<=n/\la.Pairwise (fun a b=>a.v<=b.v)
theorem Bc3 (hb n:Nat) (es:List EdgeD) (R:List Int) (S:List SC) (ro:List Int) (s t:Nat) (w:World) (h:BH w hb n es R S ro) (hs:s<n) (ht:t<n):
  Calls Tryz.prog 141 #[.pointer (some ⟨hb,0,none⟩),.int .i64 (s:Int),.int .i64 (t:Int)] w (Zd es S ro s t n w):=by
 have HA:=Bi5 (Jo hb n es R S ro s false w h.mem h.ok h.le hs);have HB:=Bi5 (fun W (hz:Below w.heap.size w W)=>Jo hb n es R S ro t true W (h.mem.go hz) h.ok h.le ht);unfold Hj at HA HB;clear h
 go_enter Tryz.func141,Tryz.ntmps141
 go_upto_if 16 with (go_at_call 123;refine HA.out.mono ?_;rintro e w1 ⟨ao,ca,la,rfl,h1,h2,h3,h4⟩;(have H1:=Bi5 (And.intro h1 (And.intro h2 (And.intro h3 h4))));clear h1 h2 h3 h4)
 go_wp2_with (go_at_call 123;refine (HB.out _ H1.out.2.1).mono ?_;rintro e w2 ⟨bo,cb,lb,rfl,k1,k2,k3,k4⟩;(have H2:=Bi5 (And.intro k1 (And.intro k2 (And.intro k3 k4))));clear k1 k2 k3 k4)
 refine bodyPost_ret (v:=.tuple #[.slice ao la.length ca,.slice bo lb.length cb,.int .i64 0]) (by simp [results,Tryz.results141,go_sem];try rfl) rfl ?_;obtain ⟨h1,h2,h3,h4⟩:=H1.out;obtain ⟨k1,k2,k3,k4⟩:=H2.out;exact ⟨ao,bo,ca,cb,la,lb,rfl,h1.go k2,k1,h2.st k2,h3,k3,h4.1,k4.1,h4.2.1⟩
theorem Ax8 (hb n:Nat) (es:List EdgeD) (R:List Int) (S:List SC) (ro:List Int) (s t:Int) (w:World) (h:BH w hb n es R S ro) (hst:¬(Aa n s/\Aa n t)):
  Calls Tryz.prog 141 #[.pointer (some ⟨hb,0,none⟩),.int .i64 s,.int .i64 t] w fun e w'=>(∃a b,e=.returned (.tuple #[a,b,.int .i64 7]))/\Below w.heap.size w w':=by
 by_cases hs:Aa n s
 ·obtain ⟨u,rfl⟩:∃u:Nat,s=u:=⟨s.toNat,by have:=hs.1;omega⟩
  have hu:u<n:=by have:=hs.2;omega
  have ht:t<0\/(n:Int)<=t:=by
   have h9:¬Aa n t:=fun k=>hst ⟨hs,k⟩;unfold Aa at h9;omega
  have HA:=Bi5 (Jo hb n es R S ro u false w h.mem h.ok h.le hu);have HB:=Bi5 (fun W (hz:Below w.heap.size w W)=>Td hb n es R S _ _ t true W (h.mem.go hz) h.pos ht);unfold Hj at HA;clear h ht hst hs
  go_enter Tryz.func141,Tryz.ntmps141
  go_upto_if 16 with (go_at_call 123;refine HA.out.mono ?_;rintro e w1 ⟨ao,ca,la,rfl,h1,h2,h3,h4⟩;(have H1:=Bi5 h2);clear h1 h2 h3 h4)
  go_wp2_with (go_at_call 123;refine (HB.out _ H1.out).mono ?_;rintro e w2 ⟨rfl,k2⟩;(have H2:=Bi5 k2);clear k2)
  refine bodyPost_ret (v:=.tuple #[.slice ao la.length ca,.slice none 0 0,.int .i64 7]) (by simp [results,Tryz.results141,go_sem];try rfl) rfl ?_;exact ⟨⟨_,_,rfl⟩,H1.out.st H2.out⟩
 ·have hs2:s<0\/(n:Int)<=s:=by unfold Aa at hs;omega
  have HA:=Bi5 (Td hb n es R S _ _ s false w h.mem h.pos hs2);clear h hst hs hs2
  go_enter Tryz.func141,Tryz.ntmps141
  go_wp2_with (go_at_call 123;refine HA.out.mono ?_;rintro e w1 ⟨rfl,h2⟩;(have H1:=Bi5 h2);clear h2)
  refine bodyPost_ret (v:=.tuple #[.slice none 0 0,.slice none 0 0,.int .i64 7]) (by simp [results,Tryz.results141,go_sem];try rfl) rfl ?_;exact ⟨⟨_,_,rfl⟩,H1.out⟩
def DistPost (n:Nat) (es:List EdgeD) (s t:Int) (w:World) (e:Ending) (w':World):Prop:=(∃d k,e=.returned (.tuple #[.int .u64 d,.int .i64 k])/\DistIs n (Am es) s t d k)/\Below w.heap.size w w'
theorem DistPost.mk {n:Nat} {es:List EdgeD} {s t d k:Int} {w w':World} (h:DistIs n (Am es) s t d k) (hb:Below w.heap.size w w'):DistPost n es s t w (.returned (.tuple #[.int .u64 d,.int .i64 k])) w':=⟨⟨d,k,rfl,h⟩,hb⟩
theorem Ax0 (hb n:Nat) (es:List EdgeD) (R:List Int) (S:List SC) (ro:List Int) (s t:Int) (w:World) (h:BH w hb n es R S ro):
  Calls Tryz.prog 87 #[.pointer (some ⟨hb,0,none⟩),.int .i64 s,.int .i64 t] w (DistPost n es s t w):=by
 by_cases hst:Aa n s/\Aa n t
 ·obtain ⟨hs,ht⟩:=hst
  obtain ⟨u,rfl⟩:∃u:Nat,s=u:=⟨s.toNat,by have:=hs.1;omega⟩;obtain ⟨v,rfl⟩:∃v:Nat,t=v:=⟨t.toNat,by have:=ht.1;omega⟩;have hu:u<n:=by have:=hs.2;omega
  have hv:v<n:=by have:=ht.2;omega
  have HA:=Bi5 (Bc3 hb n es R S ro u v w h hu hv);have HOK:=Bi5 h.ok;have hle:=h.le;unfold Zd at HA;clear h hs ht
  go_enter Tryz.func87,Tryz.ntmps87
  go_upto_if 21 with (go_at_call 141;refine HA.out.mono ?_;rintro e w1 ⟨ao,bo,ca,cb,la,lb,rfl,h1,h2,h3,h4,h5,h6,h7,-⟩)
  have hla:=Li HOK.out h4 hu hle;have hlb:=Li HOK.out h5 hv hle;have hpw:lb.Pairwise (fun a b=>a.v≠b.v):=by
   have h9:=h5.once;rw [List.pairwise_map] at h9;exact h9
  have HND:=Bi5 (Ak6 HOK.out hle hu hv h4 h5);have HBY:=Bi5 (Ad5 lb bo cb w1 h2 (by omega) (fun x hx=>⟨Vh (hlb x hx).1 hle,(hlb x hx).2.1,by have:=(hlb x hx).2.2;omega⟩));have HLE:=Bi5 (fun W b (hz:Below w1.heap.size w1 W) (hm:MapW W b lb.length (byF lb))=>Al2 la (byF lb) ao ca b lb.length W (h1.go hz) hm (by omega) (fun x hx=>⟨Vh (hla x hx).1 hle,(hla x hx).2.1,by have:=(hla x hx).2.2;omega⟩) (fun u x hx=>by
   obtain ⟨z,hz,_,rfl⟩:=(Hi lb hpw _ _).1 hx;exact ⟨(hlb z hz).2.1,by have:=(hlb z hz).2.2;omega⟩))
  have HB1:=Bi5 h3;unfold Ln at HBY;clear h1 h2 h3 h4 h5 h6 h7 hla hlb hpw
  go_upto_if 28 with (first
   |(go_at_call 143;refine HBY.out.mono ?_;rintro e w2 ⟨b,rfl,m1,m2,m3⟩;(have HM2:=Bi5 (And.intro m1 m3));clear m1 m2 m3)
   |(go_at_call 142;refine (HLE.out _ _ HM2.out.2 HM2.out.1).mono ?_;rintro e w3 ⟨rfl,hb3⟩;(have HB3:=Bi5 hb3);clear hb3))
  have HBB:=Bi5 ((HB1.out.st HM2.out.2).st HB3.out)
  rcases HND.out with ⟨hge,hd⟩|⟨hlt,hd⟩
  ·have HD:=Bi5 hd
   clear hd
   go_wp2
   refine bodyPost_ret (v:=.tuple #[.int .u64 0,.int .i64 9]) (by simp [results,Tryz.results87,go_sem];try rfl) rfl ?_;exact .mk HD.out HBB.out
  ·have HD:=Bi5 hd
   have hng:¬4611686018427387904<=Bh (byF lb) la:=by omega
   clear hd
   go_wp2
   refine bodyPost_ret (v:=.tuple #[.int .u64 (Bh (byF lb) la),.int .i64 0]) (by simp [results,Tryz.results87,go_sem];try rfl) rfl ?_;exact .mk HD.out HBB.out
 ·have HA:=Bi5 (Ax8 hb n es R S ro s t w h hst)
  have HD:=Bi5 (show DistIs n (Am es) s t 0 7 from .inr (.inr ⟨rfl,rfl,hst⟩));clear h hst
  go_enter Tryz.func87,Tryz.ntmps87
  go_wp2_with (go_at_call 141;refine HA.out.mono ?_;rintro e w1 ⟨⟨a,b,rfl⟩,h2⟩;(have H1:=Bi5 h2);clear h2)
  refine bodyPost_ret (v:=.tuple #[.int .u64 0,.int .i64 7]) (by simp [results,Tryz.results87,go_sem];try rfl) rfl ?_;exact .mk HD.out H1.out
end
section
open Go Go.Proofs Go.RowKit Go.Shelf Hp Ch
end
section
namespace Ch
def FAR:Int:=4611686018427387904
structure Arc where
 u:Int
 v:Int
 w:Int
def rel (L:List Arc):Int->Int->Int->Prop:=fun u v w=>(⟨u,v,w⟩:Arc)∈L
def gD (d:List Int) (v:Int):Int:=d.getD v.toNat FAR
theorem Hw {d:List Int} {v u x:Int} (hv:0<=v) (hl:v.toNat<d.length) (hu:0<=u):gD (d.set v.toNat x) u=if u=v then x else gD d u:=by
 unfold gD;rw [Bj1,List.getElem?_set,Bj1]
 by_cases e:v.toNat=u.toNat
 ·rw [if_pos e,if_pos hl,if_pos (by omega)]
  rfl
 ·rw [if_neg e,if_neg (by omega)]
def Ih (d:List Int) (e:Arc):Bool:=decide (gD d e.u<FAR)&&decide (gD d e.u+e.w<gD d e.v)
def Dh (p:List Int×Bool) (e:Arc):List Int×Bool:=if Ih p.1 e then (p.1.set e.v.toNat (gD p.1 e.u+e.w),true) else p
def Cs (d:List Int) (L:List Arc):List Int×Bool:=L.foldl Dh (d,false)
abbrev node (n:Nat) (v:Int):Prop:=0<=v/\v<(n:Int)
structure Sofar (L:List Arc) (s:Int) (n:Nat) (m:Int) (d:List Int):Prop where
 len:d.length=n
 way:∀v,node n v->gD d v=FAR\/(Way0 (rel L) Any s v (gD d v)/\gD d v<=m)
 self:gD d s=0
structure Good (L:List Arc) (n:Nat) (W:Int):Prop where
 ends:∀e∈L,node n e.u/\node n e.v
 pos:∀e∈L,1<=e.w/\e.w<=W
variable {L:List Arc} {s:Int} {n:Nat} {m W:Int} {d:List Int}
theorem Good.hA (h:Good L n W):∀u v w,rel L u v w->1<=w:=fun _ _ _ k=>(h.pos _ k).1
theorem Sofar.le (h:Sofar L s n m d) (hm:m<FAR) {v:Int} (hv:node n v):gD d v<=FAR:=by
 rcases h.way v hv with e|⟨_,e⟩<;>omega
theorem Sofar.nonneg (hg:Good L n W) (h:Sofar L s n m d) {v:Int} (hv:node n v):0<=gD d v:=by
 rcases h.way v hv with e|⟨e,_⟩
 ·rw [e];decide
 ·exact e.nonneg hg.hA
theorem Sofar.relax (hg:Good L n W) (h:Sofar L s n m d) {e:Arc} (he:e∈L) (hf:Ih d e=true) (hs:node n s):
  Sofar L s n (m+W) (d.set e.v.toNat (gD d e.u+e.w))/\∀v,node n v->gD (d.set e.v.toNat (gD d e.u+e.w)) v<=gD d v:=by
 unfold Ih at hf;simp only [Bool.and_eq_true,decide_eq_true_eq] at hf;obtain ⟨f1,f2⟩:=hf;obtain ⟨⟨u0,u1⟩,⟨v0,v1⟩⟩:=hg.ends e he;have hw:=hg.pos e he;have hl:e.v.toNat<d.length:=by rw [h.len];omega
 have hu:Way0 (rel L) Any s e.u (gD d e.u)/\gD d e.u<=m:=by
  rcases h.way e.u ⟨u0,u1⟩ with k|k
  ·omega
  ·exact k
 refine ⟨⟨by rw [Bj6];exact h.len,?_,?_⟩,?_⟩
 ·intro v hv
  rw [Hw v0 hl hv.1]
  split
  ·rename_i k
   subst k;exact .inr ⟨hu.1.trans trivial (.inr (.one he)),by omega⟩
  ·rcases h.way v hv with k|⟨k1,k2⟩
   ·exact .inl k
   ·exact .inr ⟨k1,by omega⟩
 ·rw [Hw v0 hl hs.1]
  split
  ·rename_i k
   have:=hu.1.nonneg hg.hA;rw [<-k,h.self] at f2;omega
  ·exact h.self
 ·intro v hv
  rw [Hw v0 hl hv.1]
  split
  ·rename_i k
   subst k;omega
  ·exact Int.le_refl _
theorem Sofar.mono (h:Sofar L s n m d) {m':Int} (hm:m<=m'):Sofar L s n m' d:=⟨h.len,fun v hv=>(h.way v hv).imp id (fun k=>⟨k.1,by omega⟩),h.self⟩
theorem Sofar.part (hg:Good L n W) (hs:node n s) (hW:0<=W):∀(K:List Arc) (d:List Int) (m:Int) (c:Bool),(∀e∈K,e∈L)->Sofar L s n m d->
  Sofar L s n (m+K.length*W) (K.foldl Dh (d,c)).1/\(∀v,node n v->gD (K.foldl Dh (d,c)).1 v<=gD d v)/\
  (∀e∈K,m+K.length*W<FAR->gD d e.u<FAR->gD (K.foldl Dh (d,c)).1 e.v<=gD d e.u+e.w)/\
  ((K.foldl Dh (d,c)).2=false->c=false/\(K.foldl Dh (d,c)).1=d/\∀e∈K,Ih d e=false)
 |[],d,m,c,_,h=>⟨by simpa using h,fun _ _=>Int.le_refl _,by simp,fun e=>⟨e,rfl,by simp⟩⟩
 |e::K,d,m,c,hK,h=>by
  have heL:=hK e (by simp);rw [List.foldl_cons];have hlen:((e::K).length:Int)*W=W+K.length*W:=by
   rw [Bk0]
   push_cast
   rw [Int.add_mul];omega
  cases hf:Ih d e with
  |false=>
   have hr:Dh (d,c) e=(d,c):=by unfold Dh;simp [hf]
   rw [hr];obtain ⟨a1,a2,a3,a4⟩:=Sofar.part hg hs hW K d m c (fun x hx=>hK x (by simp [hx])) h;refine ⟨a1.mono (by omega),a2,?_,fun k=>?_⟩
   ·intro x hx hm hu
    rcases Bl7.1 hx with rfl|hx
    ·have h1:=a2 x.v (hg.ends x heL).2
     unfold Ih at hf;simp only [Bool.and_eq_false_iff,decide_eq_false_iff_not] at hf;omega
    ·exact a3 x hx (by omega) hu
   ·obtain ⟨b1,b2,b3⟩:=a4 k
    refine ⟨b1,b2,?_⟩;intro x hx
    rcases Bl7.1 hx with rfl|hx
    ·exact hf
    ·exact b3 x hx
  |true=>
   have hr:Dh (d,c) e=(d.set e.v.toNat (gD d e.u+e.w),true):=by unfold Dh;simp [hf]
   rw [hr];obtain ⟨r1,r2⟩:=h.relax hg heL hf hs;obtain ⟨a1,a2,a3,a4⟩:=Sofar.part hg hs hW K _ (m+W) true (fun x hx=>hK x (by simp [hx])) r1;refine ⟨a1.mono (by omega),fun v hv=>Int.le_trans (a2 v hv) (r2 v hv),?_,fun k=>?_⟩
   ·intro x hx hm hu
    rcases Bl7.1 hx with rfl|hx
    ·have h1:=a2 x.v (hg.ends x heL).2
     have h2:gD (d.set x.v.toNat (gD d x.u+x.w)) x.v=gD d x.u+x.w:=by
      rw [Hw (hg.ends x heL).2.1 (by rw [h.len];have:=(hg.ends x heL).2;unfold node at this;omega) (hg.ends x heL).2.1,if_pos rfl]
     omega
    ·have hxn:=(hg.ends x (hK x (by simp [hx]))).1
     have h1:=r2 x.u hxn;have:=a3 x hx (by omega) (by omega);omega
   ·exact absurd (a4 k).1 (by simp)
def Right (L:List Arc) (s:Int) (d:List Int) (v:Int):Prop:=∀e,Dist (rel L) s v e->gD d v=e/\gD d v≠FAR
open Classical in
noncomputable def left (L:List Arc) (s:Int) (n:Nat) (d:List Int):Nat:=(List.range n).countP fun v:Nat=>decide (¬Right L s d (v:Int))
theorem Bb2 (L:List Arc) (s:Int) (n:Nat) (d:List Int):left L s n d<=n:=by
 unfold left;exact Bi9 List.countP_le_length (by simp)
theorem Hh {p q:Nat->Bool}:∀(l:List Nat),(∀x∈l,p x=true->q x=true)->(∃x∈l,q x=true/\p x=false)->l.countP p<l.countP q
 |[],_,h=>by obtain ⟨x,hx,_⟩:=h;simp at hx
 |y::l,h1,h2=>by
  rw [List.countP_cons,List.countP_cons];have hle:l.countP p<=l.countP q:=List.countP_mono_left fun x hx=>h1 x (by simp [hx]);obtain ⟨x,hx,hq,hp⟩:=h2
  rcases Bl7.1 hx with rfl|hx
  ·rw [hq,hp]
   simp;omega
  ·have:=Hh l (fun z hz=>h1 z (by simp [hz])) ⟨x,hx,hq,hp⟩
   have hy:=h1 y (by simp)
   cases hpy:p y with
   |false=>simp;split<;>omega
   |true=>rw [hy hpy];simp;omega
structure Exact (L:List Arc) (s:Int) (n:Nat) (d:List Int):Prop where
 len:d.length=n
 dist:∀v e,node n v->Dist (rel L) s v e->gD d v=e
 none:∀v,node n v->(∀e,¬Dist (rel L) s v e)->gD d v=FAR
 fin:∀v e,node n v->Dist (rel L) s v e->gD d v≠FAR
theorem Sofar.exact (hg:Good L n W) (h:Sofar L s n m d) (h0:∀v e,node n v->Dist (rel L) s v e->gD d v=e/\gD d v≠FAR):Exact L s n d:=by
 refine ⟨h.len,fun v e hv hd=>(h0 v e hv hd).1,?_,fun v e hv hd=>(h0 v e hv hd).2⟩;intro v hv hn
 rcases h.way v hv with k|⟨k,_⟩
 ·exact k
 ·obtain ⟨e,he⟩:=Fu hg.hA k
  exact absurd he (hn e)
open Classical in
theorem Tw (h0:left L s n d=0) {v:Int} (hv:node n v):Right L s d v:=by
 unfold left at h0;rw [List.countP_eq_zero] at h0;have e1:((v.toNat:Nat):Int)=v:=by have:=hv.1;omega
 exact Classical.byContradiction fun k=>h0 v.toNat (Bl9.2 (by have h1:=hv.2;have h2:=hv.1;omega)) (decide_eq_true (by rw [e1];exact k))
open Classical in
theorem Tb (h0:∀v,node n v->Right L s d v):left L s n d=0:=by
 unfold left;rw [List.countP_eq_zero];intro v hv hp;exact of_decide_eq_true hp (h0 _ ⟨by omega,by have:=Bl9.1 hv;omega⟩)
theorem Sofar.zero (hg:Good L n W) (h:Sofar L s n m d) (h0:left L s n d=0):Exact L s n d:=
 h.exact hg fun _ _ hv hd=>Tw h0 hv _ hd
theorem Au3 {p:Int->Int->Prop} (h:∃v e,p v e/\0<=e):∃v e,p v e/\0<=e/\∀v' e',p v' e'->0<=e'->e<=e':=by
 have key:∀k v e,e.toNat=k->p v e->0<=e->∃v e,p v e/\0<=e/\∀v' e',p v' e'->0<=e'->e<=e':=by
  intro k
  induction k using Nat.strongRecOn with
  |_ k ih=>
   intro v e hk hp he
   by_cases hl:∃v' e',p v' e'/\0<=e'/\e'<e
   ·obtain ⟨v',e',h1,h2,h3⟩:=hl
    exact ih e'.toNat (by omega) v' e' rfl h1 h2
   ·refine ⟨v,e,hp,he,fun v' e' h1 h2=>?_⟩
    have:¬e'<e:=fun h3=>hl ⟨v',e',h1,h2,h3⟩;omega
 obtain ⟨v,e,h1,h2⟩:=h;exact key _ v e rfl h1 h2
theorem Right.keep (hg:Good L n W) (hW:0<=W) (hs:node n s) (h:Sofar L s n m d) (hm:m+L.length*W<FAR) {v:Int} (hv:node n v) (hr:Right L s d v):Right L s (Cs d L).1 v:=by
 have hmw:0<=(L.length:Int)*W:=Int.mul_nonneg (by omega) hW;obtain ⟨a1,a2,_,_⟩:=Sofar.part hg hs hW L d m false (fun e h=>h) h;intro e hd;obtain ⟨r1,r2⟩:=hr e hd;have h1:gD (Cs d L).1 v<=gD d v:=a2 v hv;have h2:gD d v<=m:=by
  rcases h.way v hv with k|⟨_,k⟩
  ·exact absurd k r2
  ·exact k
 rcases a1.way v hv with k|⟨k,_⟩
 ·have k':gD (Cs d L).1 v=FAR:=k
  omega
 ·have k':e<=gD (Cs d L).1 v:=hd.2 _ k
  omega
open Classical in
theorem Al1 (hg:Good L n W) (hW:0<=W) (hs:node n s) (h:Sofar L s n m d) (hm:m+L.length*W+W<FAR) (h0:left L s n d≠0):left L s n (Cs d L).1<left L s n d:=by
 have hmw:0<=(L.length:Int)*W:=Int.mul_nonneg (by omega) hW;obtain ⟨a1,a2,a3,a4⟩:=Sofar.part hg hs hW L d m false (fun e h=>h) h;have hex:∃v e,(node n v/\Dist (rel L) s v e/\¬Right L s d v)/\0<=e:=by
  refine Classical.byContradiction fun k=>h0 (Tb fun v hv=>Classical.byContradiction fun hr=>?_);refine k ?_;unfold Right at hr;obtain ⟨e,he⟩:∃e,Dist (rel L) s v e:=Classical.byContradiction fun hn=>hr fun e he=>absurd ⟨e,he⟩ hn;exact ⟨v,e,⟨hv,he,hr⟩,he.1.nonneg hg.hA⟩
 obtain ⟨v,e,⟨hv,hd,hne⟩,he0,hmin⟩:=Au3 hex;have hvs:s≠v:=by
  rintro rfl
  apply hne
  intro e' he';obtain rfl:=he'.uniq (.self hg.hA s);rw [h.self];exact ⟨rfl,by decide⟩
 obtain ⟨x,w,hx,hdx⟩:=hd.pred hvs;have hxn:=(hg.ends _ hx).1;simp only at hxn;have hw1:=hg.pos _ hx;simp only at hw1;have hxr:Right L s d x:=by
  refine Classical.byContradiction fun k=>?_;have:=hmin x (e-w) ⟨hxn,hdx,k⟩ (hdx.1.nonneg hg.hA);omega
 obtain ⟨hxe,hxf⟩:=hxr _ hdx;have hxm:gD d x<=m:=by
  rcases h.way x hxn with k|⟨_,k⟩
  ·exact absurd k hxf
  ·exact k
 have hxd:=a3 _ hx (by omega) (by simp only;omega);simp only at hxd;have hev:Right L s (Cs d L).1 v:=by
  intro e' he';obtain rfl:=hd.uniq he';have h1:gD (Cs d L).1 v<=e:=by show gD (List.foldl Dh (d,false) L).1 v<=e;omega
  rcases a1.way v hv with k|⟨k,_⟩
  ·have k':gD (Cs d L).1 v=FAR:=k
   omega
  ·have k':e<=gD (Cs d L).1 v:=hd.2 _ k
   omega
 have e1:((v.toNat:Nat):Int)=v:=by have:=hv.1;omega
 unfold left;refine Hh _ ?_ ⟨v.toNat,Bl9.2 (by have h1:=hv.1;have h2:=hv.2;omega),decide_eq_true (by rw [e1];exact hne),decide_eq_false (by rw [e1];exact fun k=>k hev)⟩;intro u hu hp;have hp:=of_decide_eq_true hp;exact decide_eq_true fun hr=>hp (hr.keep hg hW hs h (by omega) ⟨by omega,by have:=Bl9.1 hu;omega⟩)
theorem Sofar.still (hg:Good L n W) (h:Sofar L s n m d) (hf:∀e∈L,Ih d e=false) (hm:m+W<FAR) (hW:0<=W):Exact L s n d:=by
 have key:∀{u v e},Way (rel L) Any u v e->gD d u+e<FAR->gD d v<=gD d u+e:=by
  intro u v e hw
  induction hw with
  |@one u v w k=>
   intro hb;have h1:=hf _ k;have h2:=(hg.pos _ k).1;simp only at h2;unfold Ih at h1;simp only [Bool.and_eq_false_iff,decide_eq_false_iff_not] at h1;omega
  |@cons u x v w e k _ k2 ih=>
   intro hb;have h1:=hf _ k;have h2:=(hg.pos _ k).1;have h3:=k2.pos hg.hA;simp only at h2;unfold Ih at h1;simp only [Bool.and_eq_false_iff,decide_eq_false_iff_not] at h1;have:=ih (by omega);omega
 have bound:∀{v e},Way (rel L) Any s v e->gD d v<FAR:=by
  intro v e hw;have h2:∀{u v e},Way (rel L) Any u v e->gD d u<FAR->gD d v<FAR:=by
   intro u v e hw;have step:∀{u v w},rel L u v w->gD d u<FAR->gD d v<FAR:=by
    intro u v w k hu;have h1:=hf _ k;have hn:=(hg.ends _ k).2;unfold Ih at h1;simp only [Bool.and_eq_false_iff,decide_eq_false_iff_not] at h1
    rcases h.way v hn with k2|⟨_,k2⟩
    ·
     rcases h.way u (hg.ends _ k).1 with k3|⟨_,k3⟩
     ·omega
     ·have h4:=(hg.pos _ k).2
      simp only at h1 h4;omega
    ·omega
   induction hw with
   |one k=>exact step k
   |cons k _ _ ih=>exact fun hu=>ih (step k hu)
  exact h2 hw (by rw [h.self];decide)
 refine h.exact hg fun v e hv hd=>?_
 rcases h.way v hv with k|⟨k,k2⟩
 ·exfalso
  rcases hd.1 with ⟨rfl,rfl⟩|hw
  ·rw [h.self] at k;cases k
  ·have:=bound hw;omega
 ·refine ⟨?_,by omega⟩
  have h1:=hd.2 _ k
  rcases hd.1 with ⟨rfl,rfl⟩|hw
  ·exact h.self
  ·have:=key hw (by rw [h.self];omega)
   rw [h.self] at this;omega
theorem Sofar.round (hg:Good L n W) (hW:0<=W) (hs:node n s) (h:Sofar L s n m d) (hm:m+L.length*W+W<FAR):
  Sofar L s n (m+L.length*W) (Cs d L).1/\(left L s n (Cs d L).1<left L s n d\/left L s n (Cs d L).1=0)/\((Cs d L).2=false->Exact L s n (Cs d L).1):=by
 have hmw:0<=(L.length:Int)*W:=Int.mul_nonneg (by omega) hW;obtain ⟨a1,a2,a3,a4⟩:=Sofar.part hg hs hW L d m false (fun e h=>h) h;refine ⟨a1,?_,fun k=>?_⟩
 ·by_cases h0:left L s n d=0
  ·exact .inr (Tb fun v hv=>(Tw h0 hv).keep hg hW hs h (by omega) hv)
  ·exact .inl (Al1 hg hW hs h hm h0)
 ·obtain ⟨_,k2,k3⟩:=a4 k
  show Exact L s n (List.foldl Dh (d,false) L).1
  rw [k2];exact h.still hg k3 (by omega) hW
theorem Sofar.begin (L:List Arc) {s:Int} {n:Nat} (hs:node n s):Sofar L s n 0 ((List.replicate n FAR).set s.toNat 0):=by
 have hl:s.toNat<(List.replicate n FAR).length:=by simp;omega
 refine ⟨by simp,?_,?_⟩
 ·intro v hv
  rw [Hw hs.1 hl hv.1]
  split
  ·rename_i e
   subst e;exact .inr ⟨.inl ⟨rfl,rfl⟩,Int.le_refl _⟩
  ·refine .inl ?_
   unfold gD;rw [Bj1,Bm5]
   split<;>rfl
 ·rw [Hw hs.1 hl hs.1,if_pos rfl]
end Ch
end
section
open Go Go.Proofs Go.RowKit Go.Shelf Ch
theorem Hq (ao:Option Addr) (cap:Nat) (l:List Int) (x:Int) (w:World) (hl:l.length<=9223372036854775807) (hc:Cel w ao (l.map Aj)):
  Calls Tryz.prog 44 #[.slice ao l.length cap,.int .i64 x] w fun e w'=>e=.returned (.bool (decide (x∈l)))/\w=w':=by
 have HC:=Bi5 hc;clear hc;have HT:=Bi5 (fun k (h:k<l.length) (e:l[k]=x)=>(decide_eq_true (e▸Bj7 h):decide (x∈l)=true));have HF:=Bi5 (fun (h:∀j (hj:j<l.length),l[j]≠x)=>(decide_eq_false (fun hm=>by obtain ⟨j,hj,e⟩:=List.getElem_of_mem hm;exact h j hj e):decide (x∈l)=false));generalize decide (x∈l)=r at*
 go_enter Tryz.func44,Tryz.ntmps44
 go_wp2
 go_loopg [5] l.length (fun g i wr=>∃k:Nat,k<=l.length/\l.length-k<=g/\i=.int .i64 k/\wr=w/\Aside (∀j (hj:j<l.length),j<k->l[j]≠x))
 case atStart=>exact ⟨0,Bi8 _,by omega,rfl,rfl,fun j _ h=>absurd h (Nat.not_lt_zero _)⟩
 case round=>
  obtain ⟨k,hk,hg,rfl,rfl,HA⟩:=hrel
  by_cases hlt:k<l.length
  ·have hlt3:(k:Int)<(l.length:Int):=by omega
   have hk0:(0:Int)<=(k:Int):=by omega
   obtain ⟨b,o,hao,hcell⟩:=HC.out.at hlt;subst hao;have H1:=Bi5 (HT.out k hlt);have H2:=Bi5 (fun h:l[k]≠x=>(fun j (h1:j<l.length) (h2:j<k+1)=>(by
    by_cases e:j=k
    ·subst e;exact h
    ·exact HA.out j h1 (by omega):l[j]≠x)))
   generalize l[k]=y at*
   by_cases e:y=x
   ·have he:(y==x)=true:=by simp [e]
    have HR:=Bi5 (H1.out e);clear e
    go_wp2
    go_ret
    exact ⟨by rw [HR.out];rfl,rfl⟩
   ·have he:(y==x)=false:=by simp [e]
    have HR:=Bi5 (H2.out e);clear e
    go_wp2
    go_roundg (l.length-(k+1))
    case measure=>omega
    case rel=>exact ⟨k+1,by omega,by omega,by go_num,rfl,HR.out⟩
  ·obtain rfl:k=l.length:=by omega
   have HR:=Bi5 (HF.out fun j hj=>HA.out j hj hj)
   go_wp2
   go_ret
   exact ⟨by rw [HR.out];rfl,rfl⟩
def Fe (back:Bool) (e:EdgeD):Int×Int:=if back then (e.t,e.f) else (e.f,e.t)
theorem Xd (e:EdgeD) (back:Bool) (w:World):
  Calls Tryz.prog 126 #[.agg #[.int .i64 e.f,.int .i64 e.t,.int .u64 e.w],.bool back] w fun x w'=>x=.returned (.tuple #[.int .i64 (Fe back e).1,.int .i64 (Fe back e).2])/\Below w.heap.size w w':=by
 obtain ⟨f,t,x⟩:=e;unfold Fe;obtain ⟨W,hW⟩:∃W,W=w.alloc (Obj.cells #[.int .i64 f,.int .i64 t,.int .u64 x] 109):=⟨_,rfl⟩;have HB:=Bi5 (show Below w.heap.size w W by rw [hW];exact Below.of_al _ _);have c0:W.cell? ⟨w.heap.size,0,none⟩=some (.int .i64 f):=by rw [hW];go_simp
 have c1:W.cell? ⟨w.heap.size,1,none⟩=some (.int .i64 t):=by rw [hW];go_simp
 have f0:=fun p=>Ac p c0;have f1:=fun p=>Ac p c1;have HW:=Bi5 hW;clear hW
 cases back
 all_goals
  go_enter Tryz.func126,Tryz.ntmps126
  go_upto_region 1 with (fail)
  rw [<-HW.out]
  go_wp2
  refine Ag (by kernel_rfl) (by kernel_rfl) ?_
  repeat (go_big_quiet_step (fail))
  refine wpQuiet_nil ?_;rintro _ ⟨pq,rfl⟩;have HBq:=Bi5 (Ah W pq);generalize ext W pq=wq at HBq ⊢
  go_wp2
  refine bodyPost_ret (by simp [results,Tryz.results126,go_sem];try rfl) rfl ?_;exact ⟨rfl,HB.out.st HBq.out⟩
def Fb (no:List Int) (e:EdgeD):Bool:=!decide (e.f∈no)&&!decide (e.t∈no)
abbrev Be6 (back:Bool) (ao:Option Addr) (n cap:Nat):Value:=.agg #[.bool back,.slice ao n cap,.slice none 0 0,.slice none 0 0,.int .u64 0]
theorem Sn (n:Int) (es:List EdgeD) (ao no:Option Addr) (cap nc:Nat) (back:Bool) (l:List Int) (k:Nat) (hk:k<es.length) (w:World) (hl:l.length<=1000000) (hel:es.length<=1000000) (hc:Cel w ao (Ax es)) (hn:Cel w no (l.map Aj)):
  Calls Tryz.prog 121 #[.agg #[.int .i64 n,.slice ao es.length cap],.int .i64 k,Be6 back no l.length nc] w fun x w'=>x=.returned (.bool (Fb l es[k]))/\Below w.heap.size w w':=by
 obtain ⟨W,hW⟩:∃W,W=(w.alloc (Obj.cells #[.int .i64 n,.slice ao es.length cap] 24)).alloc (Obj.cells #[.bool back,.slice no l.length nc,.slice none 0 0,.slice none 0 0,.int .u64 0] 119):=⟨_,rfl⟩;have hbw:Below w.heap.size w W:=by rw [hW];exact (Below.of_al _ _).al _
 have c1:W.cell? ⟨w.heap.size,1,none⟩=some (.slice ao es.length cap):=by rw [hW];go_simp
 have c2:W.cell? ⟨w.heap.size+1,1,none⟩=some (.slice no l.length nc):=by rw [hW];go_simp
 have c3:W.cell? ⟨w.heap.size+1,2,none⟩=some (.slice none 0 0):=by rw [hW];go_simp
 have HB:=Bi5 hbw;have HW:=Bi5 hW;obtain ⟨b,o,rfl,g0,g1,g2⟩:=(hc.go hbw).edge hk;have HH:=Bi5 (fun W' (hz:Below W.heap.size W W') x=>Hq no nc l x W' (by omega) ((hn.go hbw).go hz));have HN:=Bi5 (fun (W':World) x=>Hq none 0 [] x W' (by simp) (Cel.nil _ _));have hk3:(k:Int)<(es.length:Int):=by omega
 have hk0:(0:Int)<=(k:Int):=by omega
 generalize es[k]=e at*;have HE:=Bi5 (show Fb l e=(!decide (e.f∈l)&&!decide (e.t∈l)) from rfl);generalize Fb l e=r at*;have HF:=Bi5 (fun W' hz=>HH.out W' hz e.f);have HT:=Bi5 (fun W' hz=>HH.out W' hz e.t);have HX:=Bi5 (fun p=>Ah W p);clear hW hc hn hbw HH;generalize decide (e.f∈l)=bf at*;generalize decide (e.t∈l)=bt at*;obtain ⟨f,t,x⟩:=e;simp only at HF HT g0 g1;have f1:=fun p=>Ac p c1;have f2:=fun p=>Ac p c2;have f3:=fun p=>Ac p c3;have y0:=fun p=>Ac p g0;have y1:=fun p=>Ac p g1
 cases bf<;>cases bt
 all_goals
  go_enter Tryz.func121,Tryz.ntmps121
  go_upto_region 1 with (fail)
  rw [<-HW.out];refine Ag (by kernel_rfl) (by kernel_rfl) ?_
  repeat (go_big_quiet_step ((first|(go_at_call_of 44 (Value.slice none 0 0);exact Calls.ext_of_same (HN.out _ _))|(go_at_call 44;first|with_reducible exact Calls.ext_of_same (HF.out _ (HX.out _))|with_reducible exact Calls.ext_of_same (HT.out _ (HX.out _))))))
  refine wpQuiet_nil ?_;rintro _ ⟨pq,rfl⟩;have HBq:=Bi5 (Ah W pq);generalize ext W pq=wq at HBq ⊢
  go_wp2
  go_ret
  exact ⟨by rw [HE.out];rfl,HB.out.st HBq.out⟩
end
section
open Ch
def Ah9 (back:Bool) (e:EdgeD):Arc:=⟨(Fe back e).1,(Fe back e).2,e.w⟩
def Bo (es:List EdgeD) (back:Bool) (no:List Int):List Arc:=(es.filter (Fb no)).map (Ah9 back)
def Db (back:Bool) (no:List Int) (p:List Int×Bool) (e:EdgeD):List Int×Bool:=if Fb no e then Dh p (Ah9 back e) else p
theorem Jh (back:Bool) (no:List Int):∀(es:List EdgeD) (p:List Int×Bool),es.foldl (Db back no) p=(Bo es back no).foldl Dh p
 |[],_=>rfl
 |e::es,p=>by
  rw [List.foldl_cons,Jh back no es];unfold Db Bo
  cases h:Fb no e<;>simp [List.filter_cons,h]
theorem Uy (es:List EdgeD) (back:Bool) (no d:List Int):es.foldl (Db back no) (d,false)=Cs d (Bo es back no):=Jh back no es _
theorem Xc {es:List EdgeD} {back:Bool} {no d:List Int} {k:Nat} (h:k<es.length):(es.take (k+1)).foldl (Db back no) (d,false)=Db back no ((es.take k).foldl (Db back no) (d,false)) es[k]:=by
 rw [Bk3 h,List.foldl_append];rfl
theorem Ad0 {no:List Int} {e:EdgeD}:Fb no e=true↔e.f∉no/\e.t∉no:=by
 unfold Fb;simp
theorem rel_arcs {es:List EdgeD} {back:Bool} {no:List Int} {u v w:Int}:rel (Bo es back no) u v w↔Bw back (Am es) u v w/\u∉no/\v∉no:=by
 unfold rel Bo Bw Am;simp only [List.mem_map,List.mem_filter,Ad0]
 cases back
 ·simp only [Bool.false_eq_true,if_false]
  constructor
  ·rintro ⟨e,⟨h1,h2,h3⟩,h4⟩
   cases h4
   exact ⟨⟨e,h1,rfl,rfl,rfl⟩,h2,h3⟩
  ·rintro ⟨⟨e,h1,rfl,rfl,rfl⟩,h2,h3⟩
   exact ⟨e,⟨h1,h2,h3⟩,rfl⟩
 ·simp only [if_true,Pk]
  constructor
  ·rintro ⟨e,⟨h1,h2,h3⟩,h4⟩
   cases h4
   exact ⟨⟨e,h1,rfl,rfl,rfl⟩,h3,h2⟩
  ·rintro ⟨⟨e,h1,rfl,rfl,rfl⟩,h2,h3⟩
   exact ⟨e,⟨h1,h3,h2⟩,rfl⟩
def AllIs (es:List EdgeD) (n:Nat) (s:Int) (back:Bool) (no d:List Int):Prop:=
 d.length=n/\(∀v,node n v->gD d v=FAR\/(0<=gD d v/\gD d v<=1152921504606846976))/\(s∈no->∀v,node n v->gD d v=FAR)/\(s∉no->Exact (Bo es back no) s n d)
structure Rds (L:List Arc) (s:Int) (n k:Nat) (B:Int) (d:List Int) (c:Bool):Prop where
 so:Sofar L s n (k*B) d
 left:left L s n d+k<=n\/left L s n d=0
 ex:c=false->Exact L s n d
theorem Rds.start (L:List Arc) {s:Int} {n:Nat} (B:Int) (hs:node n s):Rds L s n 0 B ((List.replicate n FAR).set s.toNat 0) true:=
 ⟨by rw [show ((0:Nat):Int)*B=0 by simp];exact Sofar.begin L hs,.inl (by have:=Bb2 L s n ((List.replicate n FAR).set s.toNat 0);omega),fun h=>by cases h⟩
theorem Rds.go {L:List Arc} {s:Int} {n k:Nat} {W B:Int} {d:List Int} {c:Bool} (hg:Ch.Good L n W) (hW:0<=W) (hs:node n s) (hB:(L.length:Int)*W<=B) (hk:k<=4096) (hm:4097*B+W<FAR) (h:Rds L s n k B d c):Rds L s n (k+1) B (Cs d L).1 (Cs d L).2:=by
 have h0:(0:Int)<=(L.length:Int)*W:=Int.mul_nonneg (by omega) hW;have h1:(k:Int)*B<=4096*B:=Int.mul_le_mul_of_nonneg_right (by omega) (by omega);obtain ⟨a1,a2,a3⟩:=Sofar.round hg hW hs h.so (by omega);have e:((k+1:Nat):Int)*B=k*B+B:=by push_cast;rw [Int.add_mul];omega
 refine ⟨a1.mono (by rw [e];omega),?_,a3⟩
 rcases a2 with a2|a2
 ·rcases h.left with h2|h2<;>omega
 ·exact .inr a2
theorem Rds.done {L:List Arc} {s:Int} {n k:Nat} {W B:Int} {d:List Int} {c:Bool} (hg:Ch.Good L n W) (h:Rds L s n k B d c) (he:c=false\/n<k):Exact L s n d:=by
 rcases he with he|he
 ·exact h.ex he
 ·exact h.so.zero hg (by rcases h.left with h2|h2<;>omega)
theorem Exact.is {es:List EdgeD} {n:Nat} {s:Int} {back:Bool} {no d:List Int} {k:Nat} {B:Int} (h:Exact (Bo es back no) s n d) (hso:Sofar (Bo es back no) s n (k*B) d) {W:Int} (hg:Ch.Good (Bo es back no) n W) (hs:s∉no) (hb:(k:Int)*B<=1152921504606846976):AllIs es n s back no d:=
 ⟨h.len,fun v hv=>(hso.way v hv).imp id fun k=>⟨k.1.nonneg hg.hA,by have:=k.2;omega⟩,fun k=>absurd k hs,fun _=>h⟩
theorem AllIs.out {es:List EdgeD} {n:Nat} {s:Int} {back:Bool} {no:List Int} (hs:s∈no):AllIs es n s back no (List.replicate n FAR):=by
 have h:∀v,node n v->gD (List.replicate n FAR) v=FAR:=by
  intro v hv;unfold gD;rw [Bj1,Bm5]
  split<;>rfl
 exact ⟨by simp,fun v hv=>.inl (h v hv),fun _=>h,fun k=>absurd hs k⟩
theorem Ap5 {es:List EdgeD} {n:Nat} {back:Bool} {no:List Int} (hA:∀u v w,Am es u v w->Aa n u/\Aa n v/\1<=w/\w<=4294967296):Ch.Good (Bo es back no) n 4294967296:=by
 have key:∀e∈Bo es back no,node n e.u/\node n e.v/\1<=e.w/\e.w<=4294967296:=by
  intro e he;have h:=(rel_arcs.1 (show rel (Bo es back no) e.u e.v e.w from he)).1;unfold Bw at h
  cases back
  ·exact hA _ _ _ h
  ·have:=hA _ _ _ (show Am es e.v e.u e.w from h)
   exact ⟨this.2.1,this.1,this.2.2⟩
 exact ⟨fun e he=>⟨(key e he).1,(key e he).2.1⟩,fun e he=>⟨(key e he).2.2.1,(key e he).2.2.2⟩⟩
theorem Yt {es:List EdgeD} {back:Bool} {no:List Int}:(Bo es back no).length<=es.length:=by
 unfold Bo;rw [Bm7];exact List.length_filter_le _ _
theorem Ba4 {es:List EdgeD} {n:Nat} {s:Int} {back:Bool} {no d:List Int} {m W:Int} (hg:Ch.Good (Bo es back no) n W) (hs:node n s) (hW:0<=W) (h:Sofar (Bo es back no) s n m d) (hm0:0<=m) (hm:m+es.length*W<FAR) (j:Nat):
  ((es.take j).foldl (Db back no) (d,false)).1.length=n/\∀v,node n v->0<=gD ((es.take j).foldl (Db back no) (d,false)).1 v/\gD ((es.take j).foldl (Db back no) (d,false)).1 v<=4611686018427387904:=by
 rw [Jh];have hsub:∀e∈Bo (es.take j) back no,e∈Bo es back no:=by
  intro e he;unfold Bo at he ⊢;obtain ⟨x,hx,rfl⟩:=List.mem_map.1 he;obtain ⟨h1,h2⟩:=List.mem_filter.1 hx;exact List.mem_map.2 ⟨x,List.mem_filter.2 ⟨List.mem_of_mem_take h1,h2⟩,rfl⟩
 obtain ⟨a,-,-,-⟩:=Sofar.part hg hs hW (Bo (es.take j) back no) d m false hsub h;have hl:(Bo (es.take j) back no).length<=es.length:=Bi9 Yt (by rw [List.length_take];omega);have h2:((Bo (es.take j) back no).length:Int)*W<=(es.length:Int)*W:=Int.mul_le_mul_of_nonneg_right (by omega) hW;have hF:FAR=4611686018427387904:=rfl;refine ⟨a.len,fun v hv=>?_⟩
 rcases a.way v hv with k|⟨k,k2⟩
 ·rw [k,hF];omega
 ·exact ⟨k.nonneg hg.hA,by omega⟩
def FarV (A:Int->Int->Int->Prop) (s v x:Int):Prop:=(Dist A s v x/\0<=x/\x<=1152921504606846976)\/(x=FAR/\∀e,¬Way0 A Any s v e)
theorem FarV.uniq {A:Int->Int->Int->Prop} {s v x y:Int} (h:FarV A s v x) (k:FarV A s v y):x=y:=by
 rcases h with ⟨h,_⟩|⟨rfl,h⟩<;>rcases k with ⟨k,_⟩|⟨rfl,k⟩
 ·exact h.uniq k
 ·exact absurd h.1 (k _)
 ·exact absurd k.1 (h _)
 ·rfl
theorem FarV.lt {A:Int->Int->Int->Prop} {s v x:Int} (h:FarV A s v x) (hx:x<FAR):Dist A s v x/\0<=x/\x<=1152921504606846976:=by
 rcases h with h|⟨rfl,_⟩
 ·exact h
 ·exact absurd hx (by decide)
theorem FarV.ge {A:Int->Int->Int->Prop} {s v x:Int} (h:FarV A s v x) (hx:¬x<FAR):x=FAR/\∀e,¬Way0 A Any s v e:=by
 rcases h with ⟨_,_,h⟩|h
 ·unfold FAR at hx;omega
 ·exact h
theorem FarV.in {A:Int->Int->Int->Prop} {s v x:Int} (h:FarV A s v x):0<=x/\x<=4611686018427387904:=by
 rcases h with ⟨_,h⟩|⟨rfl,_⟩
 ·omega
 ·unfold FAR;omega
theorem Ar9 (es:List EdgeD) (back:Bool):rel (Bo es back [])=Bw back (Am es):=by
 funext u v w
 exact propext (rel_arcs.trans ⟨fun h=>h.1,fun h=>⟨h,by simp,by simp⟩⟩)
theorem AllIs.farX {es:List EdgeD} {n:Nat} {s:Int} {back:Bool} {no d:List Int} (hA:∀u v w,rel (Bo es back no) u v w->1<=w) (h:AllIs es n s back no d) (hs:s∉no) {v:Int} (hv:node n v):FarV (rel (Bo es back no)) s v (gD d v):=by
 obtain ⟨h1,h2,h3,h4⟩:=h;have hE:=h4 hs
 by_cases hd:∃e,Dist (rel (Bo es back no)) s v e
 ·obtain ⟨e,he⟩:=hd
  refine .inl ⟨by rw [hE.dist v e hv he];exact he,?_⟩
  rcases h2 v hv with k|k
  ·exact absurd k (hE.fin v e hv he)
  ·exact k
 ·exact .inr ⟨hE.none v hv fun e he=>hd ⟨e,he⟩,fun e he=>hd (Fu hA he)⟩
theorem AllIs.far {es:List EdgeD} {n:Nat} {s:Int} {back:Bool} {d:List Int} (hA:∀u v w,Bw back (Am es) u v w->1<=w) (h:AllIs es n s back [] d) {v:Int} (hv:node n v):FarV (Bw back (Am es)) s v (gD d v):=by
 have:=h.farX (fun u v w k=>hA u v w (rel_arcs.1 k).1) (by simp) hv
 rwa [Ar9] at this
end
end Go.Proofs.YteaaapdjplbljaaGreat
