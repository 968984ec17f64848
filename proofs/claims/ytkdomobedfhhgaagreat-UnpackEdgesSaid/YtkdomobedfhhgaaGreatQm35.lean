/- Walk of package hier: Built. Walk of package query: both spaces, and how far it is. -/
import Derived.Test.YtkdomobedfhhgaaGreatProg
import Derived.Test.YtkdomobedfhhgaaGreatQm34
import Derived.Test.YtkdomobedfhhgaaGreatQm23
import Derived.Test.YtkdomobedfhhgaaGreatQm33
import Derived.Test.YtkdomobedfhhgaaGreatQm31
set_option linter.unusedVariables false
set_option linter.unusedSimpArgs false
set_option linter.unnecessarySimpa false
section
namespace Go.Proofs.YtkdomobedfhhgaaGreat
open Go Go.Proofs Go.RowKit Go.Shelf Go.Proofs.YtkdomobedfhhgaaGreat.Hp Go.Proofs.YtkdomobedfhhgaaGreat.Ch
def BltH (w:World) (hb:Nat) (g:GD) (R:List Int) (S:List SC) (out:List Int):Prop:=
 HierM w hb g.n.toNat g.es R S (rowsK R S g.n.toNat S.length).1 (rowsK R S g.n.toNat S.length).2∧HierOK g.es g.n.toNat R S out
def BltPost (g:GD) (k:Int) (w:World) (e:Ending) (w':World):Prop:=
 ((k=0∧∃hb R S out,e=.returned (.tuple #[.pointer (some ⟨hb,0,none⟩),.int .i64 0])∧BltH w' hb g R S out)∨(k≠0∧e=.returned (.tuple #[.pointer none,.int .i64 k])))∧Below w.heap.size w w'
def BltPost2 (r:List Int) (g:GD) (k:Int) (w:World) (e:Ending) (w':World):Prop:=
 ((k=0∧∃hb R S out,e=.returned (.tuple #[.pointer (some ⟨hb,0,none⟩),.int .i64 0])∧BltH w' hb g R S out∧(r≠[]→R=r))∨(k≠0∧e=.returned (.tuple #[.pointer none,.int .i64 k])))∧Below w.heap.size w w'
theorem BltPost2.weak {r:List Int} {g:GD} {k:Int} {w w':World} {e:Ending} (h:BltPost2 r g k w e w'):BltPost g k w e w':=
 ⟨h.1.imp (fun ⟨a,hb,R,S,out,b,c,_⟩=>⟨a,hb,R,S,out,b,c⟩) id,h.2⟩
theorem BltPost2.bad {r:List Int} {g:GD} {k:Int} {w w':World} (h:k≠0) (hb:Below w.heap.size w w'):BltPost2 r g k w (.returned (.tuple #[.pointer none,.int .i64 k])) w':=⟨.inr ⟨h,rfl⟩,hb⟩
set_option maxRecDepth 100000 in
set_option maxHeartbeats 4000000 in
theorem built2_any (g:GD) (ao ro:Option Addr) (cap rc:Nat) (hops settles:Int) (r:List Int) (w:World) (hc:Cel w ao (flat g.es)) (hr:Cel w ro (r.map encI)) (hg:rightG g=0→g.n≤26) (hl:g.es.length≤1000) (hrl:r.length≤1000000):
  Calls Tryz.prog 16 #[.agg #[.int .i64 g.n,.slice ao g.es.length cap],.agg #[.int .i64 hops,.int .i64 settles,.slice ro r.length rc]] w (BltPost2 r g (buildB g hops settles r) w):=by
 obtain ⟨W,hW⟩:∃W,W=(w.alloc (Obj.cells #[.int .i64 g.n,.slice ao g.es.length cap] 24)).alloc (Obj.cells #[.int .i64 hops,.int .i64 settles,.slice ro r.length rc] 27):=⟨_,rfl⟩
 have hbw:Below w.heap.size w W:=by rw [hW];exact (Below.of_al _ _).al _
 have c0:W.cell? ⟨w.heap.size,0,none⟩=some (.int .i64 g.n):=by rw [hW];go_simp
 have c1:W.cell? ⟨w.heap.size,1,none⟩=some (.slice ao g.es.length cap):=by rw [hW];go_simp
 have d0:W.cell? ⟨w.heap.size+1,0,none⟩=some (.int .i64 hops):=by rw [hW];go_simp
 have d1:W.cell? ⟨w.heap.size+1,1,none⟩=some (.int .i64 settles):=by rw [hW];go_simp
 have d2:W.cell? ⟨w.heap.size+1,2,none⟩=some (.slice ro r.length rc):=by rw [hW];go_simp
 have HBU:=Lib.hid (build_any g ao ro cap rc hops settles r W (hc.go hbw) (hr.go hbw) hg hl hrl)
 have HC:=Lib.hid (hc.go hbw)
 have HB:=Lib.hid hbw
 have HW:=Lib.hid hW
 have HG:=Lib.hid hg
 have HZ:=Lib.hid (show buildB g hops settles r=0→rightG g=0 from fun h=>by
  unfold buildB at h
  split at h
  ·cases h
  ·rename_i hn
   exact Decidable.byContradiction fun e=>hn (.inl e))
 generalize buildB g hops settles r=k at*
 unfold BuildPost at HBU
 clear hW hbw hc hr hg
 go_enter Tryz.func16,Tryz.ntmps16
 go_upto_region 1 with (fail)
 rw [←HW.out]
 go_upto_if 15 with (go_at_call 70;refine HBU.out.mono ?_;rintro e w1 ⟨R,S,a1,a2,k1,k2,rfl,h1,h2,h3,h4,hb1,h5,h6,h7⟩;(have H7:=Lib.hid h7);(have H1:=Lib.hid (And.intro h1 (And.intro h2 (And.intro h3 (And.intro h4 (And.intro h5 h6))))));(have HB1:=Lib.hid hb1);(have c0':=cell_later hb1 c0);(have c1':=cell_later hb1 c1);clear h1 h2 h3 h4 hb1 h5 h6 h7)
 by_cases hk:k=0
 ·subst hk
  have hgz:=HZ.out rfl
  obtain ⟨gn,es⟩:=g
  have hn1:=right_n hgz
  have hn2:=HG.out hgz
  simp only at hn1 hn2 hl c0 c1 c0' c1' HC
  obtain ⟨n,rfl⟩:∃n:Nat,gn=(n:Int):=⟨gn.toNat,by omega⟩
  obtain ⟨h1,h2,h3,-,h5,h6⟩:=H1.out
  obtain ⟨out,ho⟩:=BuiltOK.hier (edges_ok hgz rfl) (h3 rfl)
  have hba:=Below.of_al w1 (Obj.cells #[.slice a1 R.length k1,.slice a2 S.length k2] 45)
  have HN:=Lib.hid (new_ok n es R S ao a1 a2 cap k1 k2 _ ((HC.out.go HB1.out).go hba) (h1.go hba) (h2.go hba) (by omega) (by omega) (by have e:R.length=n:=ho.len;omega) h6 h5 (fun x hx=>by have e:=ho.ends x hx;exact ⟨e.1,e.2.1⟩) ho.len (madeR_built hgz rfl ho (by omega)))
  have HBA:=Lib.hid hba
  have HO:=Lib.hid ho
  have c02:=cell_later hba c0'
  have c12:=cell_later hba c1'
  clear hgz h1 h2 h3 h5 h6 ho hba hn1 hn2 H1
  unfold NewPost at HN
  go_wp2_with (go_at_call 54;refine HN.out.mono ?_;rintro e w3 ⟨hb,rfl,hh,hb3⟩;(have HH:=Lib.hid hh);(have HB3:=Lib.hid hb3);clear hh hb3)
  refine bodyPost_ret (v:=.tuple #[.pointer (some ⟨hb,0,none⟩),.int .i64 0]) (by simp [results,Tryz.results16,go_sem];try rfl) rfl ?_
  exact ⟨.inl ⟨rfl,hb,R,S,out,rfl,⟨HH.out,HO.out⟩,H7.out (by simp)⟩,HB.out.trans (((HB1.out.al _).st HB3.out).mono HB.out.size)⟩
 ·have hk2:(k != 0)=true:=by simpa using hk
  have HK:=Lib.hid hk
  clear hk
  go_wp2
  refine bodyPost_ret (v:=.tuple #[.pointer none,.int .i64 k]) (by simp [results,Tryz.results16,go_sem];try rfl) rfl ?_
  exact .bad HK.out (HB.out.trans ((HB1.out.al _).mono HB.out.size))
theorem built_any (g:GD) (ao ro:Option Addr) (cap rc:Nat) (hops settles:Int) (r:List Int) (w:World) (hc:Cel w ao (flat g.es)) (hr:Cel w ro (r.map encI)) (hg:rightG g=0→g.n≤26) (hl:g.es.length≤1000) (hrl:r.length≤1000000):
  Calls Tryz.prog 16 #[.agg #[.int .i64 g.n,.slice ao g.es.length cap],.agg #[.int .i64 hops,.int .i64 settles,.slice ro r.length rc]] w (BltPost g (buildB g hops settles r) w):=
 (built2_any g ao ro cap rc hops settles r w hc hr hg hl hrl).mono (fun _ _ h=>h.weak)
end Go.Proofs.YtkdomobedfhhgaaGreat
end
section
namespace Go.Proofs.YtkdomobedfhhgaaGreat
open Go Go.Proofs Go.RowKit Go.Shelf Go.Proofs.YtkdomobedfhhgaaGreat.Hp Go.Proofs.YtkdomobedfhhgaaGreat.Ch
theorem spaceBound {A:Int→Int→Int→Prop} {X:Nums} {r:Int→Int} {s B:Int} {out:List Lab} (h:Space A X r s out) (hB:∀i u v w,X i u v w→w≤B) (hB0:0≤B) (hr0:∀v,0≤r v):∀(k:Nat) (a:Lab),a∈out→(r a.v).toNat=k→a.d≤(k:Int)*B:=by
 intro k
 induction k using Nat.strongRecOn with
 |_ k ih=>
  intro a ha hk
  rcases h.way a ha with ⟨_,hd,_⟩|⟨x,w,hx,hr,b,hb,e1,e2⟩
  ·rw [hd];exact Int.mul_nonneg (by omega) hB0
  ·have h1:=hr0 x
   rw [←e1] at hr h1
   have h2:=ih (r b.v).toNat (by omega) b hb rfl
   have h3:=hB _ _ _ _ hx
   have h4:((r b.v).toNat:Int)+1≤(k:Int):=by omega
   have h5:=Int.mul_le_mul_of_nonneg_right h4 hB0
   rw [Int.add_mul,Int.one_mul] at h5
   omega
theorem labsOK {es:List EdgeD} {n:Nat} {R:List Int} {S:List SC} {ro:List Int} {back:Bool} {s:Nat} {l:List LB} (hok:HierOK es n R S ro) (h:Space (relB back (arcG es)) (XN S back) (rk ro) (s:Int) (l.map labOf)) (hs:s<n) (hn:n≤12):∀x∈l,nodeN n x.v∧0≤x.d∧x.d≤211106232532992:=by
 intro x hx
 have hm:labOf x∈l.map labOf:=List.mem_map.2 ⟨x,hx,rfl⟩
 have hH:=hok.hierB back
 have hw:=h.sound _ hm
 have hv:nodeN n x.v:=by
  rcases hw with ⟨e,_⟩|hw
  ·have e2:(s:Int)=x.v:=e
   rw [←e2]
   exact ⟨by omega,by omega⟩
  ·exact (hw.nodes hH.node).2
 refine ⟨hv,hw.nonneg hH.pos,?_⟩
 have hr0:∀v,0≤rk ro v:=fun v=>by unfold rk;omega
 have hB:=big12 hn
 have hB0:(0:Int)≤4294967296*2 ^ n:=by have:(0:Int)≤2 ^ n:=Int.le_of_lt (Int.pow_pos (by decide));omega
 have h1:=spaceBound (B:=4294967296*2 ^ n) h (fun i u v w hx=>by
  obtain ⟨x,_,hx1,hx2,_⟩:=hx
  rw [←hx2]
  exact hok.big x (List.mem_of_getElem? hx1)) hB0 hr0 _ (labOf x) hm rfl
 have h2:=hok.at1 x.v hv
 have h3:=rankB_in hok.rank (rk ro x.v) (List.mem_of_getElem? h2)
 rw [hok.len] at h3
 have h4:((rk ro x.v).toNat:Int)≤12:=by omega
 have h5:=Int.mul_le_mul_of_nonneg_right h4 hB0
 have h6:(labOf x).v=x.v:=rfl
 have h7:(labOf x).d=x.d:=rfl
 rw [h6,h7] at h1
 omega
theorem byF_spec:∀(l:List LB),l.Pairwise (fun a b=>a.v≠b.v)→∀u d,byF l u=some d↔∃x∈l,x.v=u∧x.d=d:=by
 intro l
 have key:∀(k:Nat),k≤l.length→l.Pairwise (fun a b=>a.v≠b.v)→∀u d,byF (l.take k) u=some d↔∃x∈l.take k,x.v=u∧x.d=d:=by
  intro k
  induction k with
  |zero=>intro _ _ u d;simp [byF]
  |succ k ih=>
   intro hk hp u d
   have hlt:k<l.length:=by omega
   rw [byF_take hlt,List.take_succ_eq_append_getElem hlt]
   unfold updM
   by_cases e:u=l[k].v
   ·rw [if_pos e]
    constructor
    ·intro h
     cases h
     exact ⟨l[k],List.mem_append_right _ (List.mem_singleton.2 rfl),e.symm,rfl⟩
    ·rintro ⟨x,hx,h1,h2⟩
     rcases List.mem_append.1 hx with hx|hx
     ·obtain ⟨i,hi,rfl⟩:=List.mem_iff_getElem.1 hx
      rw [List.length_take] at hi
      have h3:=List.pairwise_iff_getElem.1 hp i k (by omega) hlt (by omega)
      rw [List.getElem_take] at h1
      exact absurd (h1.trans e) h3
     ·rw [List.mem_singleton] at hx
      subst hx
      rw [h2]
   ·rw [if_neg e,ih (by omega) hp]
    constructor
    ·rintro ⟨x,hx,h1⟩
     exact ⟨x,List.mem_append_left _ hx,h1⟩
    ·rintro ⟨x,hx,h1,h2⟩
     rcases List.mem_append.1 hx with hx|hx
     ·exact ⟨x,hx,h1,h2⟩
     ·rw [List.mem_singleton] at hx
      subst hx
      exact absurd h1.symm e
 intro hp u d
 have:=key l.length (Nat.le_refl _) hp u d
 rwa [List.take_length] at this
theorem nearF_spec (f:Int→Option Int):∀(l:List LB),(∀a∈l,∀y,f a.v=some y→nearF f l≤a.d+y)∧(nearF f l=4611686018427387904∨∃a∈l,∃y,f a.v=some y∧nearF f l=a.d+y)∧nearF f l≤4611686018427387904:=by
 intro l
 have key:∀(k:Nat),k≤l.length→(∀a∈l.take k,∀y,f a.v=some y→nearF f (l.take k)≤a.d+y)∧(nearF f (l.take k)=4611686018427387904∨∃a∈l.take k,∃y,f a.v=some y∧nearF f (l.take k)=a.d+y)∧nearF f (l.take k)≤4611686018427387904:=by
  intro k
  induction k with
  |zero=>intro _;exact ⟨fun a ha=>by simp at ha,.inl rfl,Int.le_refl _⟩
  |succ k ih=>
   intro hk
   have hlt:k<l.length:=by omega
   obtain ⟨i1,i2,i3⟩:=ih (by omega)
   rw [nearF_take hlt,List.take_succ_eq_append_getElem hlt]
   unfold nearS
   cases hf:f l[k].v with
   |none=>
    simp only
    refine ⟨fun a ha y hy=>?_,i2.imp id (fun ⟨a,ha,h⟩=>⟨a,List.mem_append_left _ ha,h⟩),i3⟩
    rcases List.mem_append.1 ha with ha|ha
    ·exact i1 a ha y hy
    ·rw [List.mem_singleton] at ha
     subst ha
     rw [hf] at hy
     cases hy
   |some z=>
    simp only
    refine ⟨fun a ha y hy=>?_,?_,Int.le_trans (Int.min_le_left _ _) i3⟩
    ·rcases List.mem_append.1 ha with ha|ha
     ·exact Int.le_trans (Int.min_le_left _ _) (i1 a ha y hy)
     ·rw [List.mem_singleton] at ha
      subst ha
      rw [hf] at hy
      cases hy
      exact Int.min_le_right _ _
    ·rcases Int.le_total (nearF f (l.take k)) (l[k].d+z) with h|h
     ·rw [Int.min_eq_left h]
      exact i2.imp id (fun ⟨a,ha,h⟩=>⟨a,List.mem_append_left _ ha,h⟩)
     ·rw [Int.min_eq_right h]
      exact .inr ⟨l[k],List.mem_append_right _ (List.mem_singleton.2 rfl),z,hf,rfl⟩
 have:=key l.length (Nat.le_refl _)
 rwa [List.take_length] at this
def DistIs (n:Nat) (A:Int→Int→Int→Prop) (s t d k:Int):Prop:=
 (k=0∧nodeN n s∧nodeN n t∧Dist A s t d∧d≤1152921504606846976)∨(k=9∧d=0∧nodeN n s∧nodeN n t∧∀e,¬Way0 A Any s t e)∨(k=7∧d=0∧¬(nodeN n s∧nodeN n t))
theorem DistIs.uniq {n:Nat} {A:Int→Int→Int→Prop} {s t d k d' k':Int} (h:DistIs n A s t d k) (h':DistIs n A s t d' k'):d=d'∧k=k':=by
 rcases h with ⟨rfl,h1,h2,h3,_⟩|⟨rfl,rfl,h1,h2,h3⟩|⟨rfl,rfl,h1⟩<;>rcases h' with ⟨rfl,k1,k2,k3,_⟩|⟨rfl,rfl,k1,k2,k3⟩|⟨rfl,rfl,k1⟩
 ·exact ⟨h3.uniq k3,rfl⟩
 ·exact absurd h3.1 (k3 _)
 ·exact absurd ⟨h1,h2⟩ k1
 ·exact absurd k3.1 (h3 _)
 ·exact ⟨rfl,rfl⟩
 ·exact absurd ⟨h1,h2⟩ k1
 ·exact absurd ⟨k1,k2⟩ h1
 ·exact absurd ⟨k1,k2⟩ h1
 ·exact ⟨rfl,rfl⟩
theorem near_dist {es:List EdgeD} {n:Nat} {R:List Int} {S:List SC} {ro:List Int} {s t:Nat} {la lb:List LB} (hok:HierOK es n R S ro) (hn:n≤12) (hs:s<n) (ht:t<n) (ha:Space (relB false (arcG es)) (XN S false) (rk ro) (s:Int) (la.map labOf)) (hb:Space (relB true (arcG es)) (XN S true) (rk ro) (t:Int) (lb.map labOf)):
  (4611686018427387904≤nearF (byF lb) la∧DistIs n (arcG es) s t 0 9)∨(nearF (byF lb) la<4611686018427387904∧DistIs n (arcG es) s t (nearF (byF lb) la) 0):=by
 have hH:=hok.hierB false
 have hns:nodeN n (s:Int):=⟨by omega,by omega⟩
 have hnt:nodeN n (t:Int):=⟨by omega,by omega⟩
 have hpw:lb.Pairwise (fun a b=>a.v≠b.v):=by
  have h9:=hb.once
  rw [List.pairwise_map] at h9
  exact h9
 obtain ⟨b1,b2⟩:=Space.both (A:=arcG es) (X:=XN S false) (Y:=XN S true) hH ha hb
 obtain ⟨n1,n2,n3⟩:=nearF_spec (byF lb) la
 have hla:=labsOK hok ha hs hn
 have hlb:=labsOK hok hb ht hn
 rcases n2 with e|⟨a,hia,y,hy,e⟩
 ·refine .inl ⟨by omega,.inr (.inl ⟨rfl,rfl,hns,hnt,fun d hd=>?_⟩)⟩
  obtain ⟨d',hd'⟩:=dist_some hH.pos hd
  obtain ⟨a,ha1,b,hb1,e1,e2⟩:=b2 d' hd'
  obtain ⟨x,hx,rfl⟩:=List.mem_map.1 ha1
  obtain ⟨z,hz,rfl⟩:=List.mem_map.1 hb1
  have h1:=n1 x hx z.d ((byF_spec lb hpw _ _).2 ⟨z,hz,e1.symm,rfl⟩)
  have h2:=(hla x hx).2.2
  have h3:=(hlb z hz).2.2
  omega
 ·obtain ⟨z,hz,e1,rfl⟩:=(byF_spec lb hpw _ _).1 hy
  have h2:=(hla a hia).2.2
  have h3:=(hlb z hz).2.2
  have hw:=b1 (labOf a) (List.mem_map.2 ⟨a,hia,rfl⟩) (labOf z) (List.mem_map.2 ⟨z,hz,rfl⟩) e1.symm
  have hw':Way0 (arcG es) Any (s:Int) (t:Int) (nearF (byF lb) la):=by rw [e];exact hw
  refine .inr ⟨by omega,.inl ⟨rfl,hns,hnt,⟨hw',fun d hd=>?_⟩,by omega⟩⟩
  obtain ⟨d',hd'⟩:=dist_some hH.pos hd
  obtain ⟨a',ha1,b',hb1,e1',e2'⟩:=b2 d' hd'
  obtain ⟨x,hx,rfl⟩:=List.mem_map.1 ha1
  obtain ⟨z',hz',rfl⟩:=List.mem_map.1 hb1
  have h1:=n1 x hx z'.d ((byF_spec lb hpw _ _).2 ⟨z',hz',e1'.symm,rfl⟩)
  have h9:=hd'.2 d hd
  have h8:x.d+z'.d=d':=e2'
  omega
end Go.Proofs.YtkdomobedfhhgaaGreat
end
