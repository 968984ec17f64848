/- Walk of package hier: Built. Walk of package query: both spaces, and how far it is. Walk of package query: both, Dist. Walk of package table: right. And the reference's Nodes. Walks: one row behind another (slices.Grow, slices.Concat of two). -/
import Derived.Test.YteaaapdjplbljaaGreatProg
import Derived.Test.YteaaapdjplbljaaGreatLw32
import Derived.Test.YteaaapdjplbljaaGreatLw24
import Derived.Test.YteaaapdjplbljaaGreatLw31
import Derived.Test.YteaaapdjplbljaaGreatLw29
import Derived.Test.YteaaapdjplbljaaGreatLw15
import Derived.Deep.Cut
import Derived.Test.YteaaapdjplbljaaGreatLw23
import Derived.Lib.AppendZeros
import Derived.Laws.OwnMore
import Derived.Test.YteaaapdjplbljaaGreatLw12
set_option linter.unusedVariables false
set_option linter.unusedSimpArgs false
set_option linter.unnecessarySimpa false
section
namespace Go.Proofs.YteaaapdjplbljaaGreat
open Go Go.Proofs Go.RowKit Go.Shelf Go.Proofs.YteaaapdjplbljaaGreat.Hp Go.Proofs.YteaaapdjplbljaaGreat.Ch
def BltH (w:World) (hb:Nat) (g:GD) (R:List Int) (S:List SC) (out:List Int):Prop:=
 HierM w hb g.n.toNat g.es R S (rowsK R S g.n.toNat S.length).1 (rowsK R S g.n.toNat S.length).2∧HierOK g.es g.n.toNat R S out
def BltPost (g:GD) (k:Int) (w:World) (e:Ending) (w':World):Prop:=
 ((k=0∧∃hb R S out,e=.returned (.tuple #[.pointer (some ⟨hb,0,none⟩),.int .i64 0])∧BltH w' hb g R S out)∨(k≠0∧e=.returned (.tuple #[.pointer none,.int .i64 k])))∧Below w.heap.size w w'
def BltPost2 (r:List Int) (g:GD) (k:Int) (w:World) (e:Ending) (w':World):Prop:=
 ((k=0∧∃hb R S out,e=.returned (.tuple #[.pointer (some ⟨hb,0,none⟩),.int .i64 0])∧BltH w' hb g R S out∧(r≠[]→R=r))∨(k≠0∧e=.returned (.tuple #[.pointer none,.int .i64 k])))∧Below w.heap.size w w'
theorem BltPost2.weak {r:List Int} {g:GD} {k:Int} {w w':World} {e:Ending} (h:BltPost2 r g k w e w'):BltPost g k w e w':=
 ⟨h.1.imp (fun ⟨a,hb,R,S,out,b,c,_⟩=>⟨a,hb,R,S,out,b,c⟩) id,h.2⟩
theorem BltPost2.bad {r:List Int} {g:GD} {k:Int} {w w':World} (h:k≠0) (hb:Below w.heap.size w w'):BltPost2 r g k w (.returned (.tuple #[.pointer none,.int .i64 k])) w':=⟨.inr ⟨h,rfl⟩,hb⟩
set_option maxRecDepth 100000 in
set_option maxHeartbeats 4000000 in
theorem built2_any (g:GD) (ao ro:Option Addr) (cap rc:Nat) (hops settles:Int) (r:List Int) (w:World) (hc:Cel w ao (flat g.es)) (hr:Cel w ro (r.map encI)) (hg:rightG g=0→g.n≤26) (hl:g.es.length≤1000) (hrl:r.length≤1000000):
  Calls Tryz.prog 13 #[.agg #[.int .i64 g.n,.slice ao g.es.length cap],.agg #[.int .i64 hops,.int .i64 settles,.slice ro r.length rc]] w (BltPost2 r g (buildB g hops settles r) w):=by
 obtain ⟨W,hW⟩:∃W,W=(w.alloc (Obj.cells #[.int .i64 g.n,.slice ao g.es.length cap] 24)).alloc (Obj.cells #[.int .i64 hops,.int .i64 settles,.slice ro r.length rc] 27):=⟨_,rfl⟩
 have hbw:Below w.heap.size w W:=by rw [hW];exact (Below.of_al _ _).al _
 have c0:W.cell? ⟨w.heap.size,0,none⟩=some (.int .i64 g.n):=by rw [hW];go_simp
 have c1:W.cell? ⟨w.heap.size,1,none⟩=some (.slice ao g.es.length cap):=by rw [hW];go_simp
 have d0:W.cell? ⟨w.heap.size+1,0,none⟩=some (.int .i64 hops):=by rw [hW];go_simp
 have d1:W.cell? ⟨w.heap.size+1,1,none⟩=some (.int .i64 settles):=by rw [hW];go_simp
 have d2:W.cell? ⟨w.heap.size+1,2,none⟩=some (.slice ro r.length rc):=by rw [hW];go_simp
 have HBU:=Lib.hid (build_any g ao ro cap rc hops settles r W (hc.go hbw) (hr.go hbw) hg hl hrl)
 have HC:=Lib.hid (hc.go hbw)
 have HB:=Lib.hid hbw
 have HW:=Lib.hid hW
 have HG:=Lib.hid hg
 have HZ:=Lib.hid (show buildB g hops settles r=0→rightG g=0 from fun h=>by
  unfold buildB at h
  split at h
  ·cases h
  ·rename_i hn
   exact Decidable.byContradiction fun e=>hn (.inl e))
 generalize buildB g hops settles r=k at*
 unfold BuildPost at HBU
 clear hW hbw hc hr hg
 go_enter Tryz.func13,Tryz.ntmps13
 go_upto_region 1 with (fail)
 rw [←HW.out]
 go_upto_if 15 with (go_at_call 58;refine HBU.out.mono ?_;rintro e w1 ⟨R,S,a1,a2,k1,k2,rfl,h1,h2,h3,h4,hb1,h5,h6,h7⟩;(have H7:=Lib.hid h7);(have H1:=Lib.hid (And.intro h1 (And.intro h2 (And.intro h3 (And.intro h4 (And.intro h5 h6))))));(have HB1:=Lib.hid hb1);(have c0':=cell_later hb1 c0);(have c1':=cell_later hb1 c1);clear h1 h2 h3 h4 hb1 h5 h6 h7)
 by_cases hk:k=0
 ·subst hk
  have hgz:=HZ.out rfl
  obtain ⟨gn,es⟩:=g
  have hn1:=right_n hgz
  have hn2:=HG.out hgz
  simp only at hn1 hn2 hl c0 c1 c0' c1' HC
  obtain ⟨n,rfl⟩:∃n:Nat,gn=(n:Int):=⟨gn.toNat,by omega⟩
  obtain ⟨h1,h2,h3,-,h5,h6⟩:=H1.out
  obtain ⟨out,ho⟩:=BuiltOK.hier (edges_ok hgz rfl) (h3 rfl)
  have hba:=Below.of_al w1 (Obj.cells #[.slice a1 R.length k1,.slice a2 S.length k2] 81)
  have HN:=Lib.hid (new_ok n es R S ao a1 a2 cap k1 k2 _ ((HC.out.go HB1.out).go hba) (h1.go hba) (h2.go hba) (by omega) (by omega) (by have e:R.length=n:=ho.len;omega) h6 h5 (fun x hx=>by have e:=ho.ends x hx;exact ⟨e.1,e.2.1⟩) ho.len (madeR_built hgz rfl ho (by omega)))
  have HBA:=Lib.hid hba
  have HO:=Lib.hid ho
  have c02:=cell_later hba c0'
  have c12:=cell_later hba c1'
  clear hgz h1 h2 h3 h5 h6 ho hba hn1 hn2 H1
  unfold NewPost at HN
  go_wp2_with (go_at_call 59;refine HN.out.mono ?_;rintro e w3 ⟨hb,rfl,hh,hb3⟩;(have HH:=Lib.hid hh);(have HB3:=Lib.hid hb3);clear hh hb3)
  refine bodyPost_ret (v:=.tuple #[.pointer (some ⟨hb,0,none⟩),.int .i64 0]) (by simp [results,Tryz.results13,go_sem];try rfl) rfl ?_
  exact ⟨.inl ⟨rfl,hb,R,S,out,rfl,⟨HH.out,HO.out⟩,H7.out (by simp)⟩,HB.out.trans (((HB1.out.al _).st HB3.out).mono HB.out.size)⟩
 ·have hk2:(k != 0)=true:=by simpa using hk
  have HK:=Lib.hid hk
  clear hk
  go_wp2
  refine bodyPost_ret (v:=.tuple #[.pointer none,.int .i64 k]) (by simp [results,Tryz.results13,go_sem];try rfl) rfl ?_
  exact .bad HK.out (HB.out.trans ((HB1.out.al _).mono HB.out.size))
theorem built_any (g:GD) (ao ro:Option Addr) (cap rc:Nat) (hops settles:Int) (r:List Int) (w:World) (hc:Cel w ao (flat g.es)) (hr:Cel w ro (r.map encI)) (hg:rightG g=0→g.n≤26) (hl:g.es.length≤1000) (hrl:r.length≤1000000):
  Calls Tryz.prog 13 #[.agg #[.int .i64 g.n,.slice ao g.es.length cap],.agg #[.int .i64 hops,.int .i64 settles,.slice ro r.length rc]] w (BltPost g (buildB g hops settles r) w):=
 (built2_any g ao ro cap rc hops settles r w hc hr hg hl hrl).mono (fun _ _ h=>h.weak)
end Go.Proofs.YteaaapdjplbljaaGreat
end
section
namespace Go.Proofs.YteaaapdjplbljaaGreat
open Go Go.Proofs Go.RowKit Go.Shelf Go.Proofs.YteaaapdjplbljaaGreat.Hp Go.Proofs.YteaaapdjplbljaaGreat.Ch
theorem spaceBound {A:Int→Int→Int→Prop} {X:Nums} {r:Int→Int} {s B:Int} {out:List Lab} (h:Space A X r s out) (hB:∀i u v w,X i u v w→w≤B) (hB0:0≤B) (hr0:∀v,0≤r v):∀(k:Nat) (a:Lab),a∈out→(r a.v).toNat=k→a.d≤(k:Int)*B:=by
 intro k
 induction k using Nat.strongRecOn with
 |_ k ih=>
  intro a ha hk
  rcases h.way a ha with ⟨_,hd,_⟩|⟨x,w,hx,hr,b,hb,e1,e2⟩
  ·rw [hd];exact Int.mul_nonneg (by omega) hB0
  ·have h1:=hr0 x
   rw [←e1] at hr h1
   have h2:=ih (r b.v).toNat (by omega) b hb rfl
   have h3:=hB _ _ _ _ hx
   have h4:((r b.v).toNat:Int)+1≤(k:Int):=by omega
   have h5:=Int.mul_le_mul_of_nonneg_right h4 hB0
   rw [Int.add_mul,Int.one_mul] at h5
   omega
theorem labsOK {es:List EdgeD} {n:Nat} {R:List Int} {S:List SC} {ro:List Int} {back:Bool} {s:Nat} {l:List LB} (hok:HierOK es n R S ro) (h:Space (relB back (arcG es)) (XN S back) (rk ro) (s:Int) (l.map labOf)) (hs:s<n) (hn:n≤12):∀x∈l,nodeN n x.v∧0≤x.d∧x.d≤211106232532992:=by
 intro x hx
 have hm:labOf x∈l.map labOf:=List.mem_map.2 ⟨x,hx,rfl⟩
 have hH:=hok.hierB back
 have hw:=h.sound _ hm
 have hv:nodeN n x.v:=by
  rcases hw with ⟨e,_⟩|hw
  ·have e2:(s:Int)=x.v:=e
   rw [←e2]
   exact ⟨by omega,by omega⟩
  ·exact (hw.nodes hH.node).2
 refine ⟨hv,hw.nonneg hH.pos,?_⟩
 have hr0:∀v,0≤rk ro v:=fun v=>by unfold rk;omega
 have hB:=big12 hn
 have hB0:(0:Int)≤4294967296*2 ^ n:=by have:(0:Int)≤2 ^ n:=Int.le_of_lt (Int.pow_pos (by decide));omega
 have h1:=spaceBound (B:=4294967296*2 ^ n) h (fun i u v w hx=>by
  obtain ⟨x,_,hx1,hx2,_⟩:=hx
  rw [←hx2]
  exact hok.big x (List.mem_of_getElem? hx1)) hB0 hr0 _ (labOf x) hm rfl
 have h2:=hok.at1 x.v hv
 have h3:=rankB_in hok.rank (rk ro x.v) (List.mem_of_getElem? h2)
 rw [hok.len] at h3
 have h4:((rk ro x.v).toNat:Int)≤12:=by omega
 have h5:=Int.mul_le_mul_of_nonneg_right h4 hB0
 have h6:(labOf x).v=x.v:=rfl
 have h7:(labOf x).d=x.d:=rfl
 rw [h6,h7] at h1
 omega
theorem byF_spec:∀(l:List LB),l.Pairwise (fun a b=>a.v≠b.v)→∀u d,byF l u=some d↔∃x∈l,x.v=u∧x.d=d:=by
 intro l
 have key:∀(k:Nat),k≤l.length→l.Pairwise (fun a b=>a.v≠b.v)→∀u d,byF (l.take k) u=some d↔∃x∈l.take k,x.v=u∧x.d=d:=by
  intro k
  induction k with
  |zero=>intro _ _ u d;simp [byF]
  |succ k ih=>
   intro hk hp u d
   have hlt:k<l.length:=by omega
   rw [byF_take hlt,List.take_succ_eq_append_getElem hlt]
   unfold updM
   by_cases e:u=l[k].v
   ·rw [if_pos e]
    constructor
    ·intro h
     cases h
     exact ⟨l[k],List.mem_append_right _ (List.mem_singleton.2 rfl),e.symm,rfl⟩
    ·rintro ⟨x,hx,h1,h2⟩
     rcases List.mem_append.1 hx with hx|hx
     ·obtain ⟨i,hi,rfl⟩:=List.mem_iff_getElem.1 hx
      rw [List.length_take] at hi
      have h3:=List.pairwise_iff_getElem.1 hp i k (by omega) hlt (by omega)
      rw [List.getElem_take] at h1
      exact absurd (h1.trans e) h3
     ·rw [List.mem_singleton] at hx
      subst hx
      rw [h2]
   ·rw [if_neg e,ih (by omega) hp]
    constructor
    ·rintro ⟨x,hx,h1⟩
     exact ⟨x,List.mem_append_left _ hx,h1⟩
    ·rintro ⟨x,hx,h1,h2⟩
     rcases List.mem_append.1 hx with hx|hx
     ·exact ⟨x,hx,h1,h2⟩
     ·rw [List.mem_singleton] at hx
      subst hx
      exact absurd h1.symm e
 intro hp u d
 have:=key l.length (Nat.le_refl _) hp u d
 rwa [List.take_length] at this
theorem nearF_spec (f:Int→Option Int):∀(l:List LB),(∀a∈l,∀y,f a.v=some y→nearF f l≤a.d+y)∧(nearF f l=4611686018427387904∨∃a∈l,∃y,f a.v=some y∧nearF f l=a.d+y)∧nearF f l≤4611686018427387904:=by
 intro l
 have key:∀(k:Nat),k≤l.length→(∀a∈l.take k,∀y,f a.v=some y→nearF f (l.take k)≤a.d+y)∧(nearF f (l.take k)=4611686018427387904∨∃a∈l.take k,∃y,f a.v=some y∧nearF f (l.take k)=a.d+y)∧nearF f (l.take k)≤4611686018427387904:=by
  intro k
  induction k with
  |zero=>intro _;exact ⟨fun a ha=>by simp at ha,.inl rfl,Int.le_refl _⟩
  |succ k ih=>
   intro hk
   have hlt:k<l.length:=by omega
   obtain ⟨i1,i2,i3⟩:=ih (by omega)
   rw [nearF_take hlt,List.take_succ_eq_append_getElem hlt]
   unfold nearS
   cases hf:f l[k].v with
   |none=>
    simp only
    refine ⟨fun a ha y hy=>?_,i2.imp id (fun ⟨a,ha,h⟩=>⟨a,List.mem_append_left _ ha,h⟩),i3⟩
    rcases List.mem_append.1 ha with ha|ha
    ·exact i1 a ha y hy
    ·rw [List.mem_singleton] at ha
     subst ha
     rw [hf] at hy
     cases hy
   |some z=>
    simp only
    refine ⟨fun a ha y hy=>?_,?_,Int.le_trans (Int.min_le_left _ _) i3⟩
    ·rcases List.mem_append.1 ha with ha|ha
     ·exact Int.le_trans (Int.min_le_left _ _) (i1 a ha y hy)
     ·rw [List.mem_singleton] at ha
      subst ha
      rw [hf] at hy
      cases hy
      exact Int.min_le_right _ _
    ·rcases Int.le_total (nearF f (l.take k)) (l[k].d+z) with h|h
     ·rw [Int.min_eq_left h]
      exact i2.imp id (fun ⟨a,ha,h⟩=>⟨a,List.mem_append_left _ ha,h⟩)
     ·rw [Int.min_eq_right h]
      exact .inr ⟨l[k],List.mem_append_right _ (List.mem_singleton.2 rfl),z,hf,rfl⟩
 have:=key l.length (Nat.le_refl _)
 rwa [List.take_length] at this
def DistIs (n:Nat) (A:Int→Int→Int→Prop) (s t d k:Int):Prop:=
 (k=0∧nodeN n s∧nodeN n t∧Dist A s t d∧d≤1152921504606846976)∨(k=9∧d=0∧nodeN n s∧nodeN n t∧∀e,¬Way0 A Any s t e)∨(k=7∧d=0∧¬(nodeN n s∧nodeN n t))
theorem DistIs.uniq {n:Nat} {A:Int→Int→Int→Prop} {s t d k d' k':Int} (h:DistIs n A s t d k) (h':DistIs n A s t d' k'):d=d'∧k=k':=by
 rcases h with ⟨rfl,h1,h2,h3,_⟩|⟨rfl,rfl,h1,h2,h3⟩|⟨rfl,rfl,h1⟩<;>rcases h' with ⟨rfl,k1,k2,k3,_⟩|⟨rfl,rfl,k1,k2,k3⟩|⟨rfl,rfl,k1⟩
 ·exact ⟨h3.uniq k3,rfl⟩
 ·exact absurd h3.1 (k3 _)
 ·exact absurd ⟨h1,h2⟩ k1
 ·exact absurd k3.1 (h3 _)
 ·exact ⟨rfl,rfl⟩
 ·exact absurd ⟨h1,h2⟩ k1
 ·exact absurd ⟨k1,k2⟩ h1
 ·exact absurd ⟨k1,k2⟩ h1
 ·exact ⟨rfl,rfl⟩
theorem near_dist {es:List EdgeD} {n:Nat} {R:List Int} {S:List SC} {ro:List Int} {s t:Nat} {la lb:List LB} (hok:HierOK es n R S ro) (hn:n≤12) (hs:s<n) (ht:t<n) (ha:Space (relB false (arcG es)) (XN S false) (rk ro) (s:Int) (la.map labOf)) (hb:Space (relB true (arcG es)) (XN S true) (rk ro) (t:Int) (lb.map labOf)):
  (4611686018427387904≤nearF (byF lb) la∧DistIs n (arcG es) s t 0 9)∨(nearF (byF lb) la<4611686018427387904∧DistIs n (arcG es) s t (nearF (byF lb) la) 0):=by
 have hH:=hok.hierB false
 have hns:nodeN n (s:Int):=⟨by omega,by omega⟩
 have hnt:nodeN n (t:Int):=⟨by omega,by omega⟩
 have hpw:lb.Pairwise (fun a b=>a.v≠b.v):=by
  have h9:=hb.once
  rw [List.pairwise_map] at h9
  exact h9
 obtain ⟨b1,b2⟩:=Space.both (A:=arcG es) (X:=XN S false) (Y:=XN S true) hH ha hb
 obtain ⟨n1,n2,n3⟩:=nearF_spec (byF lb) la
 have hla:=labsOK hok ha hs hn
 have hlb:=labsOK hok hb ht hn
 rcases n2 with e|⟨a,hia,y,hy,e⟩
 ·refine .inl ⟨by omega,.inr (.inl ⟨rfl,rfl,hns,hnt,fun d hd=>?_⟩)⟩
  obtain ⟨d',hd'⟩:=dist_some hH.pos hd
  obtain ⟨a,ha1,b,hb1,e1,e2⟩:=b2 d' hd'
  obtain ⟨x,hx,rfl⟩:=List.mem_map.1 ha1
  obtain ⟨z,hz,rfl⟩:=List.mem_map.1 hb1
  have h1:=n1 x hx z.d ((byF_spec lb hpw _ _).2 ⟨z,hz,e1.symm,rfl⟩)
  have h2:=(hla x hx).2.2
  have h3:=(hlb z hz).2.2
  omega
 ·obtain ⟨z,hz,e1,rfl⟩:=(byF_spec lb hpw _ _).1 hy
  have h2:=(hla a hia).2.2
  have h3:=(hlb z hz).2.2
  have hw:=b1 (labOf a) (List.mem_map.2 ⟨a,hia,rfl⟩) (labOf z) (List.mem_map.2 ⟨z,hz,rfl⟩) e1.symm
  have hw':Way0 (arcG es) Any (s:Int) (t:Int) (nearF (byF lb) la):=by rw [e];exact hw
  refine .inr ⟨by omega,.inl ⟨rfl,hns,hnt,⟨hw',fun d hd=>?_⟩,by omega⟩⟩
  obtain ⟨d',hd'⟩:=dist_some hH.pos hd
  obtain ⟨a',ha1,b',hb1,e1',e2'⟩:=b2 d' hd'
  obtain ⟨x,hx,rfl⟩:=List.mem_map.1 ha1
  obtain ⟨z',hz',rfl⟩:=List.mem_map.1 hb1
  have h1:=n1 x hx z'.d ((byF_spec lb hpw _ _).2 ⟨z',hz',e1'.symm,rfl⟩)
  have h9:=hd'.2 d hd
  have h8:x.d+z'.d=d':=e2'
  omega
end Go.Proofs.YteaaapdjplbljaaGreat
end
section
namespace Go.Proofs.YteaaapdjplbljaaGreat
open Go Go.Proofs Go.RowKit Go.Shelf Go.Proofs.YteaaapdjplbljaaGreat.Hp Go.Proofs.YteaaapdjplbljaaGreat.Ch
theorem in6_of {n:Nat} {u:Int} (h:nodeN n u) (hn:n≤12):In6 u:=⟨by have:=h.1;omega,by have:=h.2;omega⟩
structure BH (w:World) (hb n:Nat) (es:List EdgeD) (R:List Int) (S:List SC) (ro:List Int):Prop where
 mem:HierM w hb n es R S (rowsK R S n S.length).1 (rowsK R S n S.length).2
 ok:HierOK es n R S ro
 le:n≤12
 pos:0<n
theorem BH.go {w w':World} {hb n:Nat} {es:List EdgeD} {R:List Int} {S:List SC} {ro:List Int} (h:BH w hb n es R S ro) (hz:Below w.heap.size w w'):BH w' hb n es R S ro:=⟨h.mem.go hz,h.ok,h.le,h.pos⟩
def BothPost (es:List EdgeD) (S:List SC) (ro:List Int) (s t n:Nat) (w:World) (e:Ending) (w':World):Prop:=
 ∃(ao bo:Option Addr) (ca cb:Nat) (la lb:List LB),e=.returned (.tuple #[.slice ao la.length ca,.slice bo lb.length cb,.int .i64 0])∧Cel w' ao (flatB la)∧Cel w' bo (flatB lb)∧Below w.heap.size w w'∧
  Space (relB false (arcG es)) (XN S false) (rk ro) (s:Int) (la.map labOf)∧Space (relB true (arcG es)) (XN S true) (rk ro) (t:Int) (lb.map labOf)∧la.length≤n∧lb.length≤n∧la.Pairwise (fun a b=>a.v≤b.v)
theorem both_ok (hb n:Nat) (es:List EdgeD) (R:List Int) (S:List SC) (ro:List Int) (s t:Nat) (w:World) (h:BH w hb n es R S ro) (hs:s<n) (ht:t<n):
  Calls Tryz.prog 141 #[.pointer (some ⟨hb,0,none⟩),.int .i64 (s:Int),.int .i64 (t:Int)] w (BothPost es S ro s t n w):=by
 have HA:=Lib.hid (space_any hb n es R S ro s false w h.mem h.ok h.le hs)
 have HB:=Lib.hid (fun W (hz:Below w.heap.size w W)=>space_any hb n es R S ro t true W (h.mem.go hz) h.ok h.le ht)
 unfold SpacePost at HA HB
 clear h
 go_enter Tryz.func141,Tryz.ntmps141
 go_upto_if 16 with (go_at_call 123;refine HA.out.mono ?_;rintro e w1 ⟨ao,ca,la,rfl,h1,h2,h3,h4⟩;(have H1:=Lib.hid (And.intro h1 (And.intro h2 (And.intro h3 h4))));clear h1 h2 h3 h4)
 go_wp2_with (go_at_call 123;refine (HB.out _ H1.out.2.1).mono ?_;rintro e w2 ⟨bo,cb,lb,rfl,k1,k2,k3,k4⟩;(have H2:=Lib.hid (And.intro k1 (And.intro k2 (And.intro k3 k4))));clear k1 k2 k3 k4)
 refine bodyPost_ret (v:=.tuple #[.slice ao la.length ca,.slice bo lb.length cb,.int .i64 0]) (by simp [results,Tryz.results141,go_sem];try rfl) rfl ?_
 obtain ⟨h1,h2,h3,h4⟩:=H1.out
 obtain ⟨k1,k2,k3,k4⟩:=H2.out
 exact ⟨ao,bo,ca,cb,la,lb,rfl,h1.go k2,k1,h2.st k2,h3,k3,h4.1,k4.1,h4.2.1⟩
theorem both_off (hb n:Nat) (es:List EdgeD) (R:List Int) (S:List SC) (ro:List Int) (s t:Int) (w:World) (h:BH w hb n es R S ro) (hst:¬(nodeN n s∧nodeN n t)):
  Calls Tryz.prog 141 #[.pointer (some ⟨hb,0,none⟩),.int .i64 s,.int .i64 t] w fun e w'=>(∃a b,e=.returned (.tuple #[a,b,.int .i64 7]))∧Below w.heap.size w w':=by
 by_cases hs:nodeN n s
 ·obtain ⟨u,rfl⟩:∃u:Nat,s=u:=⟨s.toNat,by have:=hs.1;omega⟩
  have hu:u<n:=by have:=hs.2;omega
  have ht:t<0∨(n:Int)≤t:=by
   have h9:¬nodeN n t:=fun k=>hst ⟨hs,k⟩
   unfold nodeN at h9
   omega
  have HA:=Lib.hid (space_any hb n es R S ro u false w h.mem h.ok h.le hu)
  have HB:=Lib.hid (fun W (hz:Below w.heap.size w W)=>space_off hb n es R S _ _ t true W (h.mem.go hz) h.pos ht)
  unfold SpacePost at HA
  clear h ht hst hs
  go_enter Tryz.func141,Tryz.ntmps141
  go_upto_if 16 with (go_at_call 123;refine HA.out.mono ?_;rintro e w1 ⟨ao,ca,la,rfl,h1,h2,h3,h4⟩;(have H1:=Lib.hid h2);clear h1 h2 h3 h4)
  go_wp2_with (go_at_call 123;refine (HB.out _ H1.out).mono ?_;rintro e w2 ⟨rfl,k2⟩;(have H2:=Lib.hid k2);clear k2)
  refine bodyPost_ret (v:=.tuple #[.slice ao la.length ca,.slice none 0 0,.int .i64 7]) (by simp [results,Tryz.results141,go_sem];try rfl) rfl ?_
  exact ⟨⟨_,_,rfl⟩,H1.out.st H2.out⟩
 ·have hs2:s<0∨(n:Int)≤s:=by unfold nodeN at hs;omega
  have HA:=Lib.hid (space_off hb n es R S _ _ s false w h.mem h.pos hs2)
  clear h hst hs hs2
  go_enter Tryz.func141,Tryz.ntmps141
  go_wp2_with (go_at_call 123;refine HA.out.mono ?_;rintro e w1 ⟨rfl,h2⟩;(have H1:=Lib.hid h2);clear h2)
  refine bodyPost_ret (v:=.tuple #[.slice none 0 0,.slice none 0 0,.int .i64 7]) (by simp [results,Tryz.results141,go_sem];try rfl) rfl ?_
  exact ⟨⟨_,_,rfl⟩,H1.out⟩
def DistPost (n:Nat) (es:List EdgeD) (s t:Int) (w:World) (e:Ending) (w':World):Prop:=(∃d k,e=.returned (.tuple #[.int .u64 d,.int .i64 k])∧DistIs n (arcG es) s t d k)∧Below w.heap.size w w'
theorem DistPost.mk {n:Nat} {es:List EdgeD} {s t d k:Int} {w w':World} (h:DistIs n (arcG es) s t d k) (hb:Below w.heap.size w w'):DistPost n es s t w (.returned (.tuple #[.int .u64 d,.int .i64 k])) w':=⟨⟨d,k,rfl,h⟩,hb⟩
set_option maxRecDepth 100000 in
set_option maxHeartbeats 1000000 in
theorem dist_any (hb n:Nat) (es:List EdgeD) (R:List Int) (S:List SC) (ro:List Int) (s t:Int) (w:World) (h:BH w hb n es R S ro):
  Calls Tryz.prog 87 #[.pointer (some ⟨hb,0,none⟩),.int .i64 s,.int .i64 t] w (DistPost n es s t w):=by
 by_cases hst:nodeN n s∧nodeN n t
 ·obtain ⟨hs,ht⟩:=hst
  obtain ⟨u,rfl⟩:∃u:Nat,s=u:=⟨s.toNat,by have:=hs.1;omega⟩
  obtain ⟨v,rfl⟩:∃v:Nat,t=v:=⟨t.toNat,by have:=ht.1;omega⟩
  have hu:u<n:=by have:=hs.2;omega
  have hv:v<n:=by have:=ht.2;omega
  have HA:=Lib.hid (both_ok hb n es R S ro u v w h hu hv)
  have HOK:=Lib.hid h.ok
  have hle:=h.le
  unfold BothPost at HA
  clear h hs ht
  go_enter Tryz.func87,Tryz.ntmps87
  go_upto_if 21 with (go_at_call 141;refine HA.out.mono ?_;rintro e w1 ⟨ao,bo,ca,cb,la,lb,rfl,h1,h2,h3,h4,h5,h6,h7,-⟩)
  have hla:=labsOK HOK.out h4 hu hle
  have hlb:=labsOK HOK.out h5 hv hle
  have hpw:lb.Pairwise (fun a b=>a.v≠b.v):=by
   have h9:=h5.once
   rw [List.pairwise_map] at h9
   exact h9
  have HND:=Lib.hid (near_dist HOK.out hle hu hv h4 h5)
  have HBY:=Lib.hid (byNode_any lb bo cb w1 h2 (by omega) (fun x hx=>⟨in6_of (hlb x hx).1 hle,(hlb x hx).2.1,by have:=(hlb x hx).2.2;omega⟩))
  have HLE:=Lib.hid (fun W b (hz:Below w1.heap.size w1 W) (hm:MapW W b lb.length (byF lb))=>least_any la (byF lb) ao ca b lb.length W (h1.go hz) hm (by omega) (fun x hx=>⟨in6_of (hla x hx).1 hle,(hla x hx).2.1,by have:=(hla x hx).2.2;omega⟩) (fun u x hx=>by
   obtain ⟨z,hz,_,rfl⟩:=(byF_spec lb hpw _ _).1 hx
   exact ⟨(hlb z hz).2.1,by have:=(hlb z hz).2.2;omega⟩))
  have HB1:=Lib.hid h3
  unfold ByPost at HBY
  clear h1 h2 h3 h4 h5 h6 h7 hla hlb hpw
  go_upto_if 28 with (first
   |(go_at_call 143;refine HBY.out.mono ?_;rintro e w2 ⟨b,rfl,m1,m2,m3⟩;(have HM2:=Lib.hid (And.intro m1 m3));clear m1 m2 m3)
   |(go_at_call 142;refine (HLE.out _ _ HM2.out.2 HM2.out.1).mono ?_;rintro e w3 ⟨rfl,hb3⟩;(have HB3:=Lib.hid hb3);clear hb3))
  have HBB:=Lib.hid ((HB1.out.st HM2.out.2).st HB3.out)
  rcases HND.out with ⟨hge,hd⟩|⟨hlt,hd⟩
  ·have HD:=Lib.hid hd
   clear hd
   go_wp2
   refine bodyPost_ret (v:=.tuple #[.int .u64 0,.int .i64 9]) (by simp [results,Tryz.results87,go_sem];try rfl) rfl ?_
   exact .mk HD.out HBB.out
  ·have HD:=Lib.hid hd
   have hng:¬4611686018427387904≤nearF (byF lb) la:=by omega
   clear hd
   go_wp2
   refine bodyPost_ret (v:=.tuple #[.int .u64 (nearF (byF lb) la),.int .i64 0]) (by simp [results,Tryz.results87,go_sem];try rfl) rfl ?_
   exact .mk HD.out HBB.out
 ·have HA:=Lib.hid (both_off hb n es R S ro s t w h hst)
  have HD:=Lib.hid (show DistIs n (arcG es) s t 0 7 from .inr (.inr ⟨rfl,rfl,hst⟩))
  clear h hst
  go_enter Tryz.func87,Tryz.ntmps87
  go_wp2_with (go_at_call 141;refine HA.out.mono ?_;rintro e w1 ⟨⟨a,b,rfl⟩,h2⟩;(have H1:=Lib.hid h2);clear h2)
  refine bodyPost_ret (v:=.tuple #[.int .u64 0,.int .i64 7]) (by simp [results,Tryz.results87,go_sem];try rfl) rfl ?_
  exact .mk HD.out H1.out
end Go.Proofs.YteaaapdjplbljaaGreat
end
section
namespace Go.Proofs.YteaaapdjplbljaaGreat
open Go Go.Proofs Go.RowKit Go.Shelf Go.Proofs.YteaaapdjplbljaaGreat.Hp Go.Proofs.YteaaapdjplbljaaGreat.Ch
set_option maxHeartbeats 400000 in
theorem IndexFunc_int (g:Nat) (cb:Array Value) (p:Int→Bool) (ao:Option Addr) (cap:Nat) (l:List Int) (w:World) (hen:Enters Tryz.prog g)
  (hp:PredOn Tryz.prog g cb encI p l w) (hl:l.length≤9223372036854775807) (hc:Cel w ao (l.map encI)):
  Calls Tryz.prog 131 #[.slice ao l.length cap,.func (.func g) #[] cb] w fun e w'=>e=.returned (.int .i64 (idxI p l))∧Below w.heap.size w w':=by
 have HP:=Lib.hid hp
 have HC:=Lib.hid hc
 clear hp hc
 unfold Enters at hen
 go_enter Tryz.func131,Tryz.ntmps131
 go_wp2
 go_loopg [8] l.length (fun g i wr=>∃k:Nat,k≤l.length∧l.length-k≤g∧i=.int .i64 k∧Aside (Below w.heap.size w wr)∧Aside (∀j (h:j<l.length),j<k→p l[j]=false))
 case atStart=>exact ⟨0,Nat.zero_le _,by omega,rfl,Below.refl _ _,fun j _ h=>absurd h (Nat.not_lt_zero _)⟩
 case round=>
  obtain ⟨k,hk,hg,rfl,HB,HA⟩:=hrel
  by_cases hlt:k<l.length
  ·obtain ⟨b,o,hao,hcell⟩:=(HC.out.below HB.out (Nat.le_refl _)).at hlt
   have HQ:=Lib.hid (HP.out wr l[k] HB.out (List.getElem_mem hlt))
   have HN:=Lib.hid (fun h:p l[k]=true=>idxI_hit p l k hlt h (fun j h1 h2=>HA.out j h1 h2))
   have HM:=Lib.hid (fun h:p l[k]=false=>(fun j (h1:j<l.length) (h2:j<k+1)=>(by
    by_cases e:j=k
    ·subst e;exact h
    ·exact HA.out j h1 (by omega):p l[j]=false)))
   generalize hx:l[k]=x at*
   clear hx
   subst hao
   cases hq:p x with
   |true=>
    have HN2:=Lib.hid (HN.out hq)
    have HQ2:=Lib.hid (hq▸HQ.out)
    clear hq
    go_wp2_with (go_at_fn g;refine HQ2.out.mono ?_;rintro e w1 ⟨rfl,hb1⟩)
    go_ret
    exact ⟨by rw [HN2.out];rfl,HB.out.trans (hb1.mono (by have:=HB.out.size;omega))⟩
   |false=>
    have HN2:=Lib.hid (HM.out hq)
    have HQ2:=Lib.hid (hq▸HQ.out)
    clear hq
    go_wp2_with (go_at_fn g;refine HQ2.out.mono ?_;rintro e w1 ⟨rfl,hb1⟩)
    go_roundg (l.length-(k+1))
    case measure=>omega
    case rel=>exact ⟨k+1,by omega,by omega,by go_num,HB.out.trans (hb1.mono (by have:=HB.out.size;omega)),HN2.out⟩
  ·obtain rfl:k=l.length:=by omega
   have HN:=Lib.hid (idxI_miss p l (fun j h=>HA.out j h h))
   go_wp2
   go_ret
   exact ⟨by rw [HN.out];rfl,HB.out⟩
theorem ContainsFunc_int (g:Nat) (cb:Array Value) (p:Int→Bool) (ao:Option Addr) (cap:Nat) (l:List Int) (w:World) (hen:Enters Tryz.prog g)
  (hp:PredOn Tryz.prog g cb encI p l w) (hl:l.length≤9223372036854775807) (hc:Cel w ao (l.map encI)):
  Calls Tryz.prog 73 #[.slice ao l.length cap,.func (.func g) #[] cb] w fun e w'=>e=.returned (.bool (l.any p))∧Below w.heap.size w w':=by
 have HC:=Lib.hid (IndexFunc_int g cb p ao cap l w hen hp hl hc)
 have HI:=Lib.hid (idxI_any p l)
 clear hp hc hen
 generalize idxI p l=r at*
 go_enter Tryz.func73,Tryz.ntmps73
 go_wp2_with (go_at_call 131;refine HC.out.mono ?_;rintro e w1 ⟨rfl,hb1⟩)
 go_ret
 exact ⟨by rw [←HI.out];rfl,hb1⟩
def outB (n:Nat) (v:Int):Bool:=decide (v<0)||decide ((n:Int)≤v)
theorem outB_no {n:Nat} {l:List Int}:(l.any (outB n))=false↔∀v∈l,nodeN n v:=by
 rw [List.any_eq_false]
 unfold outB nodeN
 constructor
 ·intro h v hv
  have:=h v hv
  simp at this
  omega
 ·intro h v hv
  have:=h v hv
  simp
  omega
theorem tright1_any (hb n:Nat) (es:List EdgeD) (R:List Int) (S:List SC) (O I:List (List Int)) (B:Nat) (v:Int) (w:World) (hh:HierM w hb n es R S O I) (hB:w.cell? ⟨B,0,none⟩=some (.pointer (some ⟨hb,0,none⟩))):
  Calls Tryz.prog 180 (#[encI v]++#[.pointer (some ⟨B,0,none⟩)]) w fun e w'=>e=.returned (.bool (outB n v))∧Below w.heap.size w w':=by
 have HN:=Lib.hid (nodes_any hb n es R S O I w hh)
 clear hh
 unfold outB
 by_cases h:v<0
 ·go_enter Tryz.func180,Tryz.ntmps180
  go_wp2_with (go_at_call 175;refine HN.out.mono ?_;rintro e w1 ⟨rfl,e1⟩;subst e1)
  go_ret
  exact ⟨by simp [h],Below.refl _ _⟩
 ·go_enter Tryz.func180,Tryz.ntmps180
  go_wp2_with (go_at_call 175;refine HN.out.mono ?_;rintro e w1 ⟨rfl,e1⟩;subst e1)
  go_ret
  exact ⟨by simp;omega,Below.refl _ _⟩
theorem tright_nil (v:Value) (w:World):Calls Tryz.prog 122 #[.pointer none,v] w fun e w'=>e=.returned (.int .i64 1)∧Below w.heap.size w w':=by
 go_enter Tryz.func122,Tryz.ntmps122
 go_wp2
 go_ret
 exact ⟨rfl,Below.of_al _ _⟩
set_option maxHeartbeats 1000000 in
theorem tright_any (hb n:Nat) (es:List EdgeD) (R:List Int) (S:List SC) (O I:List (List Int)) (ao:Option Addr) (cap:Nat) (l:List Int) (w:World) (hh:HierM w hb n es R S O I) (hl:l.length≤9223372036854775807) (hc:Cel w ao (l.map encI)):
  Calls Tryz.prog 122 #[.pointer (some ⟨hb,0,none⟩),.slice ao l.length cap] w fun e w'=>e=.returned (.int .i64 (if l.any (outB n) then 7 else 0))∧Below w.heap.size w w':=by
 obtain ⟨W,hW⟩:∃W,W=w.alloc (Obj.cells #[.pointer (some ⟨hb,0,none⟩)] 30):=⟨_,rfl⟩
 have hbw:Below w.heap.size w W:=by rw [hW];exact Below.of_al _ _
 have c0:W.cell? ⟨w.heap.size,0,none⟩=some (.pointer (some ⟨hb,0,none⟩)):=by rw [hW];go_simp
 have hw1:PredOn Tryz.prog 180 #[.pointer (some ⟨w.heap.size,0,none⟩)] encI (outB n) l W:=fun W' x hz _=>tright1_any hb n es R S O I w.heap.size x W' (hh.go (hbw.st hz)) (cell_later hz c0)
 have HX:=Lib.hid (ContainsFunc_int 180 #[.pointer (some ⟨w.heap.size,0,none⟩)] (outB n) ao cap l W (enters_of Tryz.func180 (by kernel_rfl) rfl) hw1 hl (hc.go hbw))
 have HW:=Lib.hid hW
 have HB:=Lib.hid hbw
 clear hW hbw hw1 hh hc
 generalize l.any (outB n)=r at*
 go_enter Tryz.func122,Tryz.ntmps122
 go_upto_region 1 with (fail)
 rw [←HW.out]
 cases r with
 |true=>
  go_wp2_with (go_at_call 73;refine HX.out.mono ?_;rintro e w1 ⟨rfl,hb1⟩;(have HB1:=Lib.hid hb1);clear hb1)
  go_ret
  exact ⟨rfl,HB.out.st HB1.out⟩
 |false=>
  go_wp2_with (go_at_call 73;refine HX.out.mono ?_;rintro e w1 ⟨rfl,hb1⟩;(have HB1:=Lib.hid hb1);clear hb1)
  go_ret
  exact ⟨rfl,HB.out.st HB1.out⟩
end Go.Proofs.YteaaapdjplbljaaGreat
end
section
namespace Go.Proofs.YteaaapdjplbljaaGreat
open Go Go.Proofs Go.RowKit Go.Shelf Go.Proofs.YteaaapdjplbljaaGreat.Hp Go.Proofs.YteaaapdjplbljaaGreat.Ch
set_option maxHeartbeats 1000000 in
theorem Grow_any (n:Nat) (w:World) (hn:n≤1099511627776):
  Calls Tryz.prog 179 #[.slice none 0 0,.int .i64 n] w fun e w'=>∃ao cap,e=.returned (.slice ao 0 cap)∧w'.ownsRow w.heap.size 3 1 (.slice ao 0 cap) 0 []∧Below w.heap.size w w':=by
 by_cases h0:n=0
 ·subst h0
  go_enter Tryz.func179,Tryz.ntmps179
  go_wp2
  go_ret
  exact ⟨none,0,rfl,⟨rfl,.inl ⟨rfl,rfl⟩⟩,Below.refl _ _⟩
 ·have hE:=elem_int
  obtain ⟨hE,hz1,hz2⟩:=hE
  obtain ⟨i,hi,hz,hsz,hby⟩:=info_parts hE
  have hrz:=Lib.hid (fun ty=>Lib.run_append_nil_zeros w 25 3 ty 3 i _ .i64 .i64 Tryz.underlying25 Tryz.underlying3 hi hz n (by omega) (by omega) (by omega) (by rw [hby];omega))
  have hGn:n≤grownCap w n 0 3:=grownCap_ge w _ _ _
  have hG63:grownCap w n 0 3≤maxLen:=grownCap_le_maxLen w n 0 3 (by unfold maxLen;omega)
  generalize grownCap w n 0 3=G at*
  obtain ⟨W,hW⟩:∃W,W=w.drew.alloc (.cells (Builtin.zeroCells (Value.int .i64 0).cells n++Builtin.zeroCells (Value.int .i64 0).cells (G-n)) 3):=⟨_,rfl⟩
  rw [←hW] at hrz
  have HO:Aside (W.ownsRow w.heap.size 3 1 (.slice (some ⟨w.heap.size,0,none⟩) 0 G) 0 []):=by
   refine ⟨rfl,.inr ⟨w.heap.size,G,Builtin.zeroCells (Value.int .i64 0).cells n++Builtin.zeroCells (Value.int .i64 0).cells (G-n),rfl,Nat.le_refl _,?_,Nat.zero_le _,hG63,?_,?_⟩⟩
   ·rw [hW];exact (MapKept.heap_alloc w.drew _).1
   ·simp [size_zeroCells,Value.cells];omega
   ·simp
  have HB:Aside (Below w.heap.size w W):=by rw [hW];exact Below.al (Below.of_dr w 1) _
  clear hW hE hz1 hz2 hi hz hsz hby
  have hG9:(0:Int)≤(G:Int):=by omega
  have hc1:((n:Int)>0)=True:=by simp;omega
  have hc2:((n:Int)<0)=False:=by simp
  unfold maxLen at hG63
  go_enter Tryz.func179,Tryz.ntmps179
  go_wp2_with (at_builtin;refine Lib.wpList_append_run _ rfl _ _ _ _ rfl _ _ rfl rfl _ _ (hrz.out _) ?_)
  go_ret
  exact ⟨_,G,rfl,HO.out,HB.out⟩
set_option maxRecDepth 100000 in
set_option maxHeartbeats 1000000 in
theorem Concat2_any (bk:Nat) (ao bo:Option Addr) (ca cb cq:Nat) (la lb:List Int) (w:World) (hla:la.length≤1048576) (hlb:lb.length≤1048576)
  (h0:w.cell? ⟨bk,0,none⟩=some (.slice ao la.length ca)) (h1:w.cell? ⟨bk,1,none⟩=some (.slice bo lb.length cb)) (ha:Cel w ao (la.map encI)) (hb:Cel w bo (lb.map encI)):
  Calls Tryz.prog 117 #[.slice (some ⟨bk,0,none⟩) 2 cq] w fun e w'=>∃ao' cap',e=.returned (.slice ao' (la++lb).length cap')∧Cel w' ao' ((la++lb).map encI)∧Below w.heap.size w w'∧∀x,ao'=some x→w.heap.size≤x.block:=by
 have HA:=Lib.hid ha
 have HB:=Lib.hid hb
 have H0:=Lib.hid h0
 have H1:=Lib.hid h1
 clear ha hb
 have HG:=Lib.hid (fun W=>Grow_any (la.length+lb.length) W (by omega))
 go_enter Tryz.func117,Tryz.ntmps117
 go_wp2
 refine wp_loop_rounds 3 ?_
 rw [rounds_succ]
 go_wp2
 rw [rounds_succ]
 go_wp2
 rw [rounds_succ]
 go_wp2_with fail
 refine (HG.out _).mono ?_
 rintro e w1 ⟨a1,c1,rfl,ho1,hb1⟩
 have m0:=cell_later hb1 h0
 have m1:=cell_later hb1 h1
 have HO1:=Lib.hid ho1
 have HB1:=Lib.hid hb1
 clear ho1 hb1 h0 h1
 go_wp2
 refine wp_loop_rounds 3 ?_
 rw [rounds_succ]
 obtain ⟨a2,c2,w2,hr2,ho2,hb2⟩:=run_appAll (P:=Tryz.prog) 25 25 w.heap.size 3 _ 8 elem_int Tryz.underlying25 a1 0 c1 [] HO1.out ao la.length ca (la.map encI) (HA.out.go HB1.out) (fun u hu=>by obtain ⟨x,_,rfl⟩:=List.mem_map.1 hu;rfl) (by refine ⟨by simp,by omega,by omega,HB1.out.size⟩)
 simp only [Nat.zero_add,List.nil_append] at hr2 ho2
 have HB2:=Lib.hid (HB1.out.trans hb2)
 have n0:=cell_later HB2.out H0.out
 have n1:=cell_later HB2.out H1.out
 obtain ⟨a3,c3,w3,hr3,ho3,hb3⟩:=run_appAll (P:=Tryz.prog) 25 25 w.heap.size 3 _ 8 elem_int Tryz.underlying25 a2 la.length c2 (la.map encI) ho2 bo lb.length cb (lb.map encI) (HB.out.go HB2.out) (fun u hu=>by obtain ⟨x,_,rfl⟩:=List.mem_map.1 hu;rfl) (by refine ⟨by simp,by omega,by omega,HB2.out.size⟩)
 have HR2:=Lib.hid hr2
 have HR3:=Lib.hid hr3
 have HO3:=Lib.hid ho3
 have HB3:=Lib.hid (HB2.out.trans hb3)
 clear hr2 ho2 hb2 hr3 ho3 hb3
 go_wp2_with (at_builtin;refine Lib.wpList_append_run _ rfl _ _ _ _ rfl _ _ rfl rfl _ _ HR2.out ?_)
 rw [rounds_succ]
 go_wp2_with (at_builtin;refine Lib.wpList_append_run _ rfl _ _ _ _ rfl _ _ rfl rfl _ _ HR3.out ?_)
 rw [rounds_succ]
 go_wp2
 go_ret
 obtain ⟨ao3,cap3,e3,h3⟩:=Cel.of_owns HO3.out
 cases e3
 refine ⟨a3,c3,?_,by simpa using h3,HB3.out,?_⟩
 ·simp
 ·rintro x rfl
  rcases HO3.out.2 with ⟨e,_⟩|⟨g,cap',cur,e,hb,_⟩
  ·cases e
  ·cases e
   exact hb
end Go.Proofs.YteaaapdjplbljaaGreat
end
