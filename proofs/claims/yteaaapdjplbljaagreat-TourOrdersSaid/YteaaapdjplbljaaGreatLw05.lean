/- A heap of numbers with keys, in plain Lean: rising, sinking, putting, taking out. -/
import Derived.Test.YteaaapdjplbljaaGreatLw02
set_option linter.unusedVariables false
set_option linter.unusedSimpArgs false
set_option linter.unnecessarySimpa false
namespace Go.Proofs.YteaaapdjplbljaaGreat.Hp
abbrev IK:=Int×Int
def lessI (a b:IK):Bool:=decide (a.2<b.2)||(decide (a.2=b.2)&&decide (a.1<b.1))
theorem lessI_iff {a b:IK}:lessI a b=true↔a.2<b.2∨(a.2=b.2∧a.1<b.1):=by simp [lessI]
theorem lessI_not {a b:IK}:lessI a b=false↔b.2<a.2∨(b.2=a.2∧b.1≤a.1):=by
 rw [←Bool.not_eq_true,lessI_iff];omega
def gI (l:List IK) (j:Nat):IK:=l.getD j (0,0)
theorem gI_in {l:List IK} {j:Nat} (h:j<l.length):gI l j=l[j]:=by simp [gI,h]
theorem gI_set {l:List IK} {i j:Nat} {y:IK} (hi:i<l.length):gI (l.set i y) j=if j=i then y else gI l j:=by
 unfold gI
 rw [List.getD_eq_getElem?_getD,List.getElem?_set,List.getD_eq_getElem?_getD]
 by_cases e:i=j
 ·subst e;simp [hi]
 ·rw [if_neg e,if_neg (fun h=>e h.symm)]
theorem gI_mem {l:List IK} {j:Nat} (h:j<l.length):gI l j∈l:=by rw [gI_in h];exact List.getElem_mem h
def gP (p:List Int) (v:Nat):Int:=p.getD v (-1)
theorem gP_set {p:List Int} {i j:Nat} {y:Int} (hi:i<p.length):gP (p.set i y) j=if j=i then y else gP p j:=by
 unfold gP
 rw [List.getD_eq_getElem?_getD,List.getElem?_set,List.getD_eq_getElem?_getD]
 by_cases e:i=j
 ·subst e;simp [hi]
 ·rw [if_neg e,if_neg (fun h=>e h.symm)]
def riseF (l:List IK) (p:List Int) (i:Nat) (x:IK):List IK×List Int:=
 if _h:0<i∧lessI x (gI l ((i-1) / 2))=true then
  riseF (l.set i (gI l ((i-1) / 2))) (p.set (gI l ((i-1) / 2)).1.toNat (i:Int)) ((i-1) / 2) x
 else (l.set i x,p.set x.1.toNat (i:Int))
termination_by i
decreasing_by omega
theorem riseF_go {l:List IK} {p:List Int} {i:Nat} {x:IK} (h0:0<i) (h:lessI x (gI l ((i-1) / 2))=true):
  riseF l p i x=riseF (l.set i (gI l ((i-1) / 2))) (p.set (gI l ((i-1) / 2)).1.toNat (i:Int)) ((i-1) / 2) x:=by
 rw [riseF,dif_pos ⟨h0,h⟩]
theorem riseF_end {l:List IK} {p:List Int} {i:Nat} {x:IK} (h:i=0∨lessI x (gI l ((i-1) / 2))=false):riseF l p i x=(l.set i x,p.set x.1.toNat (i:Int)):=by
 rw [riseF,dif_neg]
 rintro ⟨a,b⟩
 rcases h with h|h
 ·omega
 ·rw [h] at b;cases b
def lowF (l:List IK) (i:Nat):Nat:=if 2*i+1+1<l.length∧lessI (gI l (2*i+1+1)) (gI l (2*i+1))=true then 2*i+1+1 else 2*i+1
theorem lowF_bd (l:List IK) (i:Nat):2*i+1≤lowF l i∧lowF l i≤2*i+2:=by unfold lowF;split<;>omega
def sinkF (l:List IK) (p:List Int) (i:Nat) (x:IK):List IK×List Int:=
 if h:lowF l i<l.length∧lessI (gI l (lowF l i)) x=true then
  sinkF (l.set i (gI l (lowF l i))) (p.set (gI l (lowF l i)).1.toNat (i:Int)) (lowF l i) x
 else (l.set i x,p.set x.1.toNat (i:Int))
termination_by l.length-i
decreasing_by
 have:=(lowF_bd l i).1
 rw [List.length_set]
 omega
theorem sinkF_go {l:List IK} {p:List Int} {i:Nat} {x:IK} (h0:lowF l i<l.length) (h:lessI (gI l (lowF l i)) x=true):
  sinkF l p i x=sinkF (l.set i (gI l (lowF l i))) (p.set (gI l (lowF l i)).1.toNat (i:Int)) (lowF l i) x:=by
 rw [sinkF,dif_pos ⟨h0,h⟩]
theorem sinkF_end {l:List IK} {p:List Int} {i:Nat} {x:IK} (h:l.length≤lowF l i∨lessI (gI l (lowF l i)) x=false):sinkF l p i x=(l.set i x,p.set x.1.toNat (i:Int)):=by
 rw [sinkF,dif_neg]
 rintro ⟨a,b⟩
 rcases h with h|h
 ·omega
 ·rw [h] at b;cases b
structure Hole (l:List IK) (p:List Int) (i:Nat) (x:IK):Prop where
 hi:i<l.length
 hx:0≤x.1∧x.1.toNat<p.length
 pos:∀j,j<l.length→j≠i→0≤(gI l j).1∧(gI l j).1.toNat<p.length∧gP p (gI l j).1.toNat=(j:Int)∧(gI l j).1≠x.1
 inv:∀v,v<p.length→(v:Int)≠x.1→gP p v= -1∨∃j,j<l.length∧j≠i∧gP p v=(j:Int)∧(gI l j).1=(v:Int)
structure Cons (l:List IK) (p:List Int):Prop where
 pos:∀j,j<l.length→0≤(gI l j).1∧(gI l j).1.toNat<p.length∧gP p (gI l j).1.toNat=(j:Int)
 inv:∀v,v<p.length→gP p v= -1∨∃j,j<l.length∧gP p v=(j:Int)∧(gI l j).1=(v:Int)
def MemH (l:List IK) (i:Nat) (x y:IK):Prop:=y=x∨∃j,j<l.length∧j≠i∧gI l j=y
theorem mem_gI {l:List IK} {y:IK}:y∈l↔∃j,j<l.length∧gI l j=y:=by
 constructor
 ·intro h
  obtain ⟨j,hj,e⟩:=List.mem_iff_getElem.1 h
  exact ⟨j,hj,by rw [gI_in hj];exact e⟩
 ·rintro ⟨j,hj,rfl⟩
  exact gI_mem hj
theorem Hole.fill {l:List IK} {p:List Int} {i:Nat} {x:IK} (h:Hole l p i x):Cons (l.set i x) (p.set x.1.toNat (i:Int))∧∀y,y∈l.set i x↔MemH l i x y:=by
 refine ⟨⟨?_,?_⟩,?_⟩
 ·intro j hj
  rw [List.length_set] at hj
  rw [gI_set h.hi,List.length_set]
  by_cases e:j=i
  ·subst e
   rw [if_pos rfl]
   refine ⟨h.hx.1,h.hx.2,?_⟩
   rw [gP_set h.hx.2,if_pos rfl]
  ·rw [if_neg e]
   obtain ⟨a,b,c,d⟩:=h.pos j hj e
   refine ⟨a,b,?_⟩
   rw [gP_set h.hx.2,if_neg]
   ·exact c
   ·have:=h.hx.1
    omega
 ·intro v hv
  rw [List.length_set] at hv
  rw [gP_set h.hx.2]
  by_cases e:v=x.1.toNat
  ·rw [if_pos e]
   refine .inr ⟨i,by rw [List.length_set];exact h.hi,rfl,?_⟩
   rw [gI_set h.hi,if_pos rfl]
   have:=h.hx.1
   omega
  ·rw [if_neg e]
   rcases h.inv v hv (by have:=h.hx.1;omega) with h1|⟨j,a,b,c,d⟩
   ·exact .inl h1
   ·exact .inr ⟨j,by rw [List.length_set];exact a,c,by rw [gI_set h.hi,if_neg b];exact d⟩
 ·intro y
  rw [mem_gI]
  constructor
  ·rintro ⟨j,hj,e⟩
   rw [List.length_set] at hj
   rw [gI_set h.hi] at e
   by_cases e2:j=i
   ·rw [if_pos e2] at e
    exact .inl e.symm
   ·rw [if_neg e2] at e
    exact .inr ⟨j,hj,e2,e⟩
  ·rintro (rfl|⟨j,hj,e2,e⟩)
   ·exact ⟨i,by rw [List.length_set];exact h.hi,by rw [gI_set h.hi,if_pos rfl]⟩
   ·exact ⟨j,by rw [List.length_set];exact hj,by rw [gI_set h.hi,if_neg e2];exact e⟩
theorem Hole.move {l:List IK} {p:List Int} {i k:Nat} {x:IK} (h:Hole l p i x) (hk:k<l.length) (hne:k≠i):
  Hole (l.set i (gI l k)) (p.set (gI l k).1.toNat (i:Int)) k x∧∀y,MemH (l.set i (gI l k)) k x y↔MemH l i x y:=by
 obtain ⟨ka,kb,kc,kd⟩:=h.pos k hk hne
 refine ⟨⟨by rw [List.length_set];exact hk,by rw [List.length_set];exact h.hx,?_,?_⟩,?_⟩
 ·intro j hj hjk
  rw [List.length_set] at hj
  rw [gI_set h.hi,List.length_set]
  by_cases e:j=i
  ·rw [if_pos e]
   exact ⟨ka,kb,by rw [gP_set kb,if_pos rfl,e],kd⟩
  ·rw [if_neg e]
   obtain ⟨a,b,c,d⟩:=h.pos j hj e
   refine ⟨a,b,?_,d⟩
   rw [gP_set kb,if_neg]
   ·exact c
   ·intro e2
    rw [e2,kc] at c
    omega
 ·intro v hv hvx
  rw [List.length_set] at hv
  rw [gP_set kb]
  by_cases e:v=(gI l k).1.toNat
  ·rw [if_pos e]
   refine .inr ⟨i,by rw [List.length_set];exact h.hi,fun e=>hne e.symm,rfl,?_⟩
   rw [gI_set h.hi,if_pos rfl]
   omega
  ·rw [if_neg e]
   rcases h.inv v hv hvx with h1|⟨j,a,b,c,d⟩
   ·exact .inl h1
   ·refine .inr ⟨j,by rw [List.length_set];exact a,?_,c,by rw [gI_set h.hi,if_neg b];exact d⟩
    rintro rfl
    omega
 ·intro y
  unfold MemH
  rw [List.length_set]
  constructor
  ·rintro (e|⟨j,hj,e2,e⟩)
   ·exact .inl e
   ·rw [gI_set h.hi] at e
    by_cases e3:j=i
    ·rw [if_pos e3] at e
     exact .inr ⟨k,hk,hne,e⟩
    ·rw [if_neg e3] at e
     exact .inr ⟨j,hj,e3,e⟩
  ·rintro (e|⟨j,hj,e2,e⟩)
   ·exact .inl e
   ·by_cases e3:j=k
    ·subst e3
     exact .inr ⟨i,h.hi,fun e=>hne e.symm,by rw [gI_set h.hi,if_pos rfl];exact e⟩
    ·exact .inr ⟨j,hj,e3,by rw [gI_set h.hi,if_neg e2];exact e⟩
def OrdI (l:List IK):Prop:=∀j,j<l.length→0<j→lessI (gI l j) (gI l ((j-1) / 2))=false
structure OrdH (l:List IK) (i:Nat):Prop where
 a:∀j,j<l.length→0<j→j≠i→(j-1) / 2≠i→lessI (gI l j) (gI l ((j-1) / 2))=false
 c:0<i→∀j,j<l.length→0<j→(j-1) / 2=i→lessI (gI l j) (gI l ((i-1) / 2))=false
def LowH (l:List IK) (i:Nat) (x:IK):Prop:=∀j,j<l.length→0<j→(j-1) / 2=i→lessI (gI l j) x=false
def UpH (l:List IK) (i:Nat) (x:IK):Prop:=0<i→lessI x (gI l ((i-1) / 2))=false
theorem OrdH.fill {l:List IK} {i:Nat} {x:IK} (hi:i<l.length) (h:OrdH l i) (hl:LowH l i x) (hu:UpH l i x):OrdI (l.set i x):=by
 intro j hj h0
 rw [List.length_set] at hj
 rw [gI_set hi,gI_set hi]
 by_cases e:j=i
 ·subst e
  rw [if_pos rfl,if_neg (by omega)]
  exact hu h0
 ·rw [if_neg e]
  by_cases e2:(j-1) / 2=i
  ·rw [if_pos e2]
   exact hl j hj h0 e2
  ·rw [if_neg e2]
   exact h.a j hj h0 e e2
theorem riseF_law:∀(i:Nat) (l:List IK) (p:List Int) (x:IK),Hole l p i x→OrdH l i→LowH l i x→
  Cons (riseF l p i x).1 (riseF l p i x).2∧OrdI (riseF l p i x).1∧(∀y,y∈(riseF l p i x).1↔MemH l i x y)∧(riseF l p i x).1.length=l.length∧(riseF l p i x).2.length=p.length:=by
 intro i
 induction i using Nat.strongRecOn with
 |_ i ih=>
  intro l p x h ho hl
  by_cases hs:0<i∧lessI x (gI l ((i-1) / 2))=true
  ·obtain ⟨h0,hs⟩:=hs
   have hu:(i-1) / 2<i:=by omega
   have hk:(i-1) / 2<l.length:=by have:=h.hi;omega
   obtain ⟨m1,m2⟩:=h.move hk (by omega)
   have hsi:=lessI_iff.1 hs
   have o1:OrdH (l.set i (gI l ((i-1) / 2))) ((i-1) / 2):=by
    refine ⟨?_,?_⟩
    ·intro j hj hj0 e1 e2
     rw [List.length_set] at hj
     rw [gI_set h.hi,gI_set h.hi]
     by_cases e:j=i
     ·subst e
      exact absurd rfl e2
     ·rw [if_neg e]
      by_cases e3:(j-1) / 2=i
      ·rw [if_pos e3]
       exact ho.c h0 j hj hj0 e3
      ·rw [if_neg e3]
       exact ho.a j hj hj0 e e3
    ·intro hu0 j hj hj0 e2
     rw [List.length_set] at hj
     rw [gI_set h.hi,gI_set h.hi,if_neg (show ((i-1) / 2-1) / 2≠i by omega)]
     have h1:=ho.a ((i-1) / 2) hk hu0 (by omega) (by omega)
     by_cases e:j=i
     ·rw [if_pos e]
      exact h1
     ·rw [if_neg e]
      have h2:=ho.a j hj hj0 e (by omega)
      rw [e2] at h2
      rw [lessI_not] at h1 h2 ⊢
      omega
   have l1:LowH (l.set i (gI l ((i-1) / 2))) ((i-1) / 2) x:=by
    intro j hj hj0 e2
    rw [List.length_set] at hj
    rw [gI_set h.hi]
    by_cases e:j=i
    ·rw [if_pos e,lessI_not]
     omega
    ·rw [if_neg e]
     have h2:=ho.a j hj hj0 e (by omega)
     rw [e2] at h2
     rw [lessI_not] at h2 ⊢
     omega
   obtain ⟨r1,r2,r3,r4,r5⟩:=ih _ hu _ _ x m1 o1 l1
   rw [riseF_go h0 hs]
   exact ⟨r1,r2,fun y=>(r3 y).trans (m2 y),by rw [r4,List.length_set],by rw [r5,List.length_set]⟩
  ·have he:i=0∨lessI x (gI l ((i-1) / 2))=false:=by
    by_cases h0:i=0
    ·exact .inl h0
    ·refine .inr ?_
     rw [←Bool.not_eq_true]
     exact fun h=>hs ⟨by omega,h⟩
   rw [riseF_end he]
   obtain ⟨f1,f2⟩:=h.fill
   refine ⟨f1,ho.fill h.hi hl ?_,f2,by rw [List.length_set],by rw [List.length_set]⟩
   intro h0
   rcases he with he|he
   ·omega
   ·exact he
theorem low_child {l:List IK} {i:Nat} (j:Nat) (hj:j<l.length) (hj0:0<j) (e:(j-1) / 2=i):lowF l i<l.length∧lessI (gI l j) (gI l (lowF l i))=false:=by
 have hc:j=2*i+1∨j=2*i+1+1:=by omega
 unfold lowF
 split
 ·rename_i h
  refine ⟨h.1,?_⟩
  have h2:=lessI_iff.1 h.2
  rcases hc with rfl|rfl<;>rw [lessI_not]<;>omega
 ·rename_i h
  refine ⟨by omega,?_⟩
  rcases hc with rfl|rfl
  ·rw [lessI_not];omega
  ·rw [←Bool.not_eq_true]
   exact fun h2=>h ⟨hj,h2⟩
theorem sinkF_law:∀(n:Nat) (l:List IK) (p:List Int) (i:Nat) (x:IK),l.length-i=n→Hole l p i x→OrdH l i→
  (Cons (sinkF l p i x).1 (sinkF l p i x).2∧(∀y,y∈(sinkF l p i x).1↔MemH l i x y)∧(sinkF l p i x).1.length=l.length∧(sinkF l p i x).2.length=p.length)∧
  ((sinkF l p i x=(l.set i x,p.set x.1.toNat (i:Int))∧LowH l i x)∨(OrdI (sinkF l p i x).1∧∃k,i<k∧gP (sinkF l p i x).2 x.1.toNat=(k:Int)))∧
  (UpH l i x→OrdI (sinkF l p i x).1)∧∃k,i≤k∧gP (sinkF l p i x).2 x.1.toNat=(k:Int):=by
 intro n
 induction n using Nat.strongRecOn with
 |_ n ih=>
  intro l p i x hn h ho
  by_cases hs:lowF l i<l.length∧lessI (gI l (lowF l i)) x=true
  ·obtain ⟨h0,hs⟩:=hs
   have hb:=lowF_bd l i
   obtain ⟨m1,m2⟩:=h.move h0 (by omega)
   have hsi:=lessI_iff.1 hs
   have hpar:(lowF l i-1) / 2=i:=by omega
   have o1:OrdH (l.set i (gI l (lowF l i))) (lowF l i):=by
    refine ⟨?_,?_⟩
    ·intro j hj hj0 e1 e2
     rw [List.length_set] at hj
     rw [gI_set h.hi,gI_set h.hi]
     by_cases e:j=i
     ·subst e
      rw [if_pos rfl,if_neg (by omega)]
      exact ho.c hj0 _ h0 (by omega) hpar
     ·rw [if_neg e]
      by_cases e3:(j-1) / 2=i
      ·rw [if_pos e3]
       exact (low_child j hj hj0 e3).2
      ·rw [if_neg e3]
       exact ho.a j hj hj0 e e3
    ·intro hu0 j hj hj0 e2
     rw [List.length_set] at hj
     rw [gI_set h.hi,gI_set h.hi,if_neg (by omega),hpar,if_pos rfl]
     have:=ho.a j hj hj0 (by omega) (by omega)
     rw [e2] at this
     exact this
   have u1:UpH (l.set i (gI l (lowF l i))) (lowF l i) x:=by
    intro _
    rw [gI_set h.hi,hpar,if_pos rfl,lessI_not]
    omega
   obtain ⟨⟨r1,r2,r3,r4⟩,-,r6,k,r7,r8⟩:=ih _ (by rw [List.length_set];have:=h.hi;omega) _ _ (lowF l i) x rfl m1 o1
   rw [sinkF_go h0 hs]
   have r6:=r6 u1
   exact ⟨⟨r1,fun y=>(r2 y).trans (m2 y),by rw [r3,List.length_set],by rw [r4,List.length_set]⟩,.inr ⟨r6,k,by omega,r8⟩,fun _=>r6,k,by omega,r8⟩
  ·have he:l.length≤lowF l i∨lessI (gI l (lowF l i)) x=false:=by
    by_cases h0:l.length≤lowF l i
    ·exact .inl h0
    ·refine .inr ?_
     rw [←Bool.not_eq_true]
     exact fun h=>hs ⟨by omega,h⟩
   rw [sinkF_end he]
   obtain ⟨f1,f2⟩:=h.fill
   have hl:LowH l i x:=by
    intro j hj hj0 e
    obtain ⟨c1,c2⟩:=low_child j hj hj0 e
    rcases he with he|he
    ·omega
    ·rw [lessI_not] at c2 he ⊢
     omega
   refine ⟨⟨f1,f2,by rw [List.length_set],by rw [List.length_set]⟩,.inl ⟨rfl,hl⟩,fun hu=>ho.fill h.hi hl hu,i,Nat.le_refl _,?_⟩
   show gP (p.set x.1.toNat (i:Int)) x.1.toNat=_
   rw [gP_set h.hx.2,if_pos rfl]
structure HeapOK (l:List IK) (p:List Int):Prop where
 c:Cons l p
 o:OrdI l
theorem Cons.hole {l:List IK} {p:List Int} (h:Cons l p) {i:Nat} (hi:i<l.length) {x:IK} (hx:x.1=(gI l i).1):Hole l p i x:=by
 obtain ⟨a,b,c⟩:=h.pos i hi
 refine ⟨hi,by rw [hx];exact ⟨a,b⟩,?_,?_⟩
 ·intro j hj hne
  obtain ⟨a',b',c'⟩:=h.pos j hj
  refine ⟨a',b',c',?_⟩
  intro e
  rw [e,hx,c] at c'
  omega
 ·intro v hv hne
  rcases h.inv v hv with h1|⟨j,j1,j2,j3⟩
  ·exact .inl h1
  ·refine .inr ⟨j,j1,?_,j2,j3⟩
   rintro rfl
   rw [hx,j3] at hne
   exact hne rfl
theorem OrdI.hole {l:List IK} (h:OrdI l) (i:Nat):OrdH l i:=by
 refine ⟨fun j hj h0 _ _=>h j hj h0,?_⟩
 intro hi j hj h0 e
 have h1:=h j hj h0
 rw [e] at h1
 have h2:=h i (by omega) hi
 rw [lessI_not] at h1 h2 ⊢
 omega
theorem Cons.inj {l:List IK} {p:List Int} (h:Cons l p) {i j:Nat} (hi:i<l.length) (hj:j<l.length) (e:(gI l i).1=(gI l j).1):i=j:=by
 have h1:=(h.pos i hi).2.2
 have h2:=(h.pos j hj).2.2
 rw [e,h2] at h1
 omega
theorem Cons.key {l:List IK} {p:List Int} (h:Cons l p) {v k k':Int} (h1:(v,k)∈l) (h2:(v,k')∈l):k=k':=by
 obtain ⟨i,hi,ei⟩:=mem_gI.1 h1
 obtain ⟨j,hj,ej⟩:=mem_gI.1 h2
 obtain rfl:=h.inj hi hj (by rw [ei,ej])
 rw [ei] at ej
 exact (Prod.mk.inj ej).2
theorem Cons.place {l:List IK} {p:List Int} (h:Cons l p) {v:Nat} (hv:v<p.length):(gP p v= -1∧∀k,((v:Int),k)∉l)∨∃i,i<l.length∧gP p v=(i:Int)∧(gI l i).1=(v:Int):=by
 rcases h.inv v hv with h1|h1
 ·refine .inl ⟨h1,?_⟩
  intro k hk
  obtain ⟨i,hi,ei⟩:=mem_gI.1 hk
  have:=(h.pos i hi).2.2
  rw [ei] at this
  simp at this
  omega
 ·exact .inr h1
def putF (l:List IK) (p:List Int) (v:Nat) (key:Int):Bool×List IK×List Int:=
 if gP p v= -1 then (true,riseF (l++[((v:Int),key)]) p l.length ((v:Int),key))
 else if (gI l (gP p v).toNat).2≤key then (false,l,p)
 else (true,riseF l p (gP p v).toNat ((v:Int),key))
theorem gI_append_left {l:List IK} {j:Nat} (h:j<l.length) (r:List IK):gI (l++r) j=gI l j:=by
 unfold gI
 rw [List.getD_eq_getElem?_getD,List.getD_eq_getElem?_getD,List.getElem?_append_left h]
theorem putF_law {l:List IK} {p:List Int} (h:HeapOK l p) {v:Nat} (hv:v<p.length) (key:Int):
  HeapOK (putF l p v key).2.1 (putF l p v key).2.2∧(putF l p v key).2.2.length=p.length∧
  ((putF l p v key).1=true→∀y,y∈(putF l p v key).2.1↔(y=((v:Int),key)∨(y∈l∧y.1≠(v:Int))))∧
  ((putF l p v key).1=false→(putF l p v key).2.1=l∧∃k,((v:Int),k)∈l∧k≤key)∧(putF l p v key).2.1.length≤l.length+1:=by
 unfold putF
 rcases h.c.place hv with ⟨h1,h2⟩|⟨i,hi,h1,h2⟩
 ·rw [if_pos h1]
  have hh:Hole (l++[((v:Int),key)]) p l.length ((v:Int),key):=by
   refine ⟨by simp,⟨by simp,by simpa using hv⟩,?_,?_⟩
   ·intro j hj hne
    have hj2:j<l.length:=by simp at hj;omega
    rw [gI_append_left hj2]
    obtain ⟨a,b,c⟩:=h.c.pos j hj2
    refine ⟨a,b,c,?_⟩
    intro e
    apply h2 (gI l j).2
    have:((v:Int),(gI l j).2)=gI l j:=Prod.ext e.symm rfl
    rw [this]
    exact gI_mem hj2
   ·intro u hu hne
    rcases h.c.inv u hu with h3|⟨j,j1,j2,j3⟩
    ·exact .inl h3
    ·exact .inr ⟨j,by simp;omega,by omega,j2,by rw [gI_append_left j1];exact j3⟩
  have ho:OrdH (l++[((v:Int),key)]) l.length:=by
   refine ⟨?_,?_⟩
   ·intro j hj h0 e1 e2
    have hj2:j<l.length:=by simp at hj;omega
    rw [gI_append_left hj2,gI_append_left (by omega)]
    exact h.o j hj2 h0
   ·intro h0 j hj hj0 e
    simp at hj
    omega
  have hl:LowH (l++[((v:Int),key)]) l.length ((v:Int),key):=by
   intro j hj hj0 e
   simp at hj
   omega
  obtain ⟨r1,r2,r3,r4,r5⟩:=riseF_law _ _ p _ hh ho hl
  refine ⟨⟨r1,r2⟩,r5,?_,fun e=>(by cases e),by rw [r4];simp⟩
  intro _ y
  show y∈(riseF _ _ _ _).1↔_
  rw [r3]
  constructor
  ·rintro (e|⟨j,hj,hne,e⟩)
   ·exact .inl e
   ·have hj2:j<l.length:=by simp at hj;omega
    rw [gI_append_left hj2] at e
    refine .inr ⟨e▸gI_mem hj2,?_⟩
    intro e2
    apply h2 y.2
    have:((v:Int),y.2)=y:=Prod.ext e2.symm rfl
    rw [this,←e]
    exact gI_mem hj2
  ·rintro (e|⟨hm,hne⟩)
   ·exact .inl e
   ·obtain ⟨j,hj,e⟩:=mem_gI.1 hm
    exact .inr ⟨j,by simp;omega,by omega,by rw [gI_append_left hj];exact e⟩
 ·rw [if_neg (by omega),h1]
  have hin:(i:Int).toNat=i:=by omega
  rw [hin]
  split
  ·rename_i hk
   refine ⟨h,rfl,fun e=>(by cases e),fun _=>⟨rfl,(gI l i).2,?_,hk⟩,by simp⟩
   have:((v:Int),(gI l i).2)=gI l i:=Prod.ext h2.symm rfl
   rw [this]
   exact gI_mem hi
  ·rename_i hk
   have hh:Hole l p i ((v:Int),key):=h.c.hole hi h2.symm
   have hl:LowH l i ((v:Int),key):=by
    intro j hj hj0 e
    have:=h.o j hj hj0
    rw [e] at this
    rw [lessI_not] at this ⊢
    simp only
    omega
   obtain ⟨r1,r2,r3,r4,r5⟩:=riseF_law _ _ p _ hh (h.o.hole i) hl
   refine ⟨⟨r1,r2⟩,r5,?_,fun e=>(by cases e),by rw [r4];simp⟩
   intro _ y
   show y∈(riseF _ _ _ _).1↔_
   rw [r3]
   constructor
   ·rintro (e|⟨j,hj,hne,e⟩)
    ·exact .inl e
    ·refine .inr ⟨e▸gI_mem hj,?_⟩
     rw [←e]
     exact (hh.pos j hj hne).2.2.2
   ·rintro (e|⟨hm,hne⟩)
    ·exact .inl e
    ·obtain ⟨j,hj,e⟩:=mem_gI.1 hm
     refine .inr ⟨j,hj,?_,e⟩
     rintro rfl
     rw [←e] at hne
     exact hne h2
def dropF (l:List IK) (p:List Int) (v i:Nat):List IK×List Int:=
 if i=l.length-1 then (l.take (l.length-1),p.set v (-1))
 else if gP (sinkF (l.take (l.length-1)) (p.set v (-1)) i (gI l (l.length-1))).2 (gI l (l.length-1)).1.toNat=(i:Int) then
  riseF (sinkF (l.take (l.length-1)) (p.set v (-1)) i (gI l (l.length-1))).1 (sinkF (l.take (l.length-1)) (p.set v (-1)) i (gI l (l.length-1))).2 i (gI l (l.length-1))
 else sinkF (l.take (l.length-1)) (p.set v (-1)) i (gI l (l.length-1))
theorem gI_take {l:List IK} {j n:Nat} (h:j<n):gI (l.take n) j=gI l j:=by
 unfold gI
 rw [List.getD_eq_getElem?_getD,List.getD_eq_getElem?_getD,List.getElem?_take,if_pos h]
theorem drop_hole {l:List IK} {p:List Int} (h:HeapOK l p) {v i:Nat} (hv:v<p.length) (hi:i<l.length) (hp:gP p v=(i:Int)) (hg:(gI l i).1=(v:Int)) (hl:¬i=l.length-1):
  Hole (l.take (l.length-1)) (p.set v (-1)) i (gI l (l.length-1)):=by
 have hlt:(l.take (l.length-1)).length=l.length-1:=by simp
 have hv0:∀j,j<l.length→j≠i→(gI l j).1≠(v:Int):=fun j hj hne e=>hne (h.c.inj hj hi (by rw [e,hg]))
 have hi2:i<l.length-1:=by omega
 obtain ⟨xa,xb,xc⟩:=h.c.pos (l.length-1) (by omega)
 refine ⟨by rw [hlt];exact hi2,by rw [List.length_set];exact ⟨xa,xb⟩,?_,?_⟩
 ·intro j hj hne
  rw [hlt] at hj
  rw [gI_take hj,List.length_set]
  obtain ⟨a,b,c⟩:=h.c.pos j (by omega)
  refine ⟨a,b,?_,?_⟩
  ·rw [gP_set hv,if_neg]
   ·exact c
   ·have:=hv0 j (by omega) hne
    omega
  ·intro e
   have:=h.c.inj (i:=j) (j:=l.length-1) (by omega) (by omega) e
   omega
 ·intro u hu hne
  rw [List.length_set] at hu
  rw [gP_set hv]
  by_cases e:u=v
  ·rw [if_pos e]
   exact .inl rfl
  ·rw [if_neg e]
   rcases h.c.inv u hu with h1|⟨j,j1,j2,j3⟩
   ·exact .inl h1
   ·have hne2:j≠i:=by
     rintro rfl
     omega
    have hne3:j≠l.length-1:=by
     rintro rfl
     exact hne j3.symm
    exact .inr ⟨j,by rw [hlt];omega,hne2,j2,by rw [gI_take (by omega)];exact j3⟩
theorem dropF_law {l:List IK} {p:List Int} (h:HeapOK l p) {v i:Nat} (hv:v<p.length) (hi:i<l.length) (hp:gP p v=(i:Int)) (hg:(gI l i).1=(v:Int)):
  HeapOK (dropF l p v i).1 (dropF l p v i).2∧(dropF l p v i).2.length=p.length∧(dropF l p v i).1.length=l.length-1∧∀y,y∈(dropF l p v i).1↔y∈l∧y.1≠(v:Int):=by
 have hlt:(l.take (l.length-1)).length=l.length-1:=by simp
 have hord:∀j,j<l.length-1→0<j→lessI (gI (l.take (l.length-1)) j) (gI (l.take (l.length-1)) ((j-1) / 2))=false:=by
  intro j hj h0
  rw [gI_take hj,gI_take (by omega)]
  exact h.o j (by omega) h0
 have hv0:∀j,j<l.length→j≠i→(gI l j).1≠(v:Int):=fun j hj hne e=>hne (h.c.inj hj hi (by rw [e,hg]))
 unfold dropF
 by_cases hl:i=l.length-1
 ·rw [if_pos hl]
  refine ⟨⟨⟨?_,?_⟩,?_⟩,by simp,hlt,?_⟩
  ·intro j hj
   have hj:j<l.length-1:=by rw [←hlt];exact hj
   show 0≤(gI (l.take (l.length-1)) j).1∧_
   rw [gI_take hj,List.length_set]
   obtain ⟨a,b,c⟩:=h.c.pos j (by omega)
   refine ⟨a,b,?_⟩
   rw [gP_set hv,if_neg]
   ·exact c
   ·have:=hv0 j (by omega) (by omega)
    omega
  ·intro u hu
   rw [List.length_set] at hu
   rw [gP_set hv]
   by_cases e:u=v
   ·rw [if_pos e]
    exact .inl rfl
   ·rw [if_neg e]
    rcases h.c.inv u hu with h1|⟨j,j1,j2,j3⟩
    ·exact .inl h1
    ·have hne:j≠i:=by
      rintro rfl
      omega
     refine .inr ⟨j,by show j<(l.take (l.length-1)).length;rw [hlt];omega,j2,?_⟩
     show (gI (l.take (l.length-1)) j).1=_
     rw [gI_take (by omega)]
     exact j3
  ·intro j hj h0
   exact hord j (by rw [←hlt];exact hj) h0
  ·intro y
   show y∈l.take (l.length-1)↔_
   rw [mem_gI,mem_gI,hlt]
   constructor
   ·rintro ⟨j,hj,e⟩
    rw [gI_take hj] at e
    exact ⟨⟨j,by omega,e⟩,by rw [←e];exact hv0 j (by omega) (by omega)⟩
   ·rintro ⟨⟨j,hj,e⟩,hne⟩
    have:j≠i:=by
     rintro rfl
     rw [←e] at hne
     exact hne hg
    exact ⟨j,by omega,by rw [gI_take (by omega)];exact e⟩
 ·rw [if_neg hl]
  have hi2:i<l.length-1:=by omega
  obtain ⟨xa,xb,xc⟩:=h.c.pos (l.length-1) (by omega)
  have hxv:=hv0 (l.length-1) (by omega) (by omega)
  have hh:Hole (l.take (l.length-1)) (p.set v (-1)) i (gI l (l.length-1)):=by
   refine ⟨by rw [hlt];exact hi2,by rw [List.length_set];exact ⟨xa,xb⟩,?_,?_⟩
   ·intro j hj hne
    rw [hlt] at hj
    rw [gI_take hj,List.length_set]
    obtain ⟨a,b,c⟩:=h.c.pos j (by omega)
    refine ⟨a,b,?_,?_⟩
    ·rw [gP_set hv,if_neg]
     ·exact c
     ·have:=hv0 j (by omega) hne
      omega
    ·intro e
     have:=h.c.inj (i:=j) (j:=l.length-1) (by omega) (by omega) e
     omega
   ·intro u hu hne
    rw [List.length_set] at hu
    rw [gP_set hv]
    by_cases e:u=v
    ·rw [if_pos e]
     exact .inl rfl
    ·rw [if_neg e]
     rcases h.c.inv u hu with h1|⟨j,j1,j2,j3⟩
     ·exact .inl h1
     ·have hne2:j≠i:=by
       rintro rfl
       omega
      have hne3:j≠l.length-1:=by
       rintro rfl
       exact hne j3.symm
      exact .inr ⟨j,by rw [hlt];omega,hne2,j2,by rw [gI_take (by omega)];exact j3⟩
  have hoI:OrdI (l.take (l.length-1)):=fun j hj h0=>hord j (by rw [←hlt];exact hj) h0
  have hmem:∀y,MemH (l.take (l.length-1)) i (gI l (l.length-1)) y↔y∈l∧y.1≠(v:Int):=by
   intro y
   unfold MemH
   rw [mem_gI,hlt]
   constructor
   ·rintro (e|⟨j,hj,hne,e⟩)
    ·exact ⟨⟨_,by omega,e.symm⟩,by rw [e];exact hxv⟩
    ·rw [gI_take hj] at e
     exact ⟨⟨j,by omega,e⟩,by rw [←e];exact hv0 j (by omega) hne⟩
   ·rintro ⟨⟨j,hj,e⟩,hne⟩
    have hji:j≠i:=by
     rintro rfl
     rw [←e] at hne
     exact hne hg
    by_cases e2:j=l.length-1
    ·subst e2
     exact .inl e.symm
    ·exact .inr ⟨j,by omega,hji,by rw [gI_take (by omega)];exact e⟩
  obtain ⟨⟨r1,r2,r3,r4⟩,r5,-,-⟩:=sinkF_law _ _ _ i (gI l (l.length-1)) rfl hh (hoI.hole i)
  rcases r5 with ⟨e,hlow⟩|⟨ho,k,hk,hp2⟩
  ·have hset:gP (p.set v (-1) |>.set (gI l (l.length-1)).1.toNat (i:Int)) (gI l (l.length-1)).1.toNat=(i:Int):=by
    rw [gP_set hh.hx.2,if_pos rfl]
   have hc:=r1
   rw [e] at hc r2 r3 r4
   rw [e]
   show HeapOK (if gP (p.set v (-1) |>.set _ _) _=_ then _ else _:List IK×List Int).1 _∧_
   rw [if_pos hset]
   have hgi:gI ((l.take (l.length-1)).set i (gI l (l.length-1))) i=gI l (l.length-1):=by rw [gI_set hh.hi,if_pos rfl]
   have hh2:Hole ((l.take (l.length-1)).set i (gI l (l.length-1))) (p.set v (-1) |>.set (gI l (l.length-1)).1.toNat (i:Int)) i (gI l (l.length-1)):=hc.hole (by rw [List.length_set];exact hh.hi) (by rw [hgi])
   have ho2:OrdH ((l.take (l.length-1)).set i (gI l (l.length-1))) i:=by
    have hH:=hoI.hole i
    refine ⟨?_,?_⟩
    ·intro j hj h0 e1 e2
     rw [List.length_set] at hj
     rw [gI_set hh.hi,gI_set hh.hi,if_neg e1,if_neg e2]
     exact hH.a j hj h0 e1 e2
    ·intro h0 j hj hj0 e2
     rw [List.length_set] at hj
     rw [gI_set hh.hi,gI_set hh.hi,if_neg (by omega),if_neg (by omega)]
     exact hH.c h0 j hj hj0 e2
   have hl2:LowH ((l.take (l.length-1)).set i (gI l (l.length-1))) i (gI l (l.length-1)):=by
    intro j hj hj0 e2
    rw [List.length_set] at hj
    rw [gI_set hh.hi,if_neg (by omega)]
    exact hlow j hj hj0 e2
   obtain ⟨s1,s2,s3,s4,s5⟩:=riseF_law _ _ _ _ hh2 ho2 hl2
   refine ⟨⟨s1,s2⟩,?_,?_,?_⟩
   ·rw [s5];simp
   ·rw [s4];simp
   ·intro y
    refine (s3 y).trans (Iff.trans ?_ (hmem y))
    unfold MemH
    rw [List.length_set]
    constructor
    ·rintro (e3|⟨j,hj,hne,e3⟩)
     ·exact .inl e3
     ·rw [gI_set hh.hi,if_neg hne] at e3
      exact .inr ⟨j,hj,hne,e3⟩
    ·rintro (e3|⟨j,hj,hne,e3⟩)
     ·exact .inl e3
     ·exact .inr ⟨j,hj,hne,by rw [gI_set hh.hi,if_neg hne];exact e3⟩
  ·rw [if_neg (by rw [hp2];omega)]
   exact ⟨⟨r1,ho⟩,by rw [r4];simp,by rw [r3,hlt],fun y=>(r2 y).trans (hmem y)⟩
theorem OrdI.first {l:List IK} (h:OrdI l):∀j,j<l.length→lessI (gI l j) (gI l 0)=false:=by
 intro j
 induction j using Nat.strongRecOn with
 |_ j ih=>
  intro hj
  by_cases h0:j=0
  ·subst h0
   rw [lessI_not]
   omega
  ·have h1:=h j hj (by omega)
   have h2:=ih ((j-1) / 2) (by omega) (by omega)
   rw [lessI_not] at h1 h2 ⊢
   omega
theorem HeapOK.least {l:List IK} {p:List Int} (h:HeapOK l p) {y:IK} (hy:y∈l):(gI l 0).2≤y.2:=by
 obtain ⟨j,hj,rfl⟩:=mem_gI.1 hy
 have:=h.o.first j hj
 rw [lessI_not] at this
 omega
theorem heap_new (n:Nat):HeapOK [] (List.replicate n (-1)):=by
 refine ⟨⟨fun j hj=>absurd hj (by simp),?_⟩,fun j hj=>absurd hj (by simp)⟩
 intro v hv
 refine .inl ?_
 unfold gP
 rw [List.getD_eq_getElem?_getD,List.getElem?_replicate]
 split<;>rfl
end Go.Proofs.YteaaapdjplbljaaGreat.Hp
