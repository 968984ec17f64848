/- The lightest arcs to a node and from it, and the ways by it that are kept, in plain Lean. A map of weights by numbers, as it lies in memory: what it says, what a reading and a writing give. -/
import Derived.Test.YteaaapdjplbljaaGreatLw09
import Derived.Test.YteaaapdjplbljaaGreatProg
import Derived.Test.YteaaapdjplbljaaGreatLw06
import Derived.Maps.Own
import Derived.Maps.OwnSet
import Derived.Maps.OwnOps
import Derived.Maps.RangeWalk
set_option linter.unusedVariables false
set_option linter.unusedSimpArgs false
set_option linter.unnecessarySimpa false
section
namespace Go.Proofs.YteaaapdjplbljaaGreat.Ch
def lessO (o:Option Int) (w:Int):Bool:=match o with
 |some x=>decide (w<x)
 |none=>true
def updM (f:Int→Option Int) (u x:Int):Int→Option Int:=fun k=>if k=u then some x else f k
def updF (gone:List Bool) (v:Int) (m:Int→Option Int) (u w:Int):Int→Option Int:=
 if decide (u≠v)&&!(gone.getD u.toNat true)&&lessO (m u) w then updM m u w else m
def LightOK (A:Int→Int→Prop) (gone:List Bool) (v:Int) (m:Int→Option Int):Prop:=∀u,
 (∀x,m u=some x→A u x∧u≠v∧gone.getD u.toNat true=false∧∀y,A u y→x≤y)∧(m u=none→u=v∨gone.getD u.toNat true=true∨∀y,¬A u y)
variable {A B:Int→Int→Prop} {gone:List Bool} {v:Int} {m:Int→Option Int}
theorem LightOK.congr (h:LightOK A gone v m) (e:∀u y,A u y↔B u y):LightOK B gone v m:=by
 have:A=B:=funext fun u=>funext fun y=>propext (e u y)
 rw [←this]
 exact h
theorem LightOK.nil:LightOK (fun _ _=>False) gone v (fun _=>Option.none):=by
 intro u
 constructor
 ·intro x h
  exact absurd h (by simp)
 ·intro _
  exact Or.inr (Or.inr fun _ h=>h)
theorem LightOK.upd (h:LightOK A gone v m) (u w:Int):LightOK (fun k y=>A k y∨(k=u∧y=w)) gone v (updF gone v m u w):=by
 intro k
 obtain ⟨h1,h2⟩:=h k
 unfold updF
 by_cases e:(decide (u≠v)&&!(gone.getD u.toNat true)&&lessO (m u) w)=true
 ·rw [if_pos e]
  simp only [Bool.and_eq_true,decide_eq_true_eq,Bool.not_eq_true'] at e
  obtain ⟨⟨e1,e2⟩,e3⟩:=e
  unfold updM
  by_cases ek:k=u
  ·subst ek
   rw [if_pos rfl]
   refine ⟨?_,fun c=>by cases c⟩
   rintro x hx
   cases hx
   refine ⟨.inr ⟨rfl,rfl⟩,e1,e2,?_⟩
   rintro y (hy|⟨_,rfl⟩)
   ·cases hm:m k with
    |none=>
     rcases h2 hm with c|c|c
     ·exact absurd c e1
     ·rw [e2] at c;cases c
     ·exact absurd hy (c y)
    |some z=>
     rw [hm] at e3
     have:=(h1 z hm).2.2.2 y hy
     have e4:w<z:=by simpa [lessO] using e3
     omega
   ·exact Int.le_refl _
  ·rw [if_neg ek]
   refine ⟨fun x hx=>?_,fun hx=>?_⟩
   ·obtain ⟨a1,a2,a3,a4⟩:=h1 x hx
    refine ⟨.inl a1,a2,a3,?_⟩
    rintro y (hy|⟨c,_⟩)
    ·exact a4 y hy
    ·exact absurd c ek
   ·rcases h2 hx with c|c|c
    ·exact .inl c
    ·exact .inr (.inl c)
    ·refine .inr (.inr ?_)
     rintro y (hy|⟨d,_⟩)
     ·exact c y hy
     ·exact ek d
 ·rw [if_neg e]
  refine ⟨fun x hx=>?_,fun hx=>?_⟩
  ·obtain ⟨a1,a2,a3,a4⟩:=h1 x hx
   refine ⟨.inl a1,a2,a3,?_⟩
   rintro y (hy|⟨rfl,rfl⟩)
   ·exact a4 y hy
   ·apply Int.not_lt.1
    intro hlt
    apply e
    rw [a3,hx]
    simp [a2,lessO,hlt]
  ·rcases h2 hx with c|c|c
   ·exact .inl c
   ·exact .inr (.inl c)
   ·by_cases ek:k=u
    ·subst ek
     rw [hx] at e
     by_cases ev:k=v
     ·exact .inl ev
     ·refine .inr (.inl ?_)
      cases hg:gone.getD k.toNat true with
      |true=>rfl
      |false=>exact absurd (by rw [hg];simp [ev,lessO]) e
    ·refine .inr (.inr ?_)
     rintro y (hy|⟨d,_⟩)
     ·exact c y hy
     ·exact ek d
abbrev MM:=(Int→Option Int)×(Int→Option Int)
def lstep (gone:List Bool) (v i:Int) (m:MM) (a:Int×Int):MM:=
 if v=i then (m.1,updF gone v m.2 a.1 a.2) else if v=a.1 then (updF gone v m.1 i a.2,m.2) else m
def lrow (gone:List Bool) (v i:Int) (m:MM) (l:List (Int×Int)):MM:=l.foldl (lstep gone v i) m
def lrows (O:List (List (Int×Int))) (gone:List Bool) (v:Int):Nat→MM
 |0=>(fun _=>none,fun _=>none)
 |i+1=>lrow gone v i (lrows O gone v i) (O.getD i [])
def LOK (A B:Int→Int→Prop) (gone:List Bool) (v:Int) (m:MM):Prop:=LightOK A gone v m.1∧LightOK B gone v m.2
theorem lrow_law (i:Int):∀(l:List (Int×Int)) (A B:Int→Int→Prop) (m:MM),LOK A B gone v m→
  LOK (fun k y=>A k y∨(v≠i∧k=i∧(v,y)∈l)) (fun k y=>B k y∨(v=i∧(k,y)∈l)) gone v (lrow gone v i m l)
 |[],A,B,m,h=>⟨h.1.congr (by simp),h.2.congr (by simp)⟩
 |a::l,A,B,m,h=>by
  show LOK _ _ gone v (lrow gone v i (lstep gone v i m a) l)
  by_cases e:v=i
  ·have hs:lstep gone v i m a=(m.1,updF gone v m.2 a.1 a.2):=if_pos e
   rw [hs]
   have:=lrow_law i l A (fun k y=>B k y∨(k=a.1∧y=a.2)) (m.1,updF gone v m.2 a.1 a.2) ⟨h.1,h.2.upd a.1 a.2⟩
   refine ⟨this.1.congr ?_,this.2.congr ?_⟩
   ·intro u y;simp [e]
   ·intro u y
    constructor
    ·rintro ((k|⟨rfl,rfl⟩)|⟨k1,k2⟩)
     ·exact .inl k
     ·exact .inr ⟨e,by simp⟩
     ·exact .inr ⟨k1,by simp [k2]⟩
    ·rintro (k|⟨k1,k2⟩)
     ·exact .inl (.inl k)
     ·rcases List.mem_cons.1 k2 with rfl|k2
      ·exact .inl (.inr ⟨rfl,rfl⟩)
      ·exact .inr ⟨k1,k2⟩
  ·by_cases e2:v=a.1
   ·have hs:lstep gone v i m a=(updF gone v m.1 i a.2,m.2):=(if_neg e).trans (if_pos e2)
    rw [hs]
    have:=lrow_law i l (fun k y=>A k y∨(k=i∧y=a.2)) B (updF gone v m.1 i a.2,m.2) ⟨h.1.upd i a.2,h.2⟩
    refine ⟨this.1.congr ?_,this.2.congr ?_⟩
    ·intro u y
     constructor
     ·rintro ((k|⟨rfl,rfl⟩)|⟨k1,k2,k3⟩)
      ·exact .inl k
      ·exact .inr ⟨e,rfl,by rw [e2];simp⟩
      ·exact .inr ⟨k1,k2,by simp [k3]⟩
     ·rintro (k|⟨k1,k2,k3⟩)
      ·exact .inl (.inl k)
      ·rcases List.mem_cons.1 k3 with k3|k3
       ·exact .inl (.inr ⟨k2,by rw [←k3]⟩)
       ·exact .inr ⟨k1,k2,k3⟩
    ·intro u y;simp [e]
   ·have hs:lstep gone v i m a=m:=(if_neg e).trans (if_neg e2)
    rw [hs]
    have:=lrow_law i l A B _ h
    refine ⟨this.1.congr ?_,this.2.congr ?_⟩
    ·intro u y
     have:(v,y)≠a:=fun k=>e2 (by rw [←k])
     simp [this]
    ·intro u y;simp [e]
theorem lrows_law (O:List (List (Int×Int))) (gone:List Bool) (v:Int):∀i:Nat,
  LOK (fun k y=>0≤k∧k<i∧k≠v∧(v,y)∈rowO O k) (fun k y=>0≤v∧v<i∧(k,y)∈rowO O v) gone v (lrows O gone v i)
 |0=>⟨LightOK.nil.congr (by intro u y;constructor;exact False.elim;rintro ⟨a,b,_⟩;simp at b;omega),LightOK.nil.congr (by intro u y;constructor;exact False.elim;rintro ⟨a,b,_⟩;simp at b;omega)⟩
 |i+1=>by
  have:=lrow_law (i:Int) (O.getD i []) _ _ _ (lrows_law O gone v i)
  have hrow:rowO O (i:Int)=O.getD i []:=by unfold rowO;simp
  refine ⟨this.1.congr ?_,this.2.congr ?_⟩
  ·intro u y
   constructor
   ·rintro (⟨a,b,c,d⟩|⟨a,rfl,c⟩)
    ·exact ⟨a,by push_cast;omega,c,d⟩
    ·exact ⟨by omega,by push_cast;omega,fun e=>a e.symm,by rw [hrow];exact c⟩
   ·rintro ⟨a,b,c,d⟩
    by_cases e:u=i
    ·subst e
     exact .inr ⟨fun e=>c e.symm,rfl,by rw [←hrow];exact d⟩
    ·exact .inl ⟨a,by push_cast at b;omega,c,d⟩
  ·intro u y
   constructor
   ·rintro (⟨a,b,d⟩|⟨rfl,c⟩)
    ·exact ⟨a,by push_cast;omega,d⟩
    ·exact ⟨by omega,by push_cast;omega,by rw [hrow];exact c⟩
   ·rintro ⟨a,b,d⟩
    by_cases e:v=i
    ·subst e
     exact .inr ⟨rfl,by rw [←hrow];exact d⟩
    ·exact .inl ⟨a,by push_cast at b;omega,d⟩
structure Lights (O:List (List (Int×Int))) (gone:List Bool) (v:Int) (m:MM):Prop where
 to:LightOK (fun k y=>nodeN O.length k∧k≠v∧(v,y)∈rowO O k) gone v m.1
 fr:LightOK (fun k y=>(k,y)∈rowO O v) gone v m.2
theorem lights (O:List (List (Int×Int))) (gone:List Bool) {v:Int} (hv:nodeN O.length v):Lights O gone v (lrows O gone v O.length):=by
 obtain ⟨h1,h2⟩:=lrows_law O gone v O.length
 exact ⟨h1.congr (fun u y=>⟨fun ⟨a,b,c,d⟩=>⟨⟨a,b⟩,c,d⟩,fun ⟨⟨a,b⟩,c,d⟩=>⟨a,b,c,d⟩⟩),h2.congr (fun u y=>⟨fun ⟨_,_,c⟩=>c,fun c=>⟨hv.1,hv.2,c⟩⟩)⟩
structure KeptI (O:List (List (Int×Int))) (gone:List Bool) (v:Int) (m:MM) (i j:Nat) (l:List (Int×Int×Int)):Prop where
 is:∀y∈l,nodeN O.length y.1∧nodeN O.length y.2.1∧y.1≠y.2.1∧∃a b,m.1 y.1=some a∧m.2 y.2.1=some b∧y.2.2=a+b
 all:∀(u w:Nat) (a b:Int),(u<i∨(u=i∧w<j))→u≠w→m.1 u=some a→m.2 w=some b→w<O.length→((u:Int),(w:Int),a+b)∈l∨∃e,e<a+b∧Way (NR O (gone.set v.toNat true)) Any u w e
 len:l.length≤i*O.length+j
variable {O:List (List (Int×Int))} {mm:MM} {i j:Nat} {l:List (Int×Int×Int)}
theorem KeptI.begin:KeptI O gone v mm 0 0 []:=⟨by simp,by rintro u w a b (h|⟨_,h⟩)<;>omega,by simp⟩
theorem KeptI.row (h:KeptI O gone v mm i O.length l):KeptI O gone v mm (i+1) 0 l:=
 ⟨h.is,fun u w a b hu hne ha hb hw=>h.all u w a b (by omega) hne ha hb hw,by have:=h.len;rw [Nat.succ_mul];omega⟩
theorem KeptI.skipRow (h:KeptI O gone v mm i 0 l) (hn:mm.1 i=none):KeptI O gone v mm (i+1) 0 l:=
 ⟨h.is,fun u w a b hu hne ha hb hw=>h.all u w a b (by
  rcases hu with hu|⟨_,hu⟩
  ·by_cases e:u=i
   ·subst e;rw [hn] at ha;cases ha
   ·omega
  ·omega) hne ha hb hw,by have:=h.len;rw [Nat.succ_mul];omega⟩
theorem KeptI.skip (h:KeptI O gone v mm i j l) (hn:mm.2 j=none∨i=j):KeptI O gone v mm i (j+1) l:=
 ⟨h.is,fun u w a b hu hne ha hb hw=>by
  by_cases e:u=i∧w=j
  ·obtain ⟨rfl,rfl⟩:=e
   rcases hn with hn|hn
   ·rw [hn] at hb;cases hb
   ·exact absurd hn hne
  ·exact h.all u w a b (by omega) hne ha hb hw,by have:=h.len;omega⟩
theorem KeptI.lighter (h:KeptI O gone v mm i j l) {a b e:Int} (ha:mm.1 i=some a) (hb:mm.2 j=some b) (hw:Way (NR O (gone.set v.toNat true)) Any i j e) (he:e<a+b):KeptI O gone v mm i (j+1) l:=
 ⟨h.is,fun u w a' b' hu hne ha' hb' hw'=>by
  by_cases e2:u=i∧w=j
  ·obtain ⟨rfl,rfl⟩:=e2
   rw [ha] at ha';rw [hb] at hb'
   cases ha';cases hb'
   exact .inr ⟨e,he,hw⟩
  ·exact h.all u w a' b' (by omega) hne ha' hb' hw',by have:=h.len;omega⟩
theorem KeptI.keep (h:KeptI O gone v mm i j l) (hi:i<O.length) (hj:j<O.length) (hij:i≠j) {a b:Int} (ha:mm.1 i=some a) (hb:mm.2 j=some b):KeptI O gone v mm i (j+1) (l++[((i:Int),(j:Int),a+b)]):=by
 refine ⟨?_,?_,by have:=h.len;simp;omega⟩
 ·intro y hy
  rcases List.mem_append.1 hy with hy|hy
  ·exact h.is y hy
  ·rw [List.mem_singleton] at hy
   subst hy
   exact ⟨⟨by simp,by simpa using hi⟩,⟨by simp,by simpa using hj⟩,by simp only;omega,a,b,ha,hb,rfl⟩
 ·intro u w a' b' hu hne ha' hb' hw'
  by_cases e2:u=i∧w=j
  ·obtain ⟨rfl,rfl⟩:=e2
   rw [ha] at ha';rw [hb] at hb'
   cases ha';cases hb'
   exact .inl (by simp)
  ·rcases h.all u w a' b' (by omega) hne ha' hb' hw' with k|k
   ·exact .inl (by simp [k])
   ·exact .inr k
theorem KeptI.ok {c:CoreD} {n:Nat} {out:List Int} {z:Int} (hO:c.O=O) (hn:O.length=n) (hinv:InvN n c) (hz:nodeN n z) (hg:∀u,gone.getD u.toNat true=false→nodeN n u→u∉out) (hg2:∀u,nodeN n u→u∉out→gone.getD u.toNat true=false)
  (hm:Lights O gone z mm) (hends:∀u w x,nodeN n u→(w,x)∈rowO O u→nodeN n w) (h:KeptI O gone z mm O.length 0 l) (hgl:gone.length=n):KeptOK c n out z l:=by
 subst hO
 have hset:∀u,nodeN n u→((gone.set z.toNat true).getD u.toNat true=false→u∉out∧u≠z):=by
  intro u hu k
  rw [getD_set _ _ _ _ _ (by have:=hz.1;have:=hz.2;omega)] at k
  split at k
  ·cases k
  ·rename_i e
   exact ⟨hg u k hu,by rintro rfl;exact e rfl⟩
 refine ⟨?_,?_⟩
 ·intro y hy
  obtain ⟨h1,h2,h3,a,b,h4,h5,h6⟩:=h.is y hy
  obtain ⟨p1,p2,p3,-⟩:=(hm.to y.1).1 a h4
  obtain ⟨q1,q2,q3,-⟩:=(hm.fr y.2.1).1 b h5
  rw [hn] at h1 h2
  exact ⟨h1,h2,hg _ p3 h1,hg _ q3 h2,p2,q2,h3,a,b,p1.2.2,q1,h6⟩
 ·intro u w a b hu hw huo hwo huz hwz huw ha hb
  have gu:=hg2 u hu huo
  have gw:=hg2 w hw hwo
  obtain ⟨x,hx⟩:∃x,mm.1 u=some x:=by
   cases hx:mm.1 u with
   |some x=>exact ⟨x,rfl⟩
   |none=>
    rcases (hm.to u).2 hx with k|k|k
    ·exact absurd k huz
    ·rw [gu] at k;cases k
    ·exact absurd ⟨by rw [hn];exact hu,huz,ha⟩ (k a)
  obtain ⟨y,hy⟩:∃y,mm.2 w=some y:=by
   cases hy:mm.2 w with
   |some y=>exact ⟨y,rfl⟩
   |none=>
    rcases (hm.fr w).2 hy with k|k|k
    ·exact absurd k hwz
    ·rw [gw] at k;cases k
    ·exact absurd hb (k b)
  obtain ⟨p1,-,-,p4⟩:=(hm.to u).1 x hx
  obtain ⟨q1,-,-,q4⟩:=(hm.fr w).1 y hy
  have uniq:∀u v w1 w2,nodeN n u→(v,w1)∈rowO c.O u→(v,w2)∈rowO c.O u→w1=w2:=by
   intro u v w1 w2 hu k1 k2
   obtain ⟨i1,x1,a1,a2,a3⟩:=(hinv.arc _ _ _ hu).1 k1
   obtain ⟨i2,x2,b1,b2,b3⟩:=(hinv.arc _ _ _ hu).1 k2
   rw [a1] at b1
   cases b1
   rw [a2] at b2
   cases b2
   omega
  obtain rfl:=uniq u z a x hu ha p1.2.2
  obtain rfl:=uniq z w b y hz hb q1
  have hu1:((u.toNat:Nat):Int)=u:=by have:=hu.1;omega
  have hw1:((w.toNat:Nat):Int)=w:=by have:=hw.1;omega
  rcases h.all u.toNat w.toNat a b (.inl (by have:=hu.1;have:=hu.2;omega)) (by omega) (by rw [hu1];exact hx) (by rw [hw1];exact hy) (by have:=hw.1;have:=hw.2;omega) with k|⟨e,he,k⟩
  ·rw [hu1,hw1] at k
   exact .inl k
  ·rw [hu1,hw1] at k
   refine .inr ⟨e,he,?_⟩
   refine k.mono (fun s t x k=>?_) (fun _ h=>h)
   obtain ⟨k1,k2,k3⟩:=k
   rw [hn] at k1
   have k4:=hends _ _ _ k1 k2
   obtain ⟨k5,k6⟩:=hset _ k4 k3
   exact ⟨k1,k2,k5,k6⟩
end Go.Proofs.YteaaapdjplbljaaGreat.Ch
end
section
namespace Go.Proofs.YteaaapdjplbljaaGreat
open Go Go.Proofs Go.RowKit Go.Shelf Go.Proofs.YteaaapdjplbljaaGreat.Ch
abbrev i64K (u:Int):Lit:=.int .i64 u
abbrev In6 (u:Int):Prop:= -9223372036854775808≤u∧u≤9223372036854775807
theorem in6_wf {u:Int} (h:In6 u):(i64K u).wf=true:=by
 simp [Lit.wf,IntKind.min,IntKind.max,IntKind.signed,IntKind.bits]
 omega
theorem u64_wf {x:Int} (h:0≤x∧x≤18446744073709551615):(Lit.int .u64 x).wf=true:=by
 simp [Lit.wf,IntKind.min,IntKind.max,IntKind.signed,IntKind.bits]
 omega
theorem mp_keyed:Maps.Keyed Tryz.prog 3:=Maps.int_keyed Tryz.underlying3
theorem mp_under:Tryz.prog.underlying 148=some (.map 3 37):=Tryz.underlying148
def MapW (w:World) (b n:Nat) (f:Int→Option Int):Prop:=
 ∃D:DataW Unit,w.ownsMap Tryz.prog 3 (plainElem Tryz.prog 37) b n D∧∀u,In6 u→Maps.has D (i64K u)=(f u).isSome∧D.atKey (i64K u) (.lit (.int .u64 0))=.lit (.int .u64 ((f u).getD 0))
variable {w w':World} {b n:Nat} {f:Int→Option Int}
theorem MapW.lt (h:MapW w b n f):b<w.heap.size:=let ⟨_,k,_⟩:=h;k.lt
theorem MapW.mono (h:MapW w b n f) {n':Nat} (hn:n≤n'):MapW w b n' f:=let ⟨D,k,r⟩:=h;⟨D,k.mono hn,r⟩
theorem MapW.eq (h:MapW w b n f) (he:w'.heap[b]? =w.heap[b]?):MapW w' b n f:=by
 obtain ⟨D,⟨es,clock,hb,r⟩,q⟩:=h
 exact ⟨D,⟨es,clock,he.trans hb,r⟩,q⟩
theorem MapW.go (h:MapW w b n f) (hb:Below w.heap.size w w'):MapW w' b n f:=h.eq (hb.block b h.lt)
theorem MapW.off {X:Nat→Prop} (h:MapW w b n f) (ho:OffX X w w') (hn:¬X b):MapW w' b n f:=h.eq (ho.block b h.lt hn)
theorem MapW.new (w:World):MapW (w.alloc (.map #[] 0)) w.heap.size 0 (fun _=>none):=
 ⟨.map [],World.ownsMap_made w _ _ _,fun u _=>⟨rfl,rfl⟩⟩
theorem MapW.look (h:MapW w b n f) {u:Int} (hu:In6 u):(Instr.lookup 148 (.map (some b)) (.int .i64 u) true).run Tryz.prog w=.ok (.tuple #[.int .u64 ((f u).getD 0),.bool (f u).isSome]) w:=by
 obtain ⟨D,k,q⟩:=h
 obtain ⟨v,ps,h1,h2⟩:=k.look_ok mp_keyed mp_under (z:=.int .u64 0) (by kernel_rfl) (zd:=.lit (.int .u64 0)) (zp:=[]) (plainElem_int Tryz.underlying37 (by decide)) (key:=.int .i64 u) (kl:=i64K u) (Maps.keyOf_int_mk Tryz.underlying3 (in6_wf hu))
 obtain ⟨q1,q2⟩:=q u hu
 rw [q2] at h2
 obtain ⟨c,rfl,hc,_⟩:=plainElem_int_inv Tryz.underlying37 h2
 simp only [Prod.mk.injEq,DataW.lit.injEq,Lit.int.injEq,true_and] at hc
 rw [h1,q1,hc.1]
theorem MapW.put (h:MapW w b n f) (hn:n<1000000000000000000) {u x:Int} (hu:In6 u) (hx:0≤x∧x≤18446744073709551615):
  ∃w',(Instr.mapUpdate 148 (.map (some b)) (.int .i64 u) (.int .u64 x)).run Tryz.prog w=.ok () w'∧MapW w' b (n+1) (updM f u x)∧OffX (· =b) w w':=by
 obtain ⟨D,k,q⟩:=h
 obtain ⟨w',h1,h2,h3⟩:=k.store (H:=Unit) mp_keyed mp_under (by unfold maxLen;omega) (key:=.int .i64 u) (val:=.int .u64 x) (kl:=i64K u) (d:=.lit (.int .u64 x)) (ps:=[]) (Maps.keyOf_int_mk Tryz.underlying3 (in6_wf hu)) (plainElem_int Tryz.underlying37 (u64_wf hx))
 have hg:=h3.grown
 refine ⟨w',h1,⟨_,h2,fun v hv=>?_⟩,⟨hg.os,hg.tape,hg.output,hg.size,fun j hj hjb=>hg.block j hj (fun e=>hjb (Option.some.inj e))⟩⟩
 obtain ⟨q1,q2⟩:=q v hv
 unfold updM
 by_cases e:v=u
 ·subst e
  rw [if_pos rfl,Maps.has_put_same k.isMap (k:=i64K v) trivial,Maps.atKey_put_same k.isMap (k:=i64K v) trivial]
  exact ⟨rfl,rfl⟩
 ·rw [if_neg e,Maps.has_put_other (fun h=>e (by cases h;rfl)),Maps.atKey_put_other (fun h=>e (by cases h;rfl))]
  exact ⟨q1,q2⟩
end Go.Proofs.YteaaapdjplbljaaGreat
end
