/- What tour.Order and tour.Near give, told by orders; the reference's Count and Tour for the law TourLeast. -/
import Derived.Test.YteaaapdjplbljaaGreatLxS
import Derived.Test.YteaaapdjplbljaaGreatProg
import Derived.Test.YteaaapdjplbljaaGreatLx01
import Derived.Test.YteaaapdjplbljaaGreatLx03
import Derived.Test.YteaaapdjplbljaaGreatLw37
set_option linter.unusedVariables false
set_option linter.unusedSimpArgs false
set_option linter.unnecessarySimpa false
namespace Go.Proofs.YteaaapdjplbljaaGreat
open Go Go.Proofs Go.RowKit Go.Shelf Go.Proofs.YteaaapdjplbljaaGreat.Hp Go.Proofs.YteaaapdjplbljaaGreat.Ch Go.Proofs.YteaaapdjplbljaaGreat.To
def OrdQ (m:Nat) (q:List Nat):Prop:=q.length=m∧(∀i∈q,i<m)∧q.Nodup
theorem tail_bnd {es:List EdgeD} {s t:Int} {l:List Int} (hD:∀x∈s::t::l,∀y∈s::t::l,DistT es x y) {q:List Nat} (hq:OrdQ l.length q) (hb:tailB (cmat es (s::t::l)) 0 q=true):
  0≤tailC (cmat es (s::t::l)) 0 q∧tailC (cmat es (s::t::l)) 0 q≤422212465065984*((l.length:Int)+1):=by
 have h1:=(ord_ok (es:=es) (all:=s::t::l) q 0).2 hb
 have h2:=legSum_in h1 (by
  have:=dist_legs hD (ord_mem (all:=s::t::l) (u:=0) (q:=q) (by simp) (by simp) (fun i hi=>by have:=hq.2.1 i hi;simp;omega))
  rw [ordL_length] at this
  exact this)
 rw [ord_sum] at h2
 have h3:q.length=l.length:=hq.1
 rw [h3] at h2
 have e:((l.length+1:Nat):Int)=(l.length:Int)+1:=by omega
 rw [e] at h2
 exact h2
theorem TrOrdPost.split {es:List EdgeD} {s t:Int} {l:List Int} {w w':World} {e:Ending} (h:TrOrdPost es (s::t::l) l.length w e w') (hl:l.length≤7):
  (∀x∈s::t::l,∀y∈s::t::l,DistT es x y)∧Below w.heap.size w w'∧
  ((∃(q:List Nat) (a:Option Addr) (c:Nat),OrdQ l.length q∧tailB (cmat es (s::t::l)) 0 q=true∧(∀p,OrdQ l.length p→tailB (cmat es (s::t::l)) 0 p=true→tailC (cmat es (s::t::l)) 0 q≤tailC (cmat es (s::t::l)) 0 p)∧
    e=.returned (.tuple #[.slice a l.length c,.int .u64 (tailC (cmat es (s::t::l)) 0 q),.int .i64 0])∧Cel w' a (q.map encN))∨
   ((∀p,OrdQ l.length p→tailB (cmat es (s::t::l)) 0 p=false)∧e=.returned (.tuple #[.slice none 0 0,.int .u64 0,.int .i64 9]))):=by
 obtain ⟨hD,h2,h3⟩:=h
 have hA:=dist_all hD
 obtain ⟨b1,b2⟩:=best_spec (c:=cmat es (s::t::l)) (m:=l.length) (fun i j hi hj=>cmat_pos (all:=s::t::l) hD i j (by simp;omega) (by simp;omega))
 refine ⟨hA,h3,?_⟩
 rcases h2 with ⟨k1,a,c,rfl,k2⟩|⟨k1,rfl⟩
 ·obtain ⟨q,q1,q2,q3,q4,q5⟩:=b2 k1
  refine .inl ⟨q,a,c,⟨q1,q2,q3⟩,q4,fun p hp hb=>?_,?_,?_⟩
  ·have:=b1 p hp.1 hp.2.1 hp.2.2 hb
   rwa [q5] at this
  ·rw [q5,q1]
  ·rw [q5,encN_map] at k2
   exact k2
 ·refine .inr ⟨fun p hp=>?_,rfl⟩
  cases hb:tailB (cmat es (s::t::l)) 0 p with
  |false=>rfl
  |true=>
   have h4:=b1 p hp.1 hp.2.1 hp.2.2 hb
   have h5:=(tail_bnd hA hp hb).2
   omega
theorem near_cong {c c':Nat→Nat→Int} {m:Nat} (h:∀u i,u≠1→c u (i+2)=c' u (i+2)):∀(r u:Nat) (out:List Nat) (sum:Int),u≠1→tnearF c m r u out sum=tnearF c' m r u out sum
 |0,_,_,_,_=>rfl
 |r+1,u,out,sum,hu=>by
  unfold tnearF
  have e:(fun i=>c u (i+2))=(fun i=>c' u (i+2)):=funext fun i=>h u i hu
  rw [e]
  cases (tpickF (fun i=>c' u (i+2)) out m).1 with
  |none=>rfl
  |some b=>
   show tnearF c m r (b+2) (out++[b]) (sum+c u (b+2))=tnearF c' m r (b+2) (out++[b]) (sum+c' u (b+2))
   rw [h u b hu]
   exact near_cong h r (b+2) _ _ (by omega)
def lastN (s:Int) (l:List Int) (p:List Nat):Int:=p.getLast?.elim s (fun i=>l.getD i 0)
theorem TrNearPost.split {es:List EdgeD} {s:Int} (t:Int) {l:List Int} {w w':World} {e:Ending} (h:TrNearPost es s l w e w'):
  Below w.heap.size w w'∧((∃(p:List Nat) (a:Option Addr) (c:Nat) (d:Int),OrdQ l.length p∧e=.returned (.tuple #[.slice a l.length c,.int .u64 d,.int .i64 0])∧Cel w' a (p.map encN)∧
    (distV es (lastN s l p) t<4611686018427387904→tailB (cmat es (s::t::l)) 0 p=true∧d+distV es (lastN s l p) t=tailC (cmat es (s::t::l)) 0 p))∨
   e=.returned (.tuple #[.slice none 0 0,.int .u64 0,.int .i64 9])):=by
 obtain ⟨h1,h2⟩:=h
 refine ⟨h2,?_⟩
 have hc:tnearF (cmat es (s::s::l)) l.length l.length 0 [] 0=tnearF (cmat es (s::t::l)) l.length l.length 0 [] 0:=near_cong (fun u i hu=>by
  unfold cmat
  match u with
  |0=>rfl
  |1=>exact absurd rfl hu
  |u+2=>rfl) _ _ _ _ (by omega)
 rw [hc] at h1
 cases hq:tnearF (cmat es (s::t::l)) l.length l.length 0 [] 0 with
 |none=>
  rw [hq] at h1
  exact .inr h1
 |some q=>
  rw [hq] at h1
  obtain ⟨a,c,rfl,h4⟩:=h1
  obtain ⟨p,p1,p2,p3,p4,p5⟩:=near_spec _ _ _ _ _ hq
  rw [List.nil_append] at p4
  refine .inl ⟨p,a,c,q.2,⟨p1,fun i hi=>(p2 i hi).1,p3⟩,by rw [p4,p1],by rw [←p4];exact h4,fun hlt=>?_⟩
  have hl:cmat es (s::t::l) (p.getLast?.elim 0 (· +2)) 1=distV es (lastN s l p) t:=by
   unfold cmat lastN
   cases p.getLast? with
   |none=>rfl
   |some b=>rfl
  obtain ⟨t1,t2⟩:=p5 _ hl hlt
  exact ⟨t1,by rw [t2,Int.zero_add]⟩
theorem tour_fix {n:Nat} {es:List EdgeD} {all L:List Int} (m:Nat) (hL:L.length=m+2) (hg:rightG ⟨(n:Int),es⟩=0) (hn:n≤12) (hes:es.length≤40) (hm:m≤20) (hno:∀t∈L,nodeN n t) (hA:∀u v w,arcG es u v w→1≤w) (hD:∀x∈all,∀y∈all,DistT es x y) (hin:∀x∈L,x∈all):
  ∃(gv:Int) (gb:Bool),(gb=true→legsOK (distV es) L (m+1)∧gv=legSum (distV es) L (m+1))∧(legsOK (distV es) L (m+1)→gb=true)∧
   ∀(ao lo:Option Addr) (cap lc:Nat) (W:World),Cel W ao (flat es)→Cel W lo (L.map encI)→Calls Tryz.prog 28 #[.agg #[.int .i64 (n:Int),.slice ao es.length cap],.slice lo (m+2) lc] W fun e w'=>e=.returned (.tuple #[.int .u64 gv,.bool gb])∧Below W.heap.size W w':=by
 have e1:L.length-1=m+1:=by omega
 have hlg:=dist_legs hD hin
 have hc:=fun (ao lo:Option Addr) (cap lc:Nat) (W:World) (h1:Cel W ao (flat es)) (h2:Cel W lo (L.map encI))=>refTour_any n es ao cap lo lc L W hg hn hes h1 h2 (by omega) hno hA hlg
 unfold RefTour at hc
 rw [e1,hL] at hc
 by_cases hok:legsOK (distV es) L (m+1)
 ·refine ⟨legSum (distV es) L (m+1),true,fun _=>⟨hok,rfl⟩,fun _=>rfl,fun ao lo cap lc W h1 h2=>(hc ao lo cap lc W h1 h2).mono ?_⟩
  rintro e w' ⟨⟨-,rfl⟩|⟨⟨j,h3,h4⟩,-⟩,hb⟩
  ·exact ⟨rfl,hb⟩
  ·have:=hok j h3
   omega
 ·refine ⟨0,false,(fun h=>by cases h),fun h=>absurd h hok,fun ao lo cap lc W h1 h2=>(hc ao lo cap lc W h1 h2).mono ?_⟩
  rintro e w' ⟨⟨h3,-⟩|⟨-,rfl⟩,hb⟩
  ·exact absurd h3 hok
  ·exact ⟨rfl,hb⟩
theorem count_map {q:List Nat} (i:Nat):(q.map Int.ofNat).count (i:Int)=q.count i:=by
 induction q with
 |nil=>rfl
 |cons x q ih=>
  rw [List.map_cons,List.count_cons,List.count_cons,ih]
  congr 1
  have:(Int.ofNat x==(i:Int))=(x==i):=by
   rw [Bool.eq_iff_iff,beq_iff_eq,beq_iff_eq]
   exact ⟨fun h=>by injection h,fun h=>by rw [h];rfl⟩
  rw [this]
set_option maxHeartbeats 1000000 in
theorem refCount_any (l:List Int) (x:Int) (ao:Option Addr) (cap:Nat) (w:World) (hc:Cel w ao (l.map encI)) (hl:l.length≤1000000):
  Calls Tryz.prog 29 #[.slice ao l.length cap,.int .i64 x] w fun e w'=>e=.returned (.int .i64 (l.count x:Int))∧w=w':=by
 have HC:=Lib.hid hc
 have hl2:(l.length:Int)≤1000000:=by omega
 clear hc
 go_enter Tryz.func29,Tryz.ntmps29
 go_wp2
 go_loopg [5,6] l.length (fun gg v5 v6 wr=>∃(k q:Nat),k≤l.length∧l.length-k≤gg∧v6=.int .i64 (k:Int)∧v5=.int .i64 (q:Int)∧Aside (q=(l.take k).count x)∧wr=w)
 case atStart=>exact ⟨0,0,Nat.zero_le _,by omega,rfl,rfl,by simp [Aside],rfl⟩
 case round=>
  obtain ⟨k,q,hk,hgg,rfl,rfl,hq,rfl⟩:=hrel
  have HQ:=Lib.hid hq.out
  have hq9:(q:Int)≤1000000:=by
   have h1:=List.count_le_length (a:=x) (l:=l.take k)
   have h2:=List.length_take (i:=k) (l:=l)
   have h3:=hq.out
   omega
  clear hq
  by_cases hlt:k<l.length
  ·have hlt3:(k:Int)<(l.length:Int):=by omega
   have hk0:(0:Int)≤(k:Int):=by omega
   obtain ⟨b,o,rfl,y0⟩:=HC.out.at hlt
   have HT:=Lib.hid (show (l.take (k+1)).count x=(l.take k).count x+if l[k]==x then 1 else 0 by rw [List.take_succ_eq_append_getElem hlt,List.count_append,List.count_singleton])
   generalize l[k]=y at*
   by_cases hne:y=x
   ·have hb:(y==x)=true:=by simpa using hne
    rw [hb,if_pos rfl] at HT
    go_wp2
    go_roundg (l.length-(k+1))
    case measure=>omega
    case rel=>exact ⟨k+1,q+1,by omega,Nat.le_refl _,by go_num,by go_num,by show _=_;rw [HT.out,HQ.out],rfl⟩
   ·have hb:(y==x)=false:=by simpa using hne
    rw [hb,if_neg (by simp)] at HT
    go_wp2
    go_roundg (l.length-(k+1))
    case measure=>omega
    case rel=>exact ⟨k+1,q,by omega,Nat.le_refl _,by go_num,rfl,by show _=_;rw [HT.out,HQ.out,Nat.add_zero],rfl⟩
  ·obtain rfl:k=l.length:=by omega
   have e:q=l.count x:=by rw [HQ.out,List.take_length]
   have HE:=Lib.hid e
   clear HQ e
   go_wp2
   refine bodyPost_ret (v:=.int .i64 (q:Int)) (by simp [results,Tryz.results29,go_sem];try rfl) rfl ?_
   exact ⟨by rw [HE.out],rfl⟩
end Go.Proofs.YteaaapdjplbljaaGreat
