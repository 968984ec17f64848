/- Which edges a shortcut stands for, and how deep they lie, in plain Lean. Walks over the references of layers 18, 20 and 21: is a list a rank, is all of a hierarchy made of a graph. -/
import Derived.Test.YtkdomobedfhhgaaGreatQm25
import Derived.Test.YtkdomobedfhhgaaGreatProg
import Derived.Test.YtkdomobedfhhgaaGreatQm17
import Derived.Deep.CutRange
set_option linter.unusedVariables false
set_option linter.unusedSimpArgs false
set_option linter.unnecessarySimpa false
section
namespace Go.Proofs.YtkdomobedfhhgaaGreat
open Go Go.Proofs Go.RowKit Go.Shelf Go.Proofs.YtkdomobedfhhgaaGreat.Hp Go.Proofs.YtkdomobedfhhgaaGreat.Ch
def FedS (S:List SC):Prop:=∀i,i<S.length→0≤(S.getD i scZ).e∨((S.getD i scZ).e<0∧∃a b:Nat,(S.getD i scZ).a=(a:Int)∧(S.getD i scZ).b=(b:Int)∧a<i∧b<i)
def unF (S:List SC):Nat→Nat→List Int
 |0,_=>[]
 |k+1,i=>if 0≤(S.getD i scZ).e then [(S.getD i scZ).e] else unF S k (S.getD i scZ).a.toNat++unF S k (S.getD i scZ).b.toNat
def deF (S:List SC):Nat→Nat→Nat
 |0,_=>0
 |k+1,i=>if 0≤(S.getD i scZ).e then 0 else 1+max (deF S k (S.getD i scZ).a.toNat) (deF S k (S.getD i scZ).b.toNat)
def unL (S:List SC) (i:Nat):List Int:=unF S (i+1) i
def deL (S:List SC) (i:Nat):Nat:=deF S (i+1) i
theorem unF_eq {S:List SC} (h:FedS S):∀(k i:Nat),i<k→i<S.length→unF S k i=unL S i:=by
 have key:∀(i:Nat),i<S.length→∀k k',i<k→i<k'→unF S k i=unF S k' i:=by
  intro i
  induction i using Nat.strongRecOn with
  |ind i ih=>
   intro hi k k' hk hk'
   match k,k',hk,hk' with
   |k+1,k'+1,hk,hk'=>
    unfold unF
    split
    ·rfl
    ·rename_i hn
     rcases h i hi with h1|⟨_,a,b,ea,eb,ha,hb⟩
     ·exact absurd h1 hn
     ·rw [ea,eb,Int.toNat_natCast,Int.toNat_natCast,ih a ha (by omega) k k' (by omega) (by omega),ih b hb (by omega) k k' (by omega) (by omega)]
 intro k i hk hi
 exact key i hi k (i+1) hk (by omega)
theorem deF_eq {S:List SC} (h:FedS S):∀(k i:Nat),i<k→i<S.length→deF S k i=deL S i:=by
 have key:∀(i:Nat),i<S.length→∀k k',i<k→i<k'→deF S k i=deF S k' i:=by
  intro i
  induction i using Nat.strongRecOn with
  |ind i ih=>
   intro hi k k' hk hk'
   match k,k',hk,hk' with
   |k+1,k'+1,hk,hk'=>
    unfold deF
    split
    ·rfl
    ·rename_i hn
     rcases h i hi with h1|⟨_,a,b,ea,eb,ha,hb⟩
     ·exact absurd h1 hn
     ·rw [ea,eb,Int.toNat_natCast,Int.toNat_natCast,ih a ha (by omega) k k' (by omega) (by omega),ih b hb (by omega) k k' (by omega) (by omega)]
 intro k i hk hi
 exact key i hi k (i+1) hk (by omega)
theorem unL_edge {S:List SC} {i:Nat} (h:0≤(S.getD i scZ).e):unL S i=[(S.getD i scZ).e]:=by
 unfold unL unF
 rw [if_pos h]
theorem unL_two {S:List SC} (hF:FedS S) {i a b:Nat} (hi:i<S.length) (h:(S.getD i scZ).e<0) (ea:(S.getD i scZ).a=(a:Int)) (eb:(S.getD i scZ).b=(b:Int)) (ha:a<i) (hb:b<i):unL S i=unL S a++unL S b:=by
 have e:unL S i=if 0≤(S.getD i scZ).e then [(S.getD i scZ).e] else unF S i (S.getD i scZ).a.toNat++unF S i (S.getD i scZ).b.toNat:=rfl
 rw [e,if_neg (by omega),ea,eb,Int.toNat_natCast,Int.toNat_natCast,unF_eq hF i a ha (by omega),unF_eq hF i b hb (by omega)]
theorem deL_edge {S:List SC} {i:Nat} (h:0≤(S.getD i scZ).e):deL S i=0:=by
 unfold deL deF
 rw [if_pos h]
theorem deL_two {S:List SC} (hF:FedS S) {i a b:Nat} (hi:i<S.length) (h:(S.getD i scZ).e<0) (ea:(S.getD i scZ).a=(a:Int)) (eb:(S.getD i scZ).b=(b:Int)) (ha:a<i) (hb:b<i):deL S i=1+max (deL S a) (deL S b):=by
 have e:deL S i=if 0≤(S.getD i scZ).e then 0 else 1+max (deF S i (S.getD i scZ).a.toNat) (deF S i (S.getD i scZ).b.toNat):=rfl
 rw [e,if_neg (by omega),ea,eb,Int.toNat_natCast,Int.toNat_natCast,deF_eq hF i a ha (by omega),deF_eq hF i b hb (by omega)]
theorem deL_le {S:List SC} (hF:FedS S):∀i,i<S.length→deL S i≤i:=by
 intro i
 induction i using Nat.strongRecOn with
 |ind i ih=>
  intro hi
  rcases hF i hi with h1|⟨h0,a,b,ea,eb,ha,hb⟩
  ·rw [deL_edge h1];omega
  ·rw [deL_two hF hi h0 ea eb ha hb]
   have:=ih a ha (by omega)
   have:=ih b hb (by omega)
   omega
theorem unL_ne {S:List SC} (hF:FedS S):∀i,i<S.length→1≤(unL S i).length:=by
 intro i
 induction i using Nat.strongRecOn with
 |ind i ih=>
  intro hi
  rcases hF i hi with h1|⟨h0,a,b,ea,eb,ha,hb⟩
  ·rw [unL_edge h1];exact Nat.le_refl _
  ·rw [unL_two hF hi h0 ea eb ha hb,List.length_append]
   have:=ih a ha (by omega)
   omega
def inS (S:List SC) (v:Int):Bool:=decide (0≤v)&&decide (v<(S.length:Int))
def unA (S:List SC) (l:List Int):List Int:=l.flatMap fun v=>unL S v.toNat
def unW (S:List SC) (v:Int):Nat:=if inS S v then 2*(unL S v.toNat).length-1 else 1
def unM (S:List SC) (l:List Int):Nat:=(l.map (unW S)).sum
theorem inS_iff {S:List SC} {v:Int}:inS S v=true↔0≤v∧v<(S.length:Int):=by unfold inS;simp
theorem unW_pos {S:List SC} (hF:FedS S) (v:Int):1≤unW S v:=by
 unfold unW
 split
 ·rename_i h
  have:=unL_ne hF v.toNat (by have:=inS_iff.1 h;omega)
  omega
 ·exact Nat.le_refl _
theorem unM_snoc (S:List SC) (l:List Int) (v:Int):unM S (l++[v])=unM S l+unW S v:=by simp [unM]
theorem made_parts {g:GD} {R:List Int} {S:List SC} (h:madeR g R S=(0,true)):rightG g=0∧(R.length:Int)=g.n∧rankB R=true∧∀j,j<S.length→madeB g.es R S j=true:=by
 unfold madeR at h
 by_cases h1:rightG g≠0
 ·rw [if_pos h1] at h;simp at h
 ·rw [if_neg h1] at h
  by_cases h2:(R.length:Int)≠g.n∨rankB R=false
  ·rw [if_pos h2] at h;simp at h
  ·rw [if_neg h2] at h
   have h2':(R.length:Int)=g.n∧rankB R=true:=by
    refine ⟨Classical.byContradiction fun k=>h2 (.inl k),?_⟩
    cases hr:rankB R with
    |true=>rfl
    |false=>exact absurd (.inr hr) h2
   refine ⟨Classical.byContradiction fun k=>h1 k,h2'.1,h2'.2,?_⟩
   cases hb:firstBad g.es R S with
   |some i=>rw [hb] at h;simp at h
   |none=>
    intro j hj
    unfold firstBad at hb
    rw [List.find?_eq_none] at hb
    have:=hb j (List.mem_range.2 hj)
    simpa using this
theorem edgeF_e {es:List EdgeD} {x:SC} (h:edgeF es x=true):0≤x.e∧∃y,es[x.e.toNat]? =some y∧y.f=x.f∧y.t=x.t∧y.w=x.w:=by
 unfold edgeF at h
 simp only [Bool.and_eq_true] at h
 obtain ⟨⟨⟨h1,_⟩,_⟩,h2⟩:=h
 unfold edgeB at h1
 simp only [Bool.and_eq_true,decide_eq_true_eq] at h1
 refine ⟨h1.1,?_⟩
 cases he:es[x.e.toNat]? with
 |none=>rw [he] at h2;simp at h2
 |some y=>
  rw [he] at h2
  simp only [Bool.and_eq_true,beq_iff_eq] at h2
  exact ⟨y,rfl,h2.1.1,h2.1.2,h2.2⟩
theorem twoF_e {R:List Int} {S:List SC} {i:Nat} {x:SC} (h:twoF R S i x=true):x.e= -1∧∃a b:Nat,x.a=(a:Int)∧x.b=(b:Int)∧a<i∧b<i∧(S.getD a scZ).f=x.f∧(S.getD a scZ).t=(S.getD b scZ).f∧(S.getD b scZ).t=x.t∧wrapU ((S.getD a scZ).w+(S.getD b scZ).w)=x.w∧
  rAt R (S.getD a scZ).t<rAt R x.f∧rAt R (S.getD a scZ).t<rAt R x.t:=by
 unfold twoF pairF meetF at h
 simp only [Bool.and_eq_true,decide_eq_true_eq,beq_iff_eq] at h
 obtain ⟨⟨⟨⟨h1,h2⟩,h3⟩,_⟩,⟨⟨⟨h4,h5⟩,h6⟩,h7⟩,h8⟩:=h
 have ea:scAt S x.a=S.getD x.a.toNat scZ:=rfl
 have eb:scAt S x.b=S.getD x.b.toNat scZ:=rfl
 rw [ea] at h4 h5 h7 h8
 rw [eb] at h5 h6 h7
 exact ⟨h1,x.a.toNat,x.b.toNat,by omega,by omega,by omega,by omega,h4,h5,h6,h7,by omega,by omega⟩
theorem made_fed {es:List EdgeD} {R:List Int} {S:List SC} (h:∀j,j<S.length→madeB es R S j=true):FedS S:=by
 intro i hi
 have:=h i hi
 unfold madeB at this
 rw [Bool.or_eq_true] at this
 rcases this with h1|h1
 ·exact .inl (edgeF_e h1).1
 ·obtain ⟨e,a,b,ea,eb,ha,hb,_⟩:=twoF_e h1
  exact .inr ⟨by omega,a,b,ea,eb,ha,hb⟩
theorem made_len {es:List EdgeD} {R:List Int} {S:List SC} (h:∀j,j<S.length→madeB es R S j=true) (hR:∀v,0≤rAt R v):∀i,i<S.length→∀r:Nat,rAt R (S.getD i scZ).f≤(r:Int)∨rAt R (S.getD i scZ).t≤(r:Int)→(unL S i).length≤2 ^ r:=by
 have hF:=made_fed h
 intro i
 induction i using Nat.strongRecOn with
 |ind i ih=>
  intro hi r hr
  have hm:=h i hi
  unfold madeB at hm
  rw [Bool.or_eq_true] at hm
  rcases hm with h1|h1
  ·rw [unL_edge (edgeF_e h1).1]
   exact Nat.one_le_two_pow
  ·obtain ⟨e,a,b,ea,eb,ha,hb,h2,h3,h4,_,h5,h6⟩:=twoF_e h1
   rw [unL_two hF hi (by omega) ea eb ha hb,List.length_append]
   have h0:=hR (S.getD a scZ).t
   obtain ⟨r',rfl⟩:∃r',r=r'+1:=⟨r-1,by omega⟩
   have hra:rAt R (S.getD a scZ).t≤(r':Int):=by omega
   have:=ih a ha (by omega) r' (.inr hra)
   have:=ih b hb (by omega) r' (.inl (by rw [←h3];exact hra))
   rw [Nat.pow_succ]
   omega
end Go.Proofs.YtkdomobedfhhgaaGreat
end
section
namespace Go.Proofs.YtkdomobedfhhgaaGreat
open Go Go.Proofs Go.RowKit Go.Shelf Go.Proofs.YtkdomobedfhhgaaGreat.Hp Go.Proofs.YtkdomobedfhhgaaGreat.Ch
theorem hasI_any (ao:Option Addr) (cap:Nat) (l:List Int) (x:Int) (w:World) (hl:l.length≤9223372036854775807) (hc:Cel w ao (l.map encI)):
  Calls Tryz.prog 27 #[.slice ao l.length cap,.int .i64 x] w fun e w'=>e=.returned (.bool (decide (x∈l)))∧w=w':=by
 have HC:=Lib.hid hc
 clear hc
 have HT:=Lib.hid (fun k (h:k<l.length) (e:l[k]=x)=>(decide_eq_true (e▸List.getElem_mem h):decide (x∈l)=true))
 have HF:=Lib.hid (fun (h:∀j (hj:j<l.length),l[j]≠x)=>(decide_eq_false (fun hm=>by obtain ⟨j,hj,e⟩:=List.getElem_of_mem hm;exact h j hj e):decide (x∈l)=false))
 generalize decide (x∈l)=r at*
 go_enter Tryz.func27,Tryz.ntmps27
 go_wp2
 go_loopg [5] l.length (fun g i wr=>∃k:Nat,k≤l.length∧l.length-k≤g∧i=.int .i64 k∧wr=w∧Aside (∀j (hj:j<l.length),j<k→l[j]≠x))
 case atStart=>exact ⟨0,Nat.zero_le _,by omega,rfl,rfl,fun j _ h=>absurd h (Nat.not_lt_zero _)⟩
 case round=>
  obtain ⟨k,hk,hg,rfl,rfl,HA⟩:=hrel
  by_cases hlt:k<l.length
  ·have hlt3:(k:Int)<(l.length:Int):=by omega
   have hk0:(0:Int)≤(k:Int):=by omega
   obtain ⟨b,o,hao,hcell⟩:=HC.out.at hlt
   subst hao
   have H1:=Lib.hid (HT.out k hlt)
   have H2:=Lib.hid (fun h:l[k]≠x=>(fun j (h1:j<l.length) (h2:j<k+1)=>(by
    by_cases e:j=k
    ·subst e;exact h
    ·exact HA.out j h1 (by omega):l[j]≠x)))
   generalize l[k]=y at*
   by_cases e:y=x
   ·have he:(y==x)=true:=by simp [e]
    have HR:=Lib.hid (H1.out e)
    clear e
    go_wp2
    go_ret
    exact ⟨by rw [HR.out];rfl,rfl⟩
   ·have he:(y==x)=false:=by simp [e]
    have HR:=Lib.hid (H2.out e)
    clear e
    go_wp2
    go_roundg (l.length-(k+1))
    case measure=>omega
    case rel=>exact ⟨k+1,by omega,by omega,by go_num,rfl,HR.out⟩
  ·obtain rfl:k=l.length:=by omega
   have HR:=Lib.hid (HF.out fun j hj=>HA.out j hj hj)
   go_wp2
   go_ret
   exact ⟨by rw [HR.out];rfl,rfl⟩
set_option maxHeartbeats 1000000 in
theorem refRkR_any (l:List Int) (ao:Option Addr) (cap:Nat) (w:World) (hl:l.length≤1000000) (hc:Cel w ao (l.map encI)):
  Calls Tryz.prog 98 #[.slice ao l.length cap] w fun e w'=>e=.returned (.bool (rankB l))∧w=w':=by
 have HH:=Lib.hid (fun k=>hasI_any ao cap l (k:Int) w (by omega) hc)
 have HF:=Lib.hid (show ∀k,k<l.length→¬(k:Int)∈l→rankB l=false by
  intro k hk h
  cases e:rankB l with
  |false=>rfl
  |true=>exact absurd (rankB_sub e _ (mem_rngI.2 ⟨by omega,by omega⟩)) h)
 have HT:=Lib.hid (show (∀j,j<l.length→(j:Int)∈l)→rankB l=true from fun h=>rankB_true fun x hx=>by
  obtain ⟨h0,h1⟩:=mem_rngI.1 hx
  have:=h x.toNat (by omega)
  rwa [Int.toNat_of_nonneg h0] at this)
 clear hc
 generalize rankB l=r at*
 go_enter Tryz.func98,Tryz.ntmps98
 go_wp2
 go_loopg [3] l.length (fun gg i wr=>∃k:Nat,k≤l.length∧l.length-k≤gg∧i=.int .i64 k∧wr=w∧Aside (∀j,j<k→(j:Int)∈l))
 case atStart=>exact ⟨0,Nat.zero_le _,by omega,rfl,rfl,fun j h=>absurd h (Nat.not_lt_zero _)⟩
 case round=>
  obtain ⟨k,hk,hg,rfl,rfl,HA⟩:=hrel
  by_cases hlt:k<l.length
  ·have HX:=Lib.hid (HH.out k)
   have hlt3:(k:Int)<(l.length:Int):=by omega
   by_cases hm:(k:Int)∈l
   ·rw [decide_eq_true hm] at HX
    have HA2:=Lib.hid (show ∀j,j<k+1→(j:Int)∈l by
     intro j hj
     by_cases e:j=k
     ·subst e;exact hm
     ·exact HA.out j (by omega))
    clear hm
    go_wp2_with (go_at_call 27;refine HX.out.mono ?_;rintro e w1 ⟨rfl,rfl⟩)
    go_roundg (l.length-(k+1))
    case measure=>omega
    case rel=>exact ⟨k+1,by omega,by omega,by go_num,rfl,HA2.out⟩
   ·rw [decide_eq_false hm] at HX
    have HR:=Lib.hid (HF.out k hlt hm)
    clear hm
    go_wp2_with (go_at_call 27;refine HX.out.mono ?_;rintro e w1 ⟨rfl,rfl⟩)
    go_ret
    exact ⟨by rw [HR.out];rfl,rfl⟩
  ·obtain rfl:k=l.length:=by omega
   have HR:=Lib.hid (HT.out HA.out)
   go_wp2
   go_ret
   exact ⟨by rw [HR.out];rfl,rfl⟩
set_option maxRecDepth 100000 in
set_option maxHeartbeats 4000000 in
theorem refEdge_any (n:Int) (es:List EdgeD) (ao:Option Addr) (cap:Nat) (x:SC) (w:World) (hc:Cel w ao (flat es)) (hel:es.length≤1000000):
  Calls Tryz.prog 137 #[gV n ao es.length cap,scV x] w fun e w'=>e=.returned (.bool (edgeF es x))∧Below w.heap.size w w':=by
 obtain ⟨W,hW⟩:∃W,W=(w.alloc (Obj.cells #[.int .i64 n,.slice ao es.length cap] 24)).alloc (Obj.cells #[.int .i64 x.f,.int .i64 x.t,.int .u64 x.w,.int .i64 x.e,.int .i64 x.a,.int .i64 x.b] 79):=⟨_,rfl⟩
 have hbw:Below w.heap.size w W:=by rw [hW];exact (Below.of_al _ _).al _
 have c1:W.cell? ⟨w.heap.size,1,none⟩=some (.slice ao es.length cap):=by rw [hW];go_simp
 have x0:W.cell? ⟨w.heap.size+1,0,none⟩=some (.int .i64 x.f):=by rw [hW];go_simp
 have x1:W.cell? ⟨w.heap.size+1,1,none⟩=some (.int .i64 x.t):=by rw [hW];go_simp
 have x2:W.cell? ⟨w.heap.size+1,2,none⟩=some (.int .u64 x.w):=by rw [hW];go_simp
 have x3:W.cell? ⟨w.heap.size+1,3,none⟩=some (.int .i64 x.e):=by rw [hW];go_simp
 have x4:W.cell? ⟨w.heap.size+1,4,none⟩=some (.int .i64 x.a):=by rw [hW];go_simp
 have x5:W.cell? ⟨w.heap.size+1,5,none⟩=some (.int .i64 x.b):=by rw [hW];go_simp
 have HW:=Lib.hid hW
 have HB:=Lib.hid hbw
 have HC:=Lib.hid (hc.go hbw)
 clear hW hbw hc
 by_cases h0:x.e<0
 ·have HF:=Lib.hid (show edgeF es x=false by unfold edgeF edgeB;rw [decide_eq_false (by omega)];rfl)
  go_enter Tryz.func137,Tryz.ntmps137
  go_upto_region 1 with (fail)
  rw [←HW.out]
  go_wp2
  go_ret
  exact ⟨by rw [HF.out];rfl,HB.out⟩
 ·by_cases h1:(es.length:Int)≤x.e
  ·have HF:=Lib.hid (show edgeF es x=false by unfold edgeF edgeB;rw [decide_eq_false (show ¬x.e<(es.length:Int) by omega),Bool.and_false];rfl)
   go_enter Tryz.func137,Tryz.ntmps137
   go_upto_region 1 with (fail)
   rw [←HW.out]
   go_wp2
   go_ret
   exact ⟨by rw [HF.out];rfl,HB.out⟩
  ·have hE:edgeB es.length x.e=true:=by unfold edgeB;rw [decide_eq_true (by omega),decide_eq_true (by omega)];rfl
   cases hA:(x.a== -1) with
   |false=>
    have HF:=Lib.hid (show edgeF es x=false by unfold edgeF;rw [hE,hA];rfl)
    have hA2:(x.a != -1)=true:=by simp [bne,hA]
    clear hE
    go_enter Tryz.func137,Tryz.ntmps137
    go_upto_region 1 with (fail)
    rw [←HW.out]
    go_wp2
    go_ret
    exact ⟨by rw [HF.out];rfl,HB.out⟩
   |true=>
    have hA2:(x.a != -1)=false:=by simp [bne,hA]
    cases hBb:(x.b== -1) with
    |false=>
     have HF:=Lib.hid (show edgeF es x=false by unfold edgeF;rw [hE,hA,hBb];rfl)
     have hB2:(x.b != -1)=true:=by simp [bne,hBb]
     clear hE
     go_enter Tryz.func137,Tryz.ntmps137
     go_upto_region 1 with (fail)
     rw [←HW.out]
     go_wp2
     go_ret
     exact ⟨by rw [HF.out];rfl,HB.out⟩
    |true=>
     have hB2:(x.b != -1)=false:=by simp [bne,hBb]
     obtain ⟨k,hk⟩:∃k:Nat,x.e=(k:Int):=⟨x.e.toNat,by omega⟩
     have hkl:k<es.length:=by omega
     have HF:=Lib.hid (show edgeF es x=((es[k].f==x.f)&&(es[k].t==x.t)&&(es[k].w==x.w)) by
      unfold edgeF
      rw [hE,hA,hBb,hk,Int.toNat_natCast,List.getElem?_eq_getElem hkl]
      simp)
     obtain ⟨eb,eo,rfl,e0,e1,e2⟩:=HC.out.edge hkl
     rw [hk] at x3
     have HK:=Lib.hid hk
     have hk0:(0:Int)≤(k:Int):=by omega
     have hk1:(k:Int)<(es.length:Int):=by omega
     generalize es[k]=y at*
     clear hE hk HC h0 h1
     go_enter Tryz.func137,Tryz.ntmps137
     go_upto_region 1 with (fail)
     rw [←HW.out]
     go_upto_region 4 with (fail)
     obtain ⟨W4,hW4⟩:∃W4,W4=W.alloc (Obj.cells #[.int .i64 y.f,.int .i64 y.t,.int .u64 y.w] 119):=⟨_,rfl⟩
     rw [←hW4]
     have hb4:Below W.heap.size W W4:=by rw [hW4];exact Below.of_al _ _
     have v0:W4.cell? ⟨W.heap.size,0,none⟩=some (.int .i64 y.f):=by rw [hW4];go_simp
     have v1:W4.cell? ⟨W.heap.size,1,none⟩=some (.int .i64 y.t):=by rw [hW4];go_simp
     have v2:W4.cell? ⟨W.heap.size,2,none⟩=some (.int .u64 y.w):=by rw [hW4];go_simp
     have z0:=cell_later hb4 x0
     have z1:=cell_later hb4 x1
     have z2:=cell_later hb4 x2
     clear hW4
     by_cases q1:y.f=x.f<;>by_cases q2:y.t=x.t<;>by_cases q3:y.w=x.w
     all_goals
      go_wp2
      go_ret
      exact ⟨by rw [HF.out];simp [q1,q2,q3],HB.out.st hb4⟩
end Go.Proofs.YtkdomobedfhhgaaGreat
end
