/- Parts; no condition. -/
import Derived.Test.YteaaapdjplbljaaGreatVa44
set_option linter.unusedVariables false
set_option linter.unusedSimpArgs false
set_option linter.unnecessarySimpa false
set_option maxRecDepth 100000
set_option maxHeartbeats 8000000
namespace Go.Proofs.YteaaapdjplbljaaGreat
section
open Go Go.Proofs Go.RowKit Go.Shelf Hp Ch
def Ja (x:LB):Value:=.agg #[.int .i64 x.v,.int .u64 x.d,.int .i64 x.b]
theorem Lj (g:Nat) (cb:Array Value) (p:LB->Bool) (ao:Option Addr) (cap:Nat) (l:List LB) (w:World) (hen:Enters Tryz.prog g)
  (hp:Mb Tryz.prog g cb Ja p l w) (hl:l.length<=9223372036854775807) (hc:Cel w ao (Ao l)):
  Calls Tryz.prog 200 #[.slice ao l.length cap,.func (.func g) #[] cb] w fun e w'=>e=.returned (.int .i64 (Fr p l))/\Below w.heap.size w w':=by
 have HP:=Bj3 hp;have HC:=Bj3 hc;clear hp hc;unfold Enters at hen
 go_enter Tryz.func200,Tryz.ntmps200
 go_wp2
 go_loopg [8] l.length (fun g i wr=>∃k:Nat,k<=l.length/\l.length-k<=g/\i=.int .i64 k/\Aside (Below w.heap.size w wr)/\Aside (∀j (h:j<l.length),j<k->p l[j]=false))
 case atStart=>exact ⟨0,Bj6 _,by omega,rfl,Below.refl _ _,fun j _ h=>absurd h (Nat.not_lt_zero _)⟩
 case round=>
  obtain ⟨k,hk,hg,rfl,HB,HA⟩:=hrel
  by_cases hlt:k<l.length
  ·obtain ⟨b,o,hao,hc1,hc2,hc3⟩:=(HC.out.below HB.out (Bj5 _)).lab hlt
   have HQ:=Bj3 (HP.out wr l[k] HB.out (Bk5 hlt));have HN:=Bj3 (fun h:p l[k]=true=>Ju p l k hlt h (fun j h1 h2=>HA.out j h1 h2));have HM:=Bj3 (fun h:p l[k]=false=>(fun j (h1:j<l.length) (h2:j<k+1)=>(by
    by_cases e:j=k
    ·subst e;exact h
    ·exact HA.out j h1 (by omega):p l[j]=false)))
   generalize hx:l[k]=x at*;clear hx;subst hao
   cases hq:p x with
   |true=>
    have HN2:=Bj3 (HN.out hq);have HQ2:=Bj3 (hq▸HQ.out);clear hq
    go_wp2_with (go_at_fn g;refine HQ2.out.mono ?_;rintro e w1 ⟨rfl,hb1⟩)
    go_ret
    exact ⟨by rw [HN2.out];rfl,HB.out.trans (hb1.mono (by have:=HB.out.size;omega))⟩
   |false=>
    have HN2:=Bj3 (HM.out hq);have HQ2:=Bj3 (hq▸HQ.out);clear hq
    go_wp2_with (go_at_fn g;refine HQ2.out.mono ?_;rintro e w1 ⟨rfl,hb1⟩)
    go_roundg (l.length-(k+1))
    case measure=>omega
    case rel=>exact ⟨k+1,by omega,by omega,by go_num,HB.out.trans (hb1.mono (by have:=HB.out.size;omega)),HN2.out⟩
  ·obtain rfl:k=l.length:=by omega
   have HN:=Bj3 (Hj p l (fun j h=>HA.out j h h))
   go_wp2
   go_ret
   exact ⟨by rw [HN.out];rfl,HB.out⟩
theorem Ao4 (x:LB) (v:Int) (b:Nat) (w:World) (hx:w.cell? ⟨b,0,none⟩=some (.int .i64 v)):
  Calls Tryz.prog 252 (#[Ja x]++#[.pointer (some ⟨b,0,none⟩)]) w fun e w'=>e=.returned (.bool (decide (x.v=v)))/\Below w.heap.size w w':=by
 have f:=fun o=>Bj4 (Below.of_al w o) hx;have he:(x.v==v)=decide (x.v=v):=by rw [Bool.eq_iff_iff,beq_iff_eq,decide_eq_true_eq]
 unfold Ja
 go_enter Tryz.func252,Tryz.ntmps252
 go_wp2
 go_ret
 exact ⟨by rw [<-he];rfl,Below.of_al _ _⟩
theorem Aw1 (l:List LB) (v:Int):(Fr (fun a=>decide (a.v=v)) l<0/\Iq l v=false)\/∃i:Nat,∃h:i<l.length,Fr (fun a=>decide (a.v=v)) l=(i:Int)/\Iq l v=true/\l[i]=Hi l v:=by
 unfold Iq Hi
 induction l with
 |nil=>exact .inl ⟨by simp [Fr],rfl⟩
 |cons x l ih=>
  unfold Fr
  by_cases h:x.v=v
  ·refine .inr ⟨0,by simp,?_,?_,?_⟩
   ·simp [h]
   ·simp [h]
   ·simp [h]
  ·rcases ih with ⟨i1,i2⟩|⟨i,hi,i1,i2,i3⟩
   ·refine .inl ⟨?_,?_⟩
    ·simp [h,i1]
    ·simp [h]
     simpa using i2
   ·refine .inr ⟨i+1,by simp;omega,?_,?_,?_⟩
    ·simp [h,i1]
     omega
    ·simp [h]
     simpa using i2
    ·simp [h]
     exact i3
theorem Aj3 {W:World} {b:Nat} {a0 a1 a2:Value} (x y z:Value) (h0:W.cell? ⟨b,0,none⟩=some a0) (h1:W.cell? ⟨b,1,none⟩=some a1) (h2:W.cell? ⟨b,2,none⟩=some a2):
  (((W.setCell ⟨b,0,none⟩ x).setCell ⟨b,1,none⟩ y).setCell ⟨b,2,none⟩ z).cell? ⟨b,0,none⟩=some x/\(((W.setCell ⟨b,0,none⟩ x).setCell ⟨b,1,none⟩ y).setCell ⟨b,2,none⟩ z).cell? ⟨b,1,none⟩=some y/\(((W.setCell ⟨b,0,none⟩ x).setCell ⟨b,1,none⟩ y).setCell ⟨b,2,none⟩ z).cell? ⟨b,2,none⟩=some z:=by
 obtain ⟨r0,r1⟩:=Cc x y h0 h1;refine ⟨?_,?_,?_⟩
 ·rw [Bk1 _ _ _ _ (by simp)];exact r0
 ·rw [Bk1 _ _ _ _ (by simp)];exact r1
 ·refine Bk2 (u:=a2) _ _ _ ?_
  rw [Bk1 _ _ _ _ (by simp),Bk1 _ _ _ _ (by simp)];exact h2
theorem Su {B b:Nat} {w W:World} (x y z:Value) (h:Below B w W) (hb:B<=b):Below B w (((W.setCell ⟨b,0,none⟩ x).setCell ⟨b,1,none⟩ y).setCell ⟨b,2,none⟩ z):=((h.setCell hb _).setCell hb _).setCell hb _
theorem Ad1 {l:List LB} {u:Int} (h:Iq l u=false):Hi l u=⟨0,0,0⟩:=by
 unfold Hi;have:l.find? (fun a=>decide (a.v=u))=none:=by
  rw [List.find?_eq_none];intro x hx k;unfold Iq at h;rw [List.any_eq_false] at h;exact h x hx k
 rw [this];rfl
theorem Zi (l:List LB) (ao:Option Addr) (cap:Nat) (v:Int) (w:World) (hc:Cel w ao (Ao l)) (hl:l.length<=1000000):
  Calls Tryz.prog 204 #[.slice ao l.length cap,.int .i64 v] w fun e w'=>e=.returned (.tuple #[Ja (Hi l v),.bool (Iq l v)])/\Below w.heap.size w w':=by
 obtain ⟨W,hW⟩:∃W,W=(w.alloc (Obj.cells #[.int .i64 v] 3)).alloc (Obj.cells #[.int .i64 0,.int .u64 0,.int .i64 0] 150):=⟨_,rfl⟩;have hbw:Below w.heap.size w W:=by rw [hW];exact (Below.of_al _ _).al _
 have hsz:W.heap.size=w.heap.size+2:=by rw [hW];simp
 have c0:W.cell? ⟨w.heap.size,0,none⟩=some (.int .i64 v):=by rw [hW];go_simp
 have q0:W.cell? ⟨w.heap.size+1,0,none⟩=some (.int .i64 0):=by rw [hW];go_simp
 have q1:W.cell? ⟨w.heap.size+1,1,none⟩=some (.int .u64 0):=by rw [hW];go_simp
 have q2:W.cell? ⟨w.heap.size+1,2,none⟩=some (.int .i64 0):=by rw [hW];go_simp
 have z0:W.frozen? ⟨w.heap.size+1,0,none⟩=false:=by rw [hW];go_simp
 have z1:W.frozen? ⟨w.heap.size+1,1,none⟩=false:=by rw [hW];go_simp
 have z2:W.frozen? ⟨w.heap.size+1,2,none⟩=false:=by rw [hW];go_simp
 have HI:=Bj3 (Lj 252 #[.pointer (some ⟨w.heap.size,0,none⟩)] (fun a=>decide (a.v=v)) ao cap l W (enters_of Tryz.func252 (by kernel_rfl) rfl) (fun W' x hb hx=>Ao4 x v w.heap.size W' (Bj4 hb c0)) (by omega) (hc.go hbw));have HC:=Bj3 (hc.go hbw);have HB:=Bj3 hbw;have HSZ:=Bj3 hsz;have HW:=Bj3 hW;have hl2:(l.length:Int)<=1000000:=by omega
 clear hW hbw hc hsz c0
 rcases Aw1 l v with ⟨h1,h2⟩|⟨i,hi,h1,h2,h3⟩
 ·have HL:=Bj3 (Ad1 h2)
  have HL2:=Bj3 h2;generalize Fr (fun a:LB=>decide (a.v=v)) l=r at*;clear h2
  go_enter Tryz.func204,Tryz.ntmps204
  go_upto_region 1 with (fail)
  rw [<-HW.out]
  go_upto_region 2 with (go_at_call 200;refine HI.out.mono ?_;rintro e w1 ⟨rfl,hb1⟩;(have HB1:=Bj3 hb1);(have p0:=Bj4 hb1 q0);(have p1:=Bj4 hb1 q1);(have p2:=Bj4 hb1 q2);(have y0:=(hb1.frozen (p:=⟨w.heap.size+1,0,none⟩) (by show w.heap.size+1<_;rw [HSZ.out];omega)).trans z0);(have y1:=(hb1.frozen (p:=⟨w.heap.size+1,1,none⟩) (by show w.heap.size+1<_;rw [HSZ.out];omega)).trans z1);(have y2:=(hb1.frozen (p:=⟨w.heap.size+1,2,none⟩) (by show w.heap.size+1<_;rw [HSZ.out];omega)).trans z2);clear hb1)
  clear q0 q1 q2 z0 z1 z2
  go_wp2
  obtain ⟨r0,r1,r2⟩:=Aj3 (.int .i64 0) (.int .u64 0) (.int .i64 0) p0 p1 p2;refine bodyPost_ret (v:=.tuple #[Ja ⟨0,0,0⟩,.bool false]) (by simp [results,Tryz.results204,go_sem,r0,r1,r2,Ja];try rfl) rfl ?_;exact ⟨by rw [HL.out,HL2.out],Su _ _ _ (HB.out.st HB1.out) (Nat.le_succ _)⟩
 ·have HL:=Bj3 h3
  have HL2:=Bj3 h2;have hr0:¬Fr (fun a:LB=>decide (a.v=v)) l<0:=by omega
  rw [h1] at HI;obtain ⟨lb,lo,rfl,x0,x1,x2⟩:=HC.out.lab hi;have hi0:(0:Int)<=(i:Int):=by omega
  have hi1:(i:Int)<(l.length:Int):=by omega
  generalize l[i]=a at*;obtain ⟨av,ad,ab⟩:=a;simp only at x0 x1 x2;clear h1 h2 h3 hr0
  go_enter Tryz.func204,Tryz.ntmps204
  go_upto_region 1 with (fail)
  rw [<-HW.out]
  go_upto_region 2 with (go_at_call 200;refine HI.out.mono ?_;rintro e w1 ⟨rfl,hb1⟩;(have HB1:=Bj3 hb1);(have p0:=Bj4 hb1 q0);(have p1:=Bj4 hb1 q1);(have p2:=Bj4 hb1 q2);(have v0:=Bj4 hb1 x0);(have v1:=Bj4 hb1 x1);(have v2:=Bj4 hb1 x2);(have y0:=(hb1.frozen (p:=⟨w.heap.size+1,0,none⟩) (by show w.heap.size+1<_;rw [HSZ.out];omega)).trans z0);(have y1:=(hb1.frozen (p:=⟨w.heap.size+1,1,none⟩) (by show w.heap.size+1<_;rw [HSZ.out];omega)).trans z1);(have y2:=(hb1.frozen (p:=⟨w.heap.size+1,2,none⟩) (by show w.heap.size+1<_;rw [HSZ.out];omega)).trans z2);clear hb1)
  clear q0 q1 q2 z0 z1 z2 x0 x1 x2
  go_wp2
  obtain ⟨r0,r1,r2⟩:=Aj3 (.int .i64 av) (.int .u64 ad) (.int .i64 ab) p0 p1 p2;refine bodyPost_ret (v:=.tuple #[Ja ⟨av,ad,ab⟩,.bool true]) (by simp [results,Tryz.results204,go_sem,r0,r1,r2,Ja];try rfl) rfl ?_;exact ⟨by rw [<-HL.out,HL2.out],Su _ _ _ (HB.out.st HB1.out) (Nat.le_succ _)⟩
structure DlI (p:LB->Bool) (l cur:List LB) (i j:Nat):Prop where
 le:i<=j
 jn:j<=l.length
 len:cur.length=l.length
 hd:cur.take i=(l.take j).filter (fun a=>!p a)
 tl:∀k,j<=k->cur[k]? =l[k]?
theorem DlI.drop {p:LB->Bool} {l cur:List LB} {i j:Nat} (h:DlI p l cur i j) (hj:j<l.length) (hp:p l[j]=true):DlI p l cur i (j+1):=
 ⟨by have:=h.le;omega,hj,h.len,by rw [h.hd,Bl1 hj,List.filter_append];simp [hp],fun k hk=>h.tl k (by omega)⟩
theorem DlI.keep {p:LB->Bool} {l cur:List LB} {i j:Nat} (h:DlI p l cur i j) (hj:j<l.length) (hp:p l[j]=false):DlI p l (cur.set i l[j]) (i+1) (j+1):=by
 have hle:=h.le;have hlen:=h.len;refine ⟨by omega,hj,by rw [Bk4];exact hlen,?_,fun k hk=>by rw [Bo1 (by omega)];exact h.tl k (by omega)⟩;rw [Bl1 (by rw [Bk4];omega),Bl1 hj,List.filter_append,<-h.hd];rw [List.getElem_set_self]
 congr 1
 ·rw [List.take_set_of_le (Bj5 _)]
 ·simp [hp]
theorem DlI.begin {p:LB->Bool} {l:List LB} {i:Nat} (hi:i<l.length) (hp:p l[i]=true) (hb:∀k (h:k<i),p (l[k]'(by omega))=false):DlI p l l i (i+1):=by
 refine ⟨by omega,hi,rfl,?_,fun _ _=>rfl⟩;rw [Bl1 hi,List.filter_append];have:(l.take i).filter (fun a=>!p a)=l.take i:=by
  rw [List.filter_eq_self];intro a ha;obtain ⟨k,hk,rfl⟩:=Bn7.1 ha;rw [List.getElem_take,hb k (by simp at hk;omega)];rfl
 rw [this];simp [hp]
theorem DlI.done {p:LB->Bool} {l cur:List LB} {i:Nat} (h:DlI p l cur i l.length):cur.take i=l.filter (fun a=>!p a):=by rw [h.hd,Bn9]
theorem Ab3 {P:Program} (w:World) (t e:TypeId) (z:Value) (ht:P.underlying t=some (.slice e)) (hv:∀w,(zeroValue e).run P w=.ok z w) (h2:z.cells.size=3) (h1:∀u∈z.cells.toList,u.oneCell'=true) (b o n c:Nat) (hn:0<n)
  (hc:∀j,j<n*3->(w.cell? ⟨b,o+j,none⟩).isSome=true) (hf:∀j,j<n*3->w.frozen? ⟨b,o+j,none⟩=false):
  ∃vs,vs.length=n*3/\∀ty,(Builtin.clear_ #[t] ty #[.slice (some ⟨b,o,none⟩) n c]).run P w=.ok (.tuple #[]) (w.setCells b o vs):=by
 have hzl:((Builtin.zeroCells z.cells n).toList).length=n*3:=by simp [Builtin.zeroCells,h2,Nat.mul_comm]
 have hst:=run_storeCells_cells (P:=P) b o (Builtin.zeroCells z.cells n).toList 0 w (by simpa [hzl] using hc) (by simpa [hzl] using hf) (by
  intro v hv'
  apply h1
  simp [Builtin.zeroCells] at hv';obtain ⟨k,hk,rfl⟩:=hv';rw [Array.getElem!_eq_getD];simp [Array.getD,h2,Nat.mod_lt])
 simp only [Nat.add_zero] at hst;obtain ⟨m,rfl⟩:∃m,n=m+1:=⟨n-1,by omega⟩;refine ⟨_,hzl,fun ty=>?_⟩;simp [Builtin.clear_,run_underlying ht,hv,hst]
theorem Sg:∀(l:List LB) (i:Nat),(Ao l).take (i*3)=Ao (l.take i)
 |[],i=>by simp [Ao]
 |x::l,0=>by simp [Ao]
 |x::l,i+1=>by
  rw [show (i+1)*3=i*3+1+1+1 by omega,Ao,List.take_succ_cons,List.take_succ_cons,List.take_succ_cons,Sg l i];rfl
theorem Vb:∀(l:List LB) (i:Nat) (q:LB),(((Ao l).set (i*3) (.int .i64 q.v)).set (i*3+1) (.int .u64 q.d)).set (i*3+2) (.int .i64 q.b)=Ao (l.set i q)
 |[],i,q=>by simp [Ao]
 |x::l,0,q=>rfl
 |x::l,i+1,q=>by
  rw [show (i+1)*3=i*3+1+1+1 by omega,Bl7]
  show _=_::_::_::Ao (l.set i q)
  rw [<-Vb l i q];rfl
theorem Aw3 (a b c:Int):∀u∈((Value.agg #[.int .i64 a,.int .u64 b,.int .i64 c]).cells).toList,u.oneCell'=true:=by
 intro u hu;have h:((Value.agg #[.int .i64 a,.int .u64 b,.int .i64 c]).cells).toList=[Value.int .i64 a,.int .u64 b,.int .i64 c]:=rfl;rw [h] at hu;simp only [Bm5,List.not_mem_nil,or_false] at hu
 rcases hu with rfl|rfl|rfl<;>rfl
def Tf (base:Nat) (p:LB->Bool) (l:List LB) (ao:Option Addr) (cap:Nat) (w:World) (e:Ending) (w':World):Prop:=
 e=.returned (.slice ao (l.filter (fun a=>!p a)).length cap)/\w'.ownsRow base 150 3 (.slice ao (l.filter (fun a=>!p a)).length cap) (l.filter (fun a=>!p a)).length (Ao (l.filter (fun a=>!p a)))/\
  OffX (fun k=>(Value.slice ao l.length cap).ownBlock=some k) w w'
theorem Ar5 (w:World):(zeroValue 150).run Tryz.prog w=.ok (.agg #[.int .i64 0,.int .u64 0,.int .i64 0]) w:=by kernel_rfl
theorem Ae5 (base:Nat) (cb:Array Value) (p:LB->Bool) (l:List LB) (ao:Option Addr) (cap:Nat) (w:World) (h:w.ownsRow base 150 3 (.slice ao l.length cap) l.length (Ao l))
  (hp1:∀(W:World) (x:LB),OffX (fun k=>(Value.slice ao l.length cap).ownBlock=some k) w W->x∈l->Calls Tryz.prog 146 (#[Ja x]++cb) W fun e w'=>e=.returned (.bool (p x))/\Below W.heap.size W w') (hl:l.length<=1000000):
  Calls Tryz.prog 145 #[.slice ao l.length cap,.func (.func 146) #[] cb] w (Tf base p l ao cap w):=by
 obtain ⟨ao',c',e,hc⟩:=Cel.of_owns h
 cases e
 have HI:=Bj3 (Lj 146 cb p ao cap l w (enters_of Tryz.func146 (by kernel_rfl) rfl) (fun W x hb hx=>hp1 W x (.of_below hb) hx) (by omega) hc);have HP1:=Bj3 hp1;have HO:=Bj3 h;have hl2:(l.length:Int)<=1000000:=by omega
 unfold Tf
 by_cases hex:∃i,∃hi:i<l.length,p l[i]=true/\∀k (h:k<i),p (l[k]'(by omega))=false
 ·obtain ⟨i,hi,hp,hb⟩:=hex
  obtain ⟨g,cg,e⟩:=Ap h (by omega)
  cases e
  rw [Ju p l i hi hp (fun j h h2=>hb j h2)] at HI;have HD:=Bj3 (DlI.begin hi hp hb);clear hp hb hc h hp1;have hi1:((i:Int)== -1)=false:=by rw [beq_eq_false_iff_ne];omega
  have hi2:(i:Int)<(l.length:Int):=by omega
  go_enter Tryz.func145,Tryz.ntmps145
  go_wp2_with (go_at_call 200;refine HI.out.mono ?_;rintro e w1 ⟨rfl,hb1⟩;(have HB1:=Bj3 hb1;clear hb1))
  go_loopg [5,6] l.length (fun gg v5 v6 wr=>∃(i j:Nat) (cur:List LB),i<j/\j<=l.length/\l.length-j<=gg/\v5=.int .i64 i/\v6=.int .i64 j/\Aside (DlI p l cur i j)/\Aside (wr.ownsRow base 150 3 (.slice (some ⟨g,0,none⟩) l.length cap) l.length (Ao cur))/\Aside (OffX (· =g) w wr))
  case atStart=>exact ⟨i,i+1,l,Nat.lt_succ_self i,hi,by omega,rfl,by go_num,HD.out,Ag HO.out HB1.out,.of_below HB1.out⟩
  case round=>
   clear HD HI HB1 hi hi1 hi2;obtain ⟨i,j,cur,hij,hj,hg,rfl,rfl,HD,HR,HF⟩:=hrel;have hcl:=HD.out.len
   by_cases hlt:j<l.length
   ·have hlt2:(j:Int)<(l.length:Int):=by omega
    have hi2:(i:Int)<(l.length:Int):=by omega
    have hcj:cur[j]'(by omega)=l[j]:=by
     have:=HD.out.tl j (Bj5 _);rw [Bj8 (by omega),Bj8 hlt] at this;exact Bm2 this
    obtain ⟨x0,x1,x2⟩:=Fx cur j (by omega);rw [hcj] at x0 x1 x2;have y0:=(HR.out.cellAt (j*3) (by omega)).trans x0;have y1:=(HR.out.cellAt (j*3+1) (by omega)).trans x1;have y2:=(HR.out.cellAt (j*3+2) (by omega)).trans x2;clear x0 x1 x2 hcj;have HA:=Bj3 (fun o=>HP1.out (wr.alloc o) l[j] ((HF.out.mono (fun k e=>by rw [e];rfl)).trans (.of_below (Below.of_al wr o))) (Bk5 hlt));obtain ⟨x0,x1,x2⟩:=Fx cur i (by omega);have HP:=Bj3 (And.intro ((HR.out.cellAt (i*3) (by omega)).trans x0) (And.intro ((HR.out.cellAt (i*3+1) (by omega)).trans x1) ((HR.out.cellAt (i*3+2) (by omega)).trans x2)));have HIJ:=Bj3 hij;have hi0:(0:Int)<=(i:Int):=by omega
    clear x0 x1 x2
    cases hp:p l[j] with
    |true=>
     have HD2:=Bj3 (HD.out.drop hlt hp);rw [hp] at HA;clear hp;generalize l[j]=q at*
     go_wp2_with (go_at_call 146;refine (HA.out _).mono ?_;rintro e w5 ⟨rfl,hb5⟩;(have HB5:=Bj3 ((Below.of_al wr _).st hb5));clear hb5)
     go_roundg (l.length-(j+1))
     case measure=>omega
     case rel=>exact ⟨i,j+1,cur,by omega,by omega,Bj5 _,rfl,by go_num,HD2.out,Ag HR.out HB5.out,HF.out.trans (.of_below HB5.out)⟩
    |false=>
     have HD2:=Bj3 (HD.out.keep hlt hp);rw [hp] at HA;clear hp;generalize l[j]=q at*
     go_wp2_with (go_at_call 146;refine (HA.out _).mono ?_;rintro e w5 ⟨rfl,hb5⟩;(have HB5:=Bj3 ((Below.of_al wr _).st hb5));(have c5:w5.cell? ⟨wr.heap.size,0,none⟩=some (.int .i64 q.v):=Bj4 hb5 (by go_simp));(have c6:w5.cell? ⟨wr.heap.size,1,none⟩=some (.int .u64 q.d):=Bj4 hb5 (by go_simp));(have c7:w5.cell? ⟨wr.heap.size,2,none⟩=some (.int .i64 q.b):=Bj4 hb5 (by go_simp));(have p0:=Bj4 HB5.out HP.out.1);(have p1:=Bj4 HB5.out HP.out.2.1);(have p2:=Bj4 HB5.out HP.out.2.2);(have z0:=(Ag HR.out HB5.out).frozenAt (i*3));(have z1:=(Ag HR.out HB5.out).frozenAt (i*3+1));(have z2:=(Ag HR.out HB5.out).frozenAt (i*3+2));clear hb5)
     have hown:(((w5.setCell ⟨g,i*3,none⟩ (.int .i64 q.v)).setCell ⟨g,i*3+1,none⟩ (.int .u64 q.d)).setCell ⟨g,i*3+2,none⟩ (.int .i64 q.b)).ownsRow base 150 3 (.slice (some ⟨g,0,none⟩) l.length cap) l.length (Ao (cur.set i q)):=by
      have h1:=((Ag HR.out HB5.out).stored (i*3) (.int .i64 q.v)).1;have h2:=(h1.stored (i*3+1) (.int .u64 q.d)).1;have h3:=(h2.stored (i*3+2) (.int .i64 q.b)).1;rw [Vb] at h3;exact h3
     go_roundg (l.length-(j+1))
     case measure=>omega
     case rel=>exact ⟨i+1,j+1,cur.set i q,by omega,by omega,Bj5 _,by go_num,by go_num,HD2.out,hown,(((HF.out.trans (.of_below HB5.out)).trans (.set _ rfl)).trans (.set _ rfl)).trans (.set _ rfl)⟩
   ·obtain rfl:j=l.length:=by omega
    obtain ⟨vs,hvs,hclr⟩:=Ab3 (P:=Tryz.prog) wr 145 150 _ Tryz.underlying145 Ar5 rfl (fun u hu=>Aw3 0 0 0 u hu) g (i*3) (l.length-i) (cap-i) (by omega)
     (fun k hk=>by rw [HR.out.cellAt (i*3+k) (by omega),Bj8 (by rw [Hm];omega)];rfl) (fun k hk=>HR.out.frozenAt _)
    obtain ⟨ys,ho,hys,_,hof⟩:=Gy vs (i*3) wr _ HR.out (by rw [Hm];omega);have hcut:=Yj ho (Nat.le_of_lt hij);have hfl:(l.filter (fun a=>!p a)).length=i:=by rw [<-HD.out.done,List.length_take];omega
    have htk:ys.take (i*3)=Ao (l.filter (fun a=>!p a)):=by rw [hys,Sg,HD.out.done]
    rw [htk] at hcut;have HCUT:=Bj3 hcut;have HOF:=Bj3 (HF.out.trans hof);have HFL:=Bj3 hfl;have hcap:=Nz HR.out;have hi0:(0:Int)<=(i:Int):=by omega
    clear ho hys hof hcut hfl htk hvs
    go_wp2
    go_ret
    rw [HFL.out];exact ⟨rfl,HCUT.out,HOF.out.mono (fun k e=>by rw [e];rfl)⟩
 ·have hno:∀k (h:k<l.length),p l[k]=false:=by
   have:∀n k,k<n->∀(h:k<l.length),p l[k]=false:=by
    intro n
    induction n with
    |zero=>intro k hk;omega
    |succ n ih=>
     intro k hk h
     cases hp:p l[k] with
     |false=>rfl
     |true=>exact absurd ⟨k,h,hp,fun k' h'=>ih k' (by omega) (by omega)⟩ hex
   exact fun k h=>this (k+1) k (by omega) h
  rw [Hj p l hno] at HI;have hf:l.filter (fun a=>!p a)=l:=by
   rw [List.filter_eq_self];intro a ha;obtain ⟨k,hk,rfl⟩:=Bn7.1 ha;rw [hno k hk];rfl
  rw [hf];clear hf hno hex h hc hp1
  go_enter Tryz.func145,Tryz.ntmps145
  go_wp2_with (go_at_call 200;refine HI.out.mono ?_;rintro e w1 ⟨rfl,hb1⟩)
  go_ret
  exact ⟨rfl,Ag HO.out hb1,.of_below hb1⟩
end
section
open Go Go.Proofs Go.RowKit
variable {F:Fence} {n:Nat} {P:Program}
theorem Vm {α:Type} {g:Operand} {ps:Array Tmp} {assign body:Code} {Q:Exit->Act->World->Prop} {a:Act} {w:World}
  (hro:F.round=none) (h1:1<=n) {gf:Nat} {lb:Array Value} (hg:a.eval g=.func (.func gf) #[] lb) (hFg:F.fn gf) (eg:∀args w,(callFunc gf args).run P w=.ok (.enter gf args) w)
  {encs:α->Array Value} {parts:List α} {Kp:Nat->Prop} (hseq:SeqK F (n-1) P gf lb encs parts Kp w) (hB:∀k,Kp k->k<w.heap.size) (hps:∀x,(encs x).size=ps.size)
  (I:List α->World->Prop) (Ix:Code->List α->World->Prop)
  (hI:∀pre W W',I pre W->OffX (Av w.heap.size) W W'->I pre W') (hIx:∀c pre W W',Ix c pre W->OffX (Av w.heap.size) W W'->Ix c pre W') (h0:I [] w)
  (hround:∀(l:Nat) (pre:List α) (x:α) (W0:World) (K:Act->World->Prop),I pre W0->(pre++[x]) <+:parts->w.heap.size<=l->l<=w.heap.size+1->w.heap.size+2<=W0.heap.size->
   (∀a' W',Below W0.heap.size W0 W'->(∀Wb,OffX (Av w.heap.size) W' Wb->I pre Wb->(∃r,Wb.heap[l]? =some (.loop r))->body.wpIn (F.inRound l) (n-1-1) P (At9 (Nj Kp w.heap.size) I Ix (pre++[x]) Wb) a' Wb)->K a' W')->
   assign.wpIn (F.inRound l) (n-1-1) P (Exit.then K (fun _ _ _=>False)) { tmps:=(ps.zip (encs x)).foldl (fun t (p,v)=>t.setIfInBounds p v) a.tmps,defers:=[] } W0)
  (hdone:∀(D:Nat) (W:World),D=w.heap.size->I parts W->W.heap[D]? =some (.deferred (some []))->Q .normal { a with defers:={ target:=.collected D,args:=#[] }::a.defers } W)
  (hstop:∀(D:Nat) (c:Code) (pre:List α) (W:World),D=w.heap.size->pre <+:parts->Ix c pre W->W.heap[D]? =some (.deferred (some []))->c.wpIn F n P Q { a with defers:={ target:=.collected D,args:=#[] }::a.defers } W):
  (Code.rangeFunc g ps assign body).wpIn F n P Q a w:=by
 refine wpIn_rangeFunc fun fn hfn=>?_;rw [hro];obtain ⟨R,hR⟩:∃R:LoopState->Option Code->Loop,R=fun st pe=>{ state:=st,pending:=pe,fn,tmps:=a.tmps,params:=ps,assign,body,defers:=w.heap.size }:=⟨_,rfl⟩;obtain ⟨D,hD⟩:∃D,w.heap.size=D:=⟨_,rfl⟩;obtain ⟨V,hV⟩:∃V,V=(w.alloc (.deferred (some []))).alloc (.loop (R .ready none)):=⟨_,rfl⟩;have loopV:V.heap[D+1]? =some (.loop (R .ready none)):=by
  have:=World.alloc_heap_new (w.alloc (.deferred (some []))) (.loop (R .ready none));rw [World.size_alloc,hD] at this;rw [hV];exact this
 have markV:V.heap[D]? =some (.deferred (some [])):=by
  have:=World.alloc_heap_new w (.deferred (some []));rw [hD] at this;rw [hV,Below.heap_alloc _ _ _ (by rw [World.size_alloc];omega)];exact this
 have growV:Below w.heap.size w V:=by rw [hV];exact ((Below.refl _ w).alloc (Bj5 _) _).alloc (by simp) _
 have sizeV:V.heap.size=D+2:=by rw [hV];simp;omega
 have isR:∀st pe,(R st pe).params=ps/\(R st pe).tmps=a.tmps/\(R st pe).fn=fn/\(R st pe).assign=assign/\(R st pe).body=body/\(R st pe).state=st/\(R st pe).pending=pe:=fun st pe=>by rw [hR];exact ⟨rfl,rfl,rfl,rfl,rfl,rfl,rfl⟩
 refine ⟨D+1,[{ target:=.collected D,args:=#[] }],V,{ target:=.fn (.func gf) lb,args:=#[.func (.yield (D+1)) #[] #[]] },V,gf,#[.func (.yield (D+1)) #[] #[]]++lb,V,?_,?_,?_,?_,fun _=>h1,?_⟩
 ·have:=run_enterLoop_outer (P:=P) (w:=w) fn a.tmps ps assign body
  rw [this,hV,hR,hD]
 ·simp only [resolve,hg]
  simp [go_sem]
 ·intro f' hf'
  simp [Target.leads] at hf';subst hf';exact hFg
 ·simp [invoke,go_sem,eg]
 ·rw [hD] at hI hIx hround hdone hstop hB growV
  refine (hseq (D+1) (fun pre W=>I pre W/\W.heap[D+1]? =some (.loop (R .ready none))/\W.heap[D]? =some (.deferred (some [])))
   (fun pre W=>∃c,Ix c pre W/\W.heap[D+1]? =some (.loop (R .done (some c)))/\W.heap[D]? =some (.deferred (some [])))
   V ⟨growV.size,fun k hk=>growV.block k (by have:=hB k hk;omega)⟩ ?_ ?_ ?round ⟨hI _ _ _ h0 (.of_below (by rw [hD];exact growV)),loopV,markV⟩).mono ?_
  ·rintro pre W1 W2 ⟨hi,hl,hk⟩ ho
   refine ⟨hI _ _ _ hi (ho.mono fun k e=>e.elim),?_,?_⟩
   ·rw [ho.block (D+1) (Bk0.1 hl).1 (fun e=>e.elim)];exact hl
   ·rw [ho.block D (Bk0.1 hk).1 (fun e=>e.elim)];exact hk
  ·rintro pre W1 W2 ⟨c,hi,hl,hk⟩ ho
   refine ⟨c,hIx _ _ _ _ hi (ho.mono fun k e=>e.elim),?_,?_⟩
   ·rw [ho.block (D+1) (Bk0.1 hl).1 (fun e=>e.elim)];exact hl
   ·rw [ho.block D (Bk0.1 hk).1 (fun e=>e.elim)];exact hk
  case round=>
   rintro pre x W0 ⟨hi0,hl0,hk0⟩ hpx;have hlt0:D+1<W0.heap.size:=(Bk0.1 hl0).1;obtain ⟨e1,e2,e3,e4,e5,e6,e7⟩:=isR .ready none;have hy:=run_yield (P:=P) (args:=encs x) hl0 (by rw [e1];exact hps x);rw [e1,e2,e3,e4,e5] at hy;refine ⟨fn,_,assign,body,hy,roundIn_of_wpIn hfn (hround _ pre x W0 _ hi0 hpx (by omega) (by omega) (by omega) ?_)⟩;intro a₁ W hgr hbody;have hl:W.heap[D+1]? =some (.loop (R .ready none)):=(hgr.block _ hlt0).trans hl0;have hk:W.heap[D]? =some (.deferred (some [])):=(hgr.block _ (by omega)).trans hk0;have hi:I pre W:=hI _ _ _ hi0 (.of_below hgr);have hk00:KeepX Kp W0 W:=⟨hgr.size,fun k hk=>hgr.block k (by have:=hB k hk;omega)⟩;refine ⟨_,run_beginRound hl e6,?_⟩;have hlt:D+1<W.heap.size:=(Bk0.1 hl).1;obtain ⟨Wb,hWb⟩:∃Wb,Wb=W.putObj (D+1) (.loop { R .ready none with state:=.busy }):=⟨_,rfl⟩;rw [<-hWb];have hlb:Wb.heap[D+1]? =some (.loop { R .ready none with state:=.busy }):=by rw [hWb];exact World.putObj_heap_same hlt
   have hkb:Wb.heap[D]? =some (.deferred (some [])):=by rw [hWb];exact (World.putObj_heap_other (by omega)).trans hk
   have hob:OffX (Av D) W Wb:=by rw [hWb];exact .put _ rfl
   have hsb:W.heap.size<=Wb.heap.size:=hob.size;have hkx:KeepX Kp W Wb:=⟨hsb,fun k hk=>by
    rw [hWb];exact World.putObj_heap_other (by have:=hB k hk;omega)⟩
   refine wpIn_mono (hbody Wb hob (hI _ _ _ hi hob) ⟨_,hlb⟩) ?_;have fin:∀(jump:Option Code) (W3:World),KeepX (Nj Kp D) Wb W3->∃W4,(Instr.endRound (D+1) jump).run P W3=.ok (.bool jump.isNone) W4/\OffX (Av D) W3 W4/\KeepX Kp W0 W4/\
     W4.heap[D+1]? =some (.loop (R (if jump.isNone then .ready else .done) jump))/\W4.heap[D]? =some (.deferred (some [])):=by
    intro jump W3 hk3;have hl3:W3.heap[D+1]? =some (.loop { R .ready none with state:=.busy }):=(hk3.2 _ (.inr (.inr rfl))).trans hlb;have hd3:W3.heap[D]? =some (.deferred (some [])):=(hk3.2 _ (.inr (.inl rfl))).trans hkb;have he:=run_endRound (P:=P) jump hl3;refine ⟨_,he,.put _ rfl,hk00.trans (hkx.trans ((hk3.mono fun k h=>.inl h).trans ⟨(OffX.put (X:=Av D) _ rfl).size,fun k hk=>World.putObj_heap_other (by have:=hB k hk;omega)⟩)),?_,(World.putObj_heap_other (by omega)).trans hd3⟩;rw [World.putObj_heap_same (Bk0.1 hl3).1,hR]
   rintro e a3 W3 hp
   cases e with
   |normal=>
    obtain ⟨hk3,hi3⟩:=hp;obtain ⟨W4,r1,r2,r3,r4,r5⟩:=fin none W3 hk3;exact ⟨_,_,r1,.inl ⟨rfl,⟨hI _ _ _ hi3 r2,r4,r5⟩,r3⟩⟩
   |ret=>
    obtain ⟨hk3,hi3⟩:=hp;obtain ⟨W4,r1,r2,r3,r4,r5⟩:=fin (some .ret) W3 hk3;exact ⟨_,_,r1,.inr ⟨rfl,.ret,hIx _ _ _ _ hi3 r2,r4,r5⟩⟩
   |exit id=>
    obtain ⟨hk3,hi3⟩:=hp;obtain ⟨W4,r1,r2,r3,r4,r5⟩:=fin (some (.exit id)) W3 hk3;exact ⟨_,_,r1,.inr ⟨rfl,.exit id,hIx _ _ _ _ hi3 r2,r4,r5⟩⟩
   |goto t=>
    obtain ⟨hk3,hi3⟩:=hp;obtain ⟨W4,r1,r2,r3,r4,r5⟩:=fin (some (.goto t)) W3 hk3;exact ⟨_,_,r1,.inr ⟨rfl,.goto t,hIx _ _ _ _ hi3 r2,r4,r5⟩⟩
   |panic ch=>exact hp.elim
   |outgrown=>exact hp.elim
  ·rintro e W2 ⟨⟨v,rfl⟩,⟨hi,hl,hk⟩|⟨pre,hpp,c,hi,hl,hk⟩⟩
   ·obtain ⟨e1,e2,e3,e4,e5,e6,e7⟩:=isR .ready none
    have he:=run_endLoop (P:=P) hl (by rw [e6];simp);rw [e7] at he;exact ⟨none,_,he,hdone D _ rfl (hI _ _ _ hi (.put _ rfl)) ((World.putObj_heap_other (by omega)).trans hk)⟩
   ·obtain ⟨e1,e2,e3,e4,e5,e6,e7⟩:=isR .done (some c)
    have he:=run_endLoop (P:=P) hl (by rw [e6];simp);rw [e7] at he;exact ⟨some c,_,he,hstop D c pre _ rfl hpp (hIx _ _ _ _ hi (.put _ rfl)) ((World.putObj_heap_other (by omega)).trans hk)⟩
def Be7 (Kp:Nat->Prop) (D k:Nat):Prop:=Kp k\/k=D
def Ka (D k:Nat):Prop:=k=D
theorem Vn {α:Type} {g:Operand} {ps:Array Tmp} {assign body:Code} {Q:Exit->Act->World->Prop} {a:Act} {w:World}
  {l₀:Nat} {r₀:Loop} (hro:F.round=some l₀) (hl₀:w.heap[l₀]? =some (.loop r₀)) (h1:1<=n) {gf:Nat} {lb:Array Value} (hg:a.eval g=.func (.func gf) #[] lb) (hFg:F.fn gf) (eg:∀args w,(callFunc gf args).run P w=.ok (.enter gf args) w)
  {encs:α->Array Value} {parts:List α} {Kp:Nat->Prop} (hseq:SeqK F (n-1) P gf lb encs parts Kp w) (hB:∀k,Kp k->k<w.heap.size) (hps:∀x,(encs x).size=ps.size)
  (I:List α->World->Prop) (Ix:Code->List α->World->Prop)
  (hI:∀pre W W',I pre W->OffX (Ka w.heap.size) W W'->I pre W') (hIx:∀c pre W W',Ix c pre W->OffX (Ka w.heap.size) W W'->Ix c pre W') (h0:I [] w)
  (hround:∀(l:Nat) (pre:List α) (x:α) (W0:World) (K:Act->World->Prop),I pre W0->(pre++[x]) <+:parts->l=w.heap.size->w.heap.size+1<=W0.heap.size->
   (∀a' W',Below W0.heap.size W0 W'->(∀Wb,OffX (Ka w.heap.size) W' Wb->I pre Wb->body.wpIn (F.inRound l) (n-1-1) P (At9 (Be7 Kp w.heap.size) I Ix (pre++[x]) Wb) a' Wb)->K a' W')->
   assign.wpIn (F.inRound l) (n-1-1) P (Exit.then K (fun _ _ _=>False)) { tmps:=(ps.zip (encs x)).foldl (fun t (p,v)=>t.setIfInBounds p v) a.tmps,defers:=[] } W0)
  (hdone:∀(W:World),I parts W->Q .normal a W)
  (hstop:∀(c:Code) (pre:List α) (W:World),pre <+:parts->Ix c pre W->c.wpIn F n P Q a W):
  (Code.rangeFunc g ps assign body).wpIn F n P Q a w:=by
 refine wpIn_rangeFunc fun fn hfn=>?_;rw [hro];obtain ⟨R,hR⟩:∃R:LoopState->Option Code->Loop,R=fun st pe=>{ state:=st,pending:=pe,fn,tmps:=a.tmps,params:=ps,assign,body,defers:=r₀.defers }:=⟨_,rfl⟩;obtain ⟨D,hD⟩:∃D,w.heap.size=D:=⟨_,rfl⟩;obtain ⟨V,hV⟩:∃V,V=w.alloc (.loop (R .ready none)):=⟨_,rfl⟩;have loopV:V.heap[D]? =some (.loop (R .ready none)):=by
  rw [hV,<-hD];exact World.alloc_heap_new w _
 have growV:Below w.heap.size w V:=by rw [hV];exact (Below.refl _ w).alloc (Bj5 _) _
 have sizeV:V.heap.size=D+1:=by rw [hV];simp;omega
 have isR:∀st pe,(R st pe).params=ps/\(R st pe).tmps=a.tmps/\(R st pe).fn=fn/\(R st pe).assign=assign/\(R st pe).body=body/\(R st pe).state=st/\(R st pe).pending=pe:=fun st pe=>by rw [hR];exact ⟨rfl,rfl,rfl,rfl,rfl,rfl,rfl⟩
 refine ⟨D,[],V,{ target:=.fn (.func gf) lb,args:=#[.func (.yield D) #[] #[]] },V,gf,#[.func (.yield D) #[] #[]]++lb,V,?_,?_,?_,?_,fun _=>h1,?_⟩
 ·have:=run_enterLoop_inner (P:=P) hl₀ fn a.tmps ps assign body
  rw [this,hV,hR,hD]
 ·simp only [resolve,hg]
  simp [go_sem]
 ·intro f' hf'
  simp [Target.leads] at hf';subst hf';exact hFg
 ·simp [invoke,go_sem,eg]
 ·rw [hD] at hI hIx hround hB growV
  refine (hseq D (fun pre W=>I pre W/\W.heap[D]? =some (.loop (R .ready none)))
   (fun pre W=>∃c,Ix c pre W/\W.heap[D]? =some (.loop (R .done (some c))))
   V ⟨growV.size,fun k hk=>growV.block k (by have:=hB k hk;omega)⟩ ?_ ?_ ?round ⟨hI _ _ _ h0 (.of_below (by rw [hD];exact growV)),loopV⟩).mono ?_
  ·rintro pre W1 W2 ⟨hi,hl⟩ ho
   refine ⟨hI _ _ _ hi (ho.mono fun k e=>e.elim),?_⟩;rw [ho.block D (Bk0.1 hl).1 (fun e=>e.elim)];exact hl
  ·rintro pre W1 W2 ⟨c,hi,hl⟩ ho
   refine ⟨c,hIx _ _ _ _ hi (ho.mono fun k e=>e.elim),?_⟩;rw [ho.block D (Bk0.1 hl).1 (fun e=>e.elim)];exact hl
  case round=>
   rintro pre x W0 ⟨hi0,hl0⟩ hpx;have hlt0:D<W0.heap.size:=(Bk0.1 hl0).1;obtain ⟨e1,e2,e3,e4,e5,e6,e7⟩:=isR .ready none;have hy:=run_yield (P:=P) (args:=encs x) hl0 (by rw [e1];exact hps x);rw [e1,e2,e3,e4,e5] at hy;refine ⟨fn,_,assign,body,hy,roundIn_of_wpIn hfn (hround _ pre x W0 _ hi0 hpx (by omega) (by omega) ?_)⟩;intro a₁ W hgr hbody;have hl:W.heap[D]? =some (.loop (R .ready none)):=(hgr.block _ hlt0).trans hl0;have hi:I pre W:=hI _ _ _ hi0 (.of_below hgr);have hk00:KeepX Kp W0 W:=⟨hgr.size,fun k hk=>hgr.block k (by have:=hB k hk;omega)⟩;refine ⟨_,run_beginRound hl e6,?_⟩;have hlt:D<W.heap.size:=(Bk0.1 hl).1;obtain ⟨Wb,hWb⟩:∃Wb,Wb=W.putObj D (.loop { R .ready none with state:=.busy }):=⟨_,rfl⟩;rw [<-hWb];have hlb:Wb.heap[D]? =some (.loop { R .ready none with state:=.busy }):=by rw [hWb];exact World.putObj_heap_same hlt
   have hob:OffX (Ka D) W Wb:=by rw [hWb];exact .put _ rfl
   have hsb:W.heap.size<=Wb.heap.size:=hob.size;have hkx:KeepX Kp W Wb:=⟨hsb,fun k hk=>by
    rw [hWb];exact World.putObj_heap_other (by have:=hB k hk;omega)⟩
   refine wpIn_mono (hbody Wb hob (hI _ _ _ hi hob)) ?_;have fin:∀(jump:Option Code) (W3:World),KeepX (Be7 Kp D) Wb W3->∃W4,(Instr.endRound D jump).run P W3=.ok (.bool jump.isNone) W4/\OffX (Ka D) W3 W4/\KeepX Kp W0 W4/\
     W4.heap[D]? =some (.loop (R (if jump.isNone then .ready else .done) jump)):=by
    intro jump W3 hk3;have hl3:W3.heap[D]? =some (.loop { R .ready none with state:=.busy }):=(hk3.2 _ (.inr rfl)).trans hlb;have he:=run_endRound (P:=P) jump hl3;refine ⟨_,he,.put _ rfl,hk00.trans (hkx.trans ((hk3.mono fun k h=>.inl h).trans ⟨(OffX.put (X:=Ka D) _ rfl).size,fun k hk=>World.putObj_heap_other (by have:=hB k hk;omega)⟩)),?_⟩;rw [World.putObj_heap_same (Bk0.1 hl3).1,hR]
   rintro e a3 W3 hp
   cases e with
   |normal=>
    obtain ⟨hk3,hi3⟩:=hp;obtain ⟨W4,r1,r2,r3,r4⟩:=fin none W3 hk3;exact ⟨_,_,r1,.inl ⟨rfl,⟨hI _ _ _ hi3 r2,r4⟩,r3⟩⟩
   |ret=>
    obtain ⟨hk3,hi3⟩:=hp;obtain ⟨W4,r1,r2,r3,r4⟩:=fin (some .ret) W3 hk3;exact ⟨_,_,r1,.inr ⟨rfl,.ret,hIx _ _ _ _ hi3 r2,r4⟩⟩
   |exit id=>
    obtain ⟨hk3,hi3⟩:=hp;obtain ⟨W4,r1,r2,r3,r4⟩:=fin (some (.exit id)) W3 hk3;exact ⟨_,_,r1,.inr ⟨rfl,.exit id,hIx _ _ _ _ hi3 r2,r4⟩⟩
   |goto t=>
    obtain ⟨hk3,hi3⟩:=hp;obtain ⟨W4,r1,r2,r3,r4⟩:=fin (some (.goto t)) W3 hk3;exact ⟨_,_,r1,.inr ⟨rfl,.goto t,hIx _ _ _ _ hi3 r2,r4⟩⟩
   |panic ch=>exact hp.elim
   |outgrown=>exact hp.elim
  ·rintro e W2 ⟨⟨v,rfl⟩,⟨hi,hl⟩|⟨pre,hpp,c,hi,hl⟩⟩
   ·obtain ⟨e1,e2,e3,e4,e5,e6,e7⟩:=isR .ready none
    have he:=run_endLoop (P:=P) hl (by rw [e6];simp);rw [e7] at he;exact ⟨none,_,he,hdone _ (hI _ _ _ hi (.put _ rfl))⟩
   ·obtain ⟨e1,e2,e3,e4,e5,e6,e7⟩:=isR .done (some c)
    have he:=run_endLoop (P:=P) hl (by rw [e6];simp);rw [e7] at he;exact ⟨some c,_,he,hstop c pre _ hpp (hIx _ _ _ _ hi (.put _ rfl))⟩
end
section
open Go Go.Proofs Go.RowKit Go.Shelf Hp Ch
def KpB (B:Nat) (ao:Option Addr) (k:Nat):Prop:=k=B\/∃b o,ao=some ⟨b,o,none⟩/\k=b
def Zp (l:List Int):List (Nat×Int):=(List.range l.length).reverse.map fun i=>(i,l.getD i 0)
theorem St (l:List Int):(Zp l).length=l.length:=by simp [Zp]
theorem Ay7 {l:List Int} {j:Nat} (hj:j<l.length):(Zp l)[j]? =some (l.length-1-j,l.getD (l.length-1-j) 0):=by
 unfold Zp;rw [Bl2,List.getElem?_reverse (by simpa using hj),List.length_range,List.getElem?_range (by omega)];rfl
theorem Ak2 {l:List Int} {pre:List (Nat×Int)} {x:Nat×Int} (h:(pre++[x]) <+:Zp l):x.1+pre.length+1=l.length/\x.2=l.getD x.1 0:=by
 have hl:=h.length_le;rw [St,Bm3,List.length_singleton] at hl;obtain ⟨t,e⟩:=h;have h1:(Zp l)[pre.length]? =some x:=by rw [<-e,Bn2 (by simp),Bn1 (Bj5 _)];simp
 rw [Ay7 (by omega)] at h1
 cases h1
 exact ⟨by simp only;omega,rfl⟩
theorem Xg (ao:Option Addr) (n cap:Nat) (w:World):Calls Tryz.prog 198 #[.slice ao n cap] w fun e w'=>e=.returned (.func (.func 249) #[] #[.pointer (some ⟨w.heap.size,0,none⟩)])/\Below w.heap.size w w'/\w'.heap.size=w.heap.size+1/\w'.cell? ⟨w.heap.size,0,none⟩=some (.slice ao n cap):=by
 go_enter Tryz.func198,Tryz.ntmps198
 go_wp2
 go_ret
 exact ⟨rfl,Below.of_al _ _,by simp,by go_simp⟩
theorem Sw (n:Nat) (hn:1<=n) (ao:Option Addr) (cap B:Nat) (r:List Int) (w:World) (hr:r.length<=1000000) (h0:w.cell? ⟨B,0,none⟩=some (.slice ao r.length cap)) (hc:Cel w ao (r.map Ai)):
  SeqK Fence.wide n Tryz.prog 249 #[.pointer (some ⟨B,0,none⟩)] (fun x:Nat×Int=>#[.int .i64 x.1,.int .i64 x.2]) (Zp r) (KpB B ao) w:=by
 intro l J Jx W hk hJ hJx hY hJ0;refine callsIn_of_wp Tryz.func249 rfl trivial ?_ rfl;simp only [Tryz.ntmps249,List.size_toArray,Bk8,Bk9,Nat.reduceAdd,Nat.reduceSub,Array.replicate_succ,Array.replicate_zero,List.push_toArray,List.append_toArray,List.nil_append,List.cons_append];have e0:W.cell? ⟨B,0,none⟩=some (.slice ao r.length cap):=by rw [Bm0 (w:=w) (hk.2 B (.inl rfl))];exact h0
 have hcW:∀W',KeepX (KpB B ao) W W'->Cel W' ao (r.map Ai):=fun W' h i u hu=>by
  obtain ⟨b,o,e,h1⟩:=hc i u hu;exact ⟨b,o,e,(Bm0 (w:=w) ((h.2 b (.inr ⟨b,o,e,rfl⟩)).trans (hk.2 b (.inr ⟨b,o,e,rfl⟩)))).trans h1⟩
 have HC:=Bj3 hcW;have HY:=Bj3 hY;have HBL:=Bj3 (St r);have HAT:=Bj3 (fun pre x=>Ak2 (l:=r) (pre:=pre) (x:=x));generalize Zp r=parts at*;clear hY hk h0 hc hcW hJ hJx
 gi_wp2
 gi_loopg [3] r.length (fun gg vi wr=>∃(pre:List (Nat×Int)) (m:Nat),pre <+:parts/\pre.length+m=r.length/\m<=gg/\vi=.int .i64 ((m:Int)-1)/\Aside (KeepX (KpB B ao) W wr)/\Aside (J pre wr))
 case atStart=>exact ⟨[],r.length,List.nil_prefix,by simp,Bj5 _,rfl,⟨Bj5 _,fun _ _=>rfl⟩,hJ0⟩
 case round=>
  clear hJ0;obtain ⟨pre,m,hpp,hm,hgg,rfl,HK,HJ⟩:=hrel;have f0:=(Bm0 (a:=⟨B,0,none⟩) (HK.out.2 B (.inl rfl))).trans e0;clear e0
  cases m with
  |zero=>
   have hpe:pre=parts:=hpp.eq_of_length (by rw [HBL.out];omega)
   gi_wp2
   go_end0
   exact ⟨⟨_,rfl⟩,.inl (by rw [<-hpe];exact HJ.out)⟩
  |succ i=>
   have hx:∃x,(pre++[x]) <+:parts:=by
    have hbl:=HBL.out;obtain ⟨t,rfl⟩:=hpp
    cases t with
    |nil=>simp at hbl;omega
    |cons a t=>exact ⟨a,t,by simp⟩
   obtain ⟨⟨xi,xv⟩,hpx⟩:=hx;obtain ⟨h1,h2⟩:=HAT.out pre (xi,xv) hpx;simp only at h1 h2;obtain rfl:i=xi:=by omega
   have hir:i<r.length:=by omega
   obtain ⟨g,go,rfl,c1⟩:=(HC.out wr HK.out).at hir;have hxr:r[i]=xv:=by rw [h2];simp [List.getD,hir]
   rw [hxr] at c1;obtain ⟨fn,tmps,assign,body,hy,hR⟩:=HY.out pre (i,xv) wr HJ.out hpx
   dsimp only at hy
   have HR:=Bj3 hR;clear hR h1 h2 hxr;have hii:((i+1:Nat):Int)-1=(i:Int):=by omega
   rw [hii];have hi0:(0:Int)<=(i:Int):=by omega
   have hil:(i:Int)<(r.length:Int):=by omega
   gi_wp2
   refine HR.out.mono ?_;rintro e W' (⟨rfl,hJ',hk⟩|⟨rfl,hJx'⟩)
   ·have HJ2:=Bj3 hJ'
    have HK2:=Bj3 (HK.out.trans hk);clear hJ' hk f0 c1
    gi_wp2
    gi_roundg i
    case rel=>exact ⟨pre++[(i,xv)],i,hpx,by simp;omega,Bj5 _,by go_num,HK2.out,HJ2.out⟩
    case measure=>omega
   ·have HJ2:=Bj3 hJx'
    clear hJx'
    gi_wp2
    refine bodyPost_ret (results_none rfl _ _ _) rfl ?_;exact ⟨⟨_,rfl⟩,.inr ⟨pre++[(i,xv)],hpx,HJ2.out⟩⟩
end
section
open Go Go.Proofs Go.RowKit Go.Shelf Hp Ch
theorem Tt (hb n:Nat) (es:List EdgeD) (R:List Int) (S:List SC) (O I:List (List Int)) (w:World) (h:HierM w hb n es R S O I) (hn:n<=1000000):
  Calls Tryz.prog 40 #[.pointer (some ⟨hb,0,none⟩)] w (Tg R S w):=by
 obtain ⟨W,hW⟩:∃W,W=w.alloc (Obj.cells #[.slice none 0 0,.slice none 0 0] 81):=⟨_,rfl⟩;have hbw:Below w.heap.size w W:=by rw [hW];exact Below.of_al _ _
 obtain ⟨a2,k2,c2,m2⟩:=h.c2;obtain ⟨a3,k3,c3,m3⟩:=h.c3;have HCH:=Bj3 (Sn R S a2 a3 k2 k3 W (m2.go hbw) (m3.go hbw) (by rw [h.rl];exact hn) h.small.2.1);have d2:=Bj4 hbw c2;have d3:=Bj4 hbw c3;have q0:W.cell? ⟨w.heap.size,0,none⟩=some (.slice none 0 0):=by rw [hW];go_simp
 have q1:W.cell? ⟨w.heap.size,1,none⟩=some (.slice none 0 0):=by rw [hW];go_simp
 have z0:W.frozen? ⟨w.heap.size,0,none⟩=false:=by rw [hW];go_simp
 have z1:W.frozen? ⟨w.heap.size,1,none⟩=false:=by rw [hW];go_simp
 have HSZ:=Bj3 (show W.heap.size=w.heap.size+1 by rw [hW];simp);have HB:=Bj3 hbw;have HW:=Bj3 hW;unfold Tg at HCH;clear hW hbw h m2 m3 c2 c3
 go_enter Tryz.func40,Tryz.ntmps40
 go_upto_region 1 with (fail)
 rw [<-HW.out]
 go_wp2_with fail
 refine HCH.out.mono ?_;rintro e w1 ⟨a1,k1,b1,l1,rfl,h1,h2,hb1,hf1,hf2⟩;have g0:=Bj4 hb1 q0;have g1:=Bj4 hb1 q1;have y0:=(hb1.frozen (p:=⟨w.heap.size,0,none⟩) (by show w.heap.size<_;rw [HSZ.out];omega)).trans z0;have y1:=(hb1.frozen (p:=⟨w.heap.size,1,none⟩) (by show w.heap.size<_;rw [HSZ.out];omega)).trans z1;have H1:=Bj3 (And.intro h1 (And.intro h2 (And.intro hb1 (And.intro hf1 hf2))));clear h1 h2 hb1 hf1 hf2 d2 d3 q0 q1 z0 z1
 go_wp2_with fail
 obtain ⟨r0,r1⟩:=Cc (.slice a1 R.length k1) (.slice b1 S.length l1) g0 g1;refine bodyPost_ret (v:=.agg #[.slice a1 R.length k1,.slice b1 S.length l1]) (by simp [results,Tryz.results40,go_sem,r0,r1];try rfl) rfl ?_;obtain ⟨h1,h2,hb1,hf1,hf2⟩:=H1.out;have hs:=HSZ.out;have ho:OffX (· =w.heap.size) w1 ((w1.setCell ⟨w.heap.size,0,none⟩ (.slice a1 R.length k1)).setCell ⟨w.heap.size,1,none⟩ (.slice b1 S.length l1)):=
  (show OffX (· =w.heap.size) w1 (w1.setCell ⟨w.heap.size,0,none⟩ (.slice a1 R.length k1)) from .set _ rfl).trans (.set _ rfl)
 have hb4:Below w.heap.size w w1:=HB.out.st hb1;exact ⟨a1,k1,b1,l1,rfl,Ez h1 ho (fun k hk e=>by have:=hf1 k hk;have e2:k=w.heap.size:=e;omega),Ez h2 ho (fun k hk e=>by have:=hf2 k hk;have e2:k=w.heap.size:=e;omega),hb4.trans (ho.below hb4.size (fun k hk=>by have e2:k=w.heap.size:=hk;omega)),fun k hk=>by have:=hf1 k hk;omega,fun k hk=>by have:=hf2 k hk;omega⟩
end
end Go.Proofs.YteaaapdjplbljaaGreat
