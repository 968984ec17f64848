/- Parts; no condition. -/
import Derived.Test.YteaaapdjplbljaaGreatVa41
set_option linter.unusedVariables false
set_option linter.unusedSimpArgs false
set_option linter.unnecessarySimpa false
set_option maxRecDepth 100000
set_option maxHeartbeats 8000000
namespace Go.Proofs.YteaaapdjplbljaaGreat
section
open Go Go.Proofs Go.RowKit Go.Shelf Hp Ch
end
section
open Go.Proofs Go.RowKit Go.Shelf
def Cd (g:GD) (l:List Int):Bool:=Aj g==0&&!(l.any fun e=>!Ej g.es.length e)
theorem Ay0 {g:GD} {l:List Int} (h:(Aj g != 0)=true):Cd g l=false:=by
 have h2:(Aj g==0)=false:=by simpa using h
 unfold Cd;rw [h2];rfl
theorem Ax9 {g:GD} {l:List Int} (h:(Aj g != 0)=false):Cd g l=!(l.any fun e=>!Ej g.es.length e):=by
 have h2:(Aj g==0)=true:=by simpa using h
 unfold Cd;rw [h2];rfl
theorem Vv (g:GD) (ao bo:Option Addr) (cap cb:Nat) (l:List Int) (w:World) (hl:g.es.length<=9223372036854775807) (hll:l.length<=9223372036854775807) (hc:Cel w ao (Ar g.es)) (hd:Cel w bo (l.map Ai)):
  Calls Tryz.prog 95 #[.agg #[.int .i64 g.n,.slice ao g.es.length cap],.slice bo l.length cb] w fun e w'=>e=.returned (.bool (Cd g l))/\Below w.heap.size w w':=by
 have HC:=Bj3 hc;have HD:=Bj3 hd;clear hc hd;have X1:=Bj3 (fun W h=>Dr g ao cap W hl h);have E1:=Bj3 (@Ay0 g l);have E2:=Bj3 (@Ax9 g l);generalize Cd g l=r at*
 cases q1:(Aj g != 0) with
 |true=>
  have HR:=Bj3 (E1.out q1);generalize Aj g=f at*
  go_enter Tryz.func95,Tryz.ntmps95
  go_wp2_with (go_at_call 78;refine (X1.out _ (HC.out.go (by repeat (first|exact Below.refl _ _|refine Below.al ?_ _|refine Below.dr ?_ _|refine Below.drew ?_|assumption|(refine Below.st ?_ (by assumption)))))).mono ?_;rintro e w1 ⟨rfl,hb1⟩)
  go_ret
  exact ⟨by rw [HR.out];rfl,by repeat (first|exact Below.refl _ _|refine Below.al ?_ _|refine Below.dr ?_ _|refine Below.drew ?_|assumption|(refine Below.st ?_ (by assumption)))⟩
 |false=>
  have HR:=Bj3 (E2.out q1);generalize Aj g=f at*
  go_enter Tryz.func95,Tryz.ntmps95
  go_wp2_with fail
  obtain ⟨W,hW,c0,c1,hsW⟩:∃W,W=w.alloc (Obj.cells #[.int .i64 g.n,.slice ao g.es.length cap] 24)/\W.cell? ⟨w.heap.size,0,none⟩=some (.int .i64 g.n)/\W.cell? ⟨w.heap.size,1,none⟩=some (.slice ao g.es.length cap)/\w.heap.size<W.heap.size:=⟨_,rfl,by go_simp,by go_simp,by simp⟩;rw [<-hW];have HW:=Bj3 (show Below w.heap.size w W by rw [hW];repeat (first|exact Below.refl _ _|refine Below.al ?_ _|refine Below.dr ?_ _|refine Below.drew ?_|assumption|(refine Below.st ?_ (by assumption))));clear hW;refine (X1.out _ (HC.out.go HW.out)).mono ?_;rintro e w1 ⟨rfl,hb1⟩;have c0':=Bj4 hb1 c0;have c1':=Bj4 hb1 c1;have HW1:=Bj3 (HW.out.st hb1);have hsW1:w.heap.size<w1.heap.size:=by have:=hb1.size;omega
  clear HW c0 c1 hb1 hsW
  go_wp2
  go_loopg [5] l.length (fun gg i wr=>∃k q:Nat,k<=l.length/\l.length-k<=gg/\i=.int .i64 k/\wr=w1.drewN q/\Aside (∀j (h:j<l.length),j<k->(!Ej g.es.length l[j])=false))
  case atStart=>exact ⟨0,0,Bj6 _,by omega,rfl,rfl,fun j _ h=>absurd h (Nat.not_lt_zero _)⟩
  case round=>
   obtain ⟨k,qn,hk,hg,rfl,rfl,HA⟩:=hrel
   by_cases hlt:k<l.length
   ·have hlt3:(k:Int)<(l.length:Int):=by omega
    have hk0:(0:Int)<=(k:Int):=by omega
    obtain ⟨b,o,hao,f1⟩:=(HD.out.go HW1.out).at hlt;have HN:=Bj3 (fun h=>@No _ (fun e=>!Ej g.es.length e) l k HA.out hlt h);have HY:=Bj3 (fun h=>@Af9 _ (fun e=>!Ej g.es.length e) l k hlt h);generalize l[k]=x at*;subst hao
    by_cases d1:x<0
    ·have HZ:=Bj3 (HY.out (by simp [Ej];omega))
     have t1:decide (x<0)=true:=by simp [d1]
     go_wp2
     go_quiet (fail)
     go_wp2
     go_ret
     exact ⟨by rw [HR.out,HZ.out];rfl,(HW1.out.dr _).dr _⟩
    ·have t1:decide (x<0)=false:=by simp;omega
     by_cases d2:(g.es.length:Int)<=x
     ·have HZ:=Bj3 (HY.out (by simp [Ej];omega))
      have t2:decide ((g.es.length:Int)<=x)=true:=by simp [d2]
      go_wp2
      go_quiet (fail)
      go_wp2
      go_ret
      exact ⟨by rw [HR.out,HZ.out];rfl,(HW1.out.dr _).dr _⟩
     ·have HZ:=Bj3 (HN.out (by simp [Ej];omega))
      have t2:decide ((g.es.length:Int)<=x)=false:=by simp;omega
      go_wp2
      go_quiet (fail)
      go_wp2
      go_roundg (l.length-(k+1))
      case measure=>omega
      case rel=>exact ⟨k+1,qn+nq,by omega,by omega,by go_num,rfl,HZ.out⟩
   ·obtain rfl:k=l.length:=by omega
    have HZ:=Bj3 (@Sx _ (fun e=>!Ej g.es.length e) l (fun j h=>HA.out j h h))
    go_wp2
    go_ret
    exact ⟨by rw [HR.out,HZ.out];rfl,HW1.out.dr _⟩
def edD:EdgeD:=⟨0,0,0⟩
def Je (es:List EdgeD):Int->List Int->List Int->Option (List Int)
 |_,out,[]=>some out
 |s,out,e::r=>if (es.getD e.toNat edD).f=s then Je es (es.getD e.toNat edD).t (out++[(es.getD e.toNat edD).t]) r else none
def Wi (g:GD) (s:Int) (l:List Int):Option (List Int):=if Cd g l&&Dc g.n s then Je g.es s [s] l else none
theorem Ac2 {g:GD} {s:Int} {l:List Int} (h:Cd g l=true) (h2:Dc g.n s=true):Wi g s l=Je g.es s [s] l:=by unfold Wi;rw [h,h2];rfl
theorem Ma {g:GD} {l:List Int} (h:Cd g l=true) {e:Int} (he:e∈l):0<=e/\e<(g.es.length:Int):=by
 unfold Cd at h;simp only [Bool.and_eq_true,Bool.not_eq_true',List.any_eq_false] at h;have:=h.2 e he
 simpa [Ej] using this
theorem Wu {g:GD} {l:List Int} (h:Cd g l=true):Aj g=0:=by
 unfold Cd at h;simp only [Bool.and_eq_true,beq_iff_eq] at h;exact h.1
theorem Ve:Gl Tryz.prog 37 (.int .u64 0) 1 8:=⟨by kernel_rfl,rfl,by decide⟩
def wt (es:List EdgeD) (e:Int):Int:=(es.getD e.toNat edD).w
def Cb (es:List EdgeD):Int->List Int->List Int
 |a,[]=>[a]
 |a,e::r=>a::Cb es (a+wt es e) r
theorem Cg (es:List EdgeD):∀(l:List Int) (a:Int),(Cb es a l).length=l.length+1
 |[],_=>rfl
 |_::r,_=>by simp [Cb,Cg es r]
theorem Ob (es:List EdgeD) (l:List Int) (a:Int):(Cb es a l)[0]? =some a:=by cases l<;>rfl
theorem Oc (es:List EdgeD):∀(l:List Int) (a:Int) (k:Nat) (h:k<l.length),(Cb es a l)[k+1]? =((Cb es a l)[k]?).map (· +wt es l[k])
 |e::r,a,0,_=>by
  show (Cb es (a+wt es e) r)[0]? =_
  rw [Ob];rfl
 |e::r,a,k+1,h=>by
  show (Cb es (a+wt es e) r)[k+1]? =((Cb es (a+wt es e) r)[k]?).map _
  exact Oc es r _ k (by simpa using h)
theorem Vu {g:GD} (h:Aj g=0) {e:EdgeD} (he:e∈g.es):1<=e.w/\e.w<=4294967296:=by
 unfold Aj at h
 split at h
 ·omega
 ·split at h
  ·omega
  ·split at h
   ·omega
   ·split at h
    ·omega
    ·rename_i h4
     simp only [List.any_eq_true,not_exists,not_and,Bool.not_eq_true,Bool.not_eq_false'] at h4;have:=h4 e he
     simpa [Bj] using this
theorem Tz {g:GD} {l:List Int} (h:Cd g l=true) {e:Int} (he:e∈l):1<=wt g.es e/\wt g.es e<=4294967296/\∃hj:e.toNat<g.es.length,wt g.es e=g.es[e.toNat].w:=by
 have h1:=Ma h he;have hj:e.toNat<g.es.length:=by omega
 have e1:wt g.es e=g.es[e.toNat].w:=by unfold wt;simp [List.getD,hj]
 have:=Vu (Wu h) (Bk5 hj);rw [e1];exact ⟨this.1,this.2,hj,rfl⟩
theorem Qa (es:List EdgeD):∀(l:List Int) (a:Int),(∀e∈l,1<=wt es e/\wt es e<=4294967296)->∀(k:Nat) (x:Int),(Cb es a l)[k]? =some x->a<=x/\x<=a+k*4294967296
 |[],a,_,k,x,hx=>by
  cases k with
  |zero=>simp [Cb] at hx;omega
  |succ k=>simp [Cb] at hx
 |e::r,a,h,0,x,hx=>by simp [Cb] at hx;omega
 |e::r,a,h,k+1,x,hx=>by
  have h1:=h e (by simp);have:=Qa es r (a+wt es e) (fun e' he'=>h e' (by simp [he'])) k x hx;omega
def Ri (g:GD) (l:List Int):Option (List Int):=if Cd g l then some (Cb g.es 0 l) else none
theorem Ah8 {g:GD} {l:List Int} (h:Cd g l=false):Ri g l=none:=by unfold Ri;rw [h];rfl
theorem Jr {g:GD} {l:List Int} (h:Cd g l=true):Ri g l=some (Cb g.es 0 l):=by unfold Ri;rw [h];rfl
def Gu (L:List Int) (n k:Nat):List Int:=L.take (k+1)++List.replicate (n-k) 0
theorem Ao6 (L:List Int) (n k:Nat) (x:Int) (hL:L.length=n+1) (hk:k<n) (hx:L[k+1]? =some x):(Gu L n k).set (k+1) x=Gu L n (k+1):=by
 unfold Gu;have h1:(L.take (k+1)).length=k+1:=by simp;omega
 rw [List.set_append_right _ _ (by omega),h1,Nat.sub_self];have h2:n-k=(n-(k+1))+1:=by omega
 have h3:L.take (k+1+1)=L.take (k+1)++[x]:=by rw [List.take_add_one,hx];rfl
 rw [h2,List.replicate_succ,Bl6,h3,Bn6];rfl
theorem Ao7 (L:List Int) (n k:Nat) (hL:L.length=n+1) (hk:k<=n):(Gu L n k)[k]? =L[k]?:=by
 unfold Gu;rw [Bn2 (by simp;omega),List.getElem?_take,if_pos (by omega)]
theorem Zj (L:List Int) (n:Nat) (h:L[0]? =some 0):Gu L n 0=List.replicate (n+1) 0:=by
 unfold Gu;rw [List.take_add_one,h];simp [List.replicate_succ]
theorem Ao8 (L:List Int) (n:Nat) (hL:L.length=n+1):Gu L n n=L:=by
 unfold Gu;rw [List.take_of_length_le (by omega)];simp
theorem Ws (L:List Int) (n k:Nat) (hL:L.length=n+1) (hk:k<=n):(Gu L n k).length=n+1:=by unfold Gu;simp;omega
def Ak7 (w:World) (r:Option (List Int)) (e:Ending) (w':World):Prop:=
 ∃ao cap,e=.returned (.slice ao (r.getD []).length cap)/\Cel w' ao ((r.getD []).map Bi)/\Below w.heap.size w w'/\(r=none->ao=none/\cap=0)/\(r≠none->∃b o,ao=some ⟨b,o,none⟩)
theorem edges1_any (g:GD) (ao:Option Addr) (cap B:Nat) (v:Int) (w:World) (h0:w.cell? ⟨B,0,none⟩=some (.int .i64 g.n)) (h1:w.cell? ⟨B,1,none⟩=some (.slice ao g.es.length cap)):
  Calls Tryz.prog 196 (#[Ai v]++#[.pointer (some ⟨B,0,none⟩)]) w fun x w'=>x=.returned (.bool (!Ej g.es.length v))/\Below w.heap.size w w':=by
 have X1:=Bj3 (Ao0 g ao cap v)
 generalize Ej g.es.length v=r at*
 go_enter Tryz.func196,Tryz.ntmps196
 go_wp2_with (go_at_call 197;refine (X1.out _).mono ?_;rintro e w1 ⟨rfl,hb1⟩)
 go_ret
 exact ⟨rfl,by repeat (first|exact Below.refl _ _|refine Below.al ?_ _|refine Below.dr ?_ _|refine Below.drew ?_|assumption|(refine Below.st ?_ (by assumption)))⟩
theorem edges_any (g:GD) (ao bo:Option Addr) (cap cb:Nat) (l:List Int) (w:World) (hl:g.es.length<=9223372036854775807) (hll:l.length<=9223372036854775807) (hc:Cel w ao (Ar g.es)) (hd:Cel w bo (l.map Ai)):
  Calls Tryz.prog 140 #[.agg #[.int .i64 g.n,.slice ao g.es.length cap],.slice bo l.length cb] w fun e w'=>e=.returned (.bool (Cd g l))/\Below w.heap.size w w':=by
 have HC:=Bj3 hc
 have HD:=Bj3 hd
 clear hc hd
 have hw2:∀W,Below (w.alloc (Obj.cells #[.int .i64 g.n,.slice ao g.es.length cap] 24)).heap.size (w.alloc (Obj.cells #[.int .i64 g.n,.slice ao g.es.length cap] 24)) W->Mb Tryz.prog 196 #[.pointer (some ⟨w.heap.size,0,none⟩)] Ai (fun e=>!Ej g.es.length e) l W:=by
  intro W0 hb0 W x hb _
  exact edges1_any g ao cap w.heap.size x W (Bj4 hb (Bj4 hb0 (by go_simp))) (Bj4 hb (Bj4 hb0 (by go_simp)))
 have X1:=Bj3 (fun W h=>Dh g ao cap W hl h)
 have X2:=Bj3 (fun W h hb=>Pb 196 #[.pointer (some ⟨w.heap.size,0,none⟩)] (fun e=>!Ej g.es.length e) bo cb l W (enters_of Tryz.func196 (by kernel_rfl) rfl) (hw2 W hb) hll h)
 clear hw2
 unfold Cd
 generalize (l.any fun e=>!Ej g.es.length e)=r2 at*
 cases q1:(Aj g==0) with
 |false=>
  generalize Aj g=r at*
  go_enter Tryz.func140,Tryz.ntmps140
  go_wp2_with (go_at_call 72;refine (X1.out _ (HC.out.go (by repeat (first|exact Below.refl _ _|refine Below.al ?_ _|refine Below.dr ?_ _|refine Below.drew ?_|assumption|(refine Below.st ?_ (by assumption)))))).mono ?_;rintro e w1 ⟨rfl,hb1⟩)
  go_ret
  exact ⟨rfl,by repeat (first|exact Below.refl _ _|refine Below.al ?_ _|refine Below.dr ?_ _|refine Below.drew ?_|assumption|(refine Below.st ?_ (by assumption)))⟩
 |true=>
  generalize Aj g=r at*
  go_enter Tryz.func140,Tryz.ntmps140
  go_wp2_with fail
  refine (X1.out _ (HC.out.go (by repeat (first|exact Below.refl _ _|refine Below.al ?_ _|refine Below.dr ?_ _|refine Below.drew ?_|assumption|(refine Below.st ?_ (by assumption)))))).mono ?_
  rintro e w1 ⟨rfl,hb1⟩
  have HB1:=Bj3 hb1
  go_wp2_with fail
  refine (X2.out _ (HD.out.go (by repeat (first|exact Below.refl _ _|refine Below.al ?_ _|refine Below.dr ?_ _|refine Below.drew ?_|assumption|(refine Below.st ?_ (by assumption))))) hb1).mono ?_
  rintro e w2 ⟨rfl,hb2⟩
  go_wp2
  go_ret
  exact ⟨rfl,by repeat (first|exact Below.refl _ _|refine Below.al ?_ _|refine Below.dr ?_ _|refine Below.drew ?_|assumption|(refine Below.st ?_ (by assumption)))⟩
theorem Zz (g:GD) (ao bo:Option Addr) (cap cb:Nat) (l:List Int) (w:World) (hl:g.es.length<=9223372036854775807) (hll:l.length<=1048576) (hc:Cel w ao (Ar g.es)) (hd:Cel w bo (l.map Ai)):
  Calls Tryz.prog 83 #[.agg #[.int .i64 g.n,.slice ao g.es.length cap],.slice bo l.length cb] w (Ak7 w (Ri g l)):=by
 have HC:=Bj3 hc;have HD:=Bj3 hd;clear hc hd;have X1:=Bj3 (fun W h1 h2=>edges_any g ao bo cap cb l W hl (by omega) h1 h2)
 cases q1:Cd g l with
 |false=>
  have HR:=Bj3 (Ah8 q1);rw [q1] at X1;clear q1;generalize Ri g l=r at*
  go_enter Tryz.func83,Tryz.ntmps83
  go_wp2_with (go_at_call 140;refine (X1.out _ (HC.out.go (by repeat (first|exact Below.refl _ _|refine Below.al ?_ _|refine Below.dr ?_ _|refine Below.drew ?_|assumption|(refine Below.st ?_ (by assumption))))) (HD.out.go (by repeat (first|exact Below.refl _ _|refine Below.al ?_ _|refine Below.dr ?_ _|refine Below.drew ?_|assumption|(refine Below.st ?_ (by assumption)))))).mono ?_;rintro e w1 ⟨rfl,hb1⟩)
  go_ret
  exact ⟨none,0,by rw [HR.out];rfl,by rw [HR.out];exact Cel.nil _ _,by repeat (first|exact Below.refl _ _|refine Below.al ?_ _|refine Below.dr ?_ _|refine Below.drew ?_|assumption|(refine Below.st ?_ (by assumption))),fun _=>⟨rfl,rfl⟩,fun h=>absurd HR.out h⟩
 |true=>
  have HM:=Bj3 (fun e he=>Ma q1 (e:=e) he);have HWT:=Bj3 (fun e he=>Tz q1 (e:=e) he);have HOB:=Bj3 (Qa g.es l 0 (fun e he=>⟨(Tz q1 he).1,(Tz q1 he).2.1⟩));have HR:=Bj3 (Jr q1);rw [q1] at X1;clear q1;have HL:=Bj3 (Cg g.es l 0);have HZ:=Bj3 (Ob g.es l 0);have HS:=Bj3 (Oc g.es l 0);generalize Ri g l=r at*;generalize Cb g.es 0 l=L at*
  go_enter Tryz.func83,Tryz.ntmps83
  go_wp2_with fail
  obtain ⟨W,hW,c0,c1,hsW⟩:∃W,W=w.alloc (Obj.cells #[.int .i64 g.n,.slice ao g.es.length cap] 24)/\W.cell? ⟨w.heap.size,0,none⟩=some (.int .i64 g.n)/\W.cell? ⟨w.heap.size,1,none⟩=some (.slice ao g.es.length cap)/\w.heap.size<W.heap.size:=⟨_,rfl,by go_simp,by go_simp,by simp⟩;rw [<-hW];have HW:=Bj3 (show Below w.heap.size w W by rw [hW];repeat (first|exact Below.refl _ _|refine Below.al ?_ _|refine Below.dr ?_ _|refine Below.drew ?_|assumption|(refine Below.st ?_ (by assumption))));clear hW;refine (X1.out _ (HC.out.go HW.out) (HD.out.go HW.out)).mono ?_;rintro e w1 ⟨rfl,hb1⟩;have m0:=Bj4 hb1 c0;have m1:=Bj4 hb1 c1;have HW1:=Bj3 (HW.out.st hb1);have hs1:w.heap.size<w1.heap.size:=by have:=hb1.size;omega
  clear c0 c1 hb1 hsW HW
  go_wp2_with (at_make;go_must ((with_reducible refine Dx w1.heap.size 37 _ 1 8 Ve Tryz.underlying60 (l.length+1) ?_ ?_ ?_ ?_ ?_ ?_ ?_ ?_);rotate_left 4;(· rfl);(· rfl);(· exact ⟨by simp,by simp,by omega,by omega,by simp⟩);intro wm hown hbl hszm;(have Hmo:=Bj3 hown;have Hmb:=Bj3 hbl;clear hown hbl)))
  have HZ0:=Bj3 (show (madeCells (Value.int .u64 0).cells ((l.length+1)*1)).toList=(Gu L l.length 0).map Bi by
   show (madeCells #[Value.int .u64 0] ((l.length+1)*1)).toList=_
   rw [Nat.mul_one,toList_madeCells_one,Zj L _ HZ.out,List.map_replicate])
  go_loopg [18] l.length (fun gg i wr=>∃k:Nat,k<=l.length/\l.length-k<=gg/\i=.int .i64 k/\w1.heap.size<wr.heap.size/\
   Aside (wr.ownsRow w1.heap.size 37 1 (.slice (some ⟨w1.heap.size,0,none⟩) (l.length+1) (l.length+1)) (l.length+1) ((Gu L l.length k).map Bi)/\Below w1.heap.size w1 wr))
  case atStart=>exact ⟨0,Bj6 _,by omega,rfl,hszm,by have:=Hmo.out;rw [HZ0.out] at this;exact this,Hmb.out⟩
  case round=>
   obtain ⟨k,hk,hg,rfl,hsz,HA⟩:=hrel;clear HZ0;have q0:=Bj4 HA.out.2 m0;have q1:=Bj4 HA.out.2 m1
   by_cases hlt:k<l.length
   ·obtain ⟨b,o,hbo,f1⟩:=(HD.out.go (HW1.out.st HA.out.2)).at hlt
    obtain ⟨hw1,hw2,hj,hw3⟩:=HWT.out l[k] (Bk5 hlt);have hin:=HM.out l[k] (Bk5 hlt);obtain ⟨b2,o2,hao2,j1,j2,j3⟩:=(HC.out.go (HW1.out.st HA.out.2)).edge hj;rw [<-hw3] at j3;clear j1 j2 hw3;have hLk:∃x,L[k]? =some x:=⟨_,Bj8 (by rw [HL.out];omega)⟩;obtain ⟨x,hx⟩:=hLk;have hxb:=HOB.out k x hx;have hx1:=HS.out k hlt;rw [hx] at hx1;have HX1:=Bj3 hx1;have x0:0<=x:=hxb.1;have x1:x+wt g.es l[k]<=4503603922337792:=by
     have:=hxb.2;have h3:(k:Int)*4294967296<=1048576*4294967296:=Int.mul_le_mul_of_nonneg_right (by omega) (by omega);omega
    have i0:0<=l[k]:=hin.1;have i1:l[k]<(g.es.length:Int):=hin.2;have k0:(0:Int)<=(k:Int):=by omega
    have k1:(k:Int)<(l.length:Int):=by omega
    have j4:wr.cell? ⟨w1.heap.size,k,none⟩=some (.int .u64 x):=by
     rw [HA.out.1.cellAt k (by omega),Bl2,Ao7 L _ _ HL.out hk,hx];rfl
    have j5:∃v,wr.cell? ⟨w1.heap.size,k+1,none⟩=some v:=by
     rw [HA.out.1.cellAt (k+1) (by omega),Bj8 (by rw [Bn5,Ws L _ _ HL.out hk];omega)];exact ⟨_,rfl⟩
    obtain ⟨v5,j5⟩:=j5;have j6:=HA.out.1.frozenAt (k+1);have HST:=Bj3 (show (wr.setCell ⟨w1.heap.size,k+1,none⟩ (Bi (x+wt g.es l[k]))).ownsRow w1.heap.size 37 1 (.slice (some ⟨w1.heap.size,0,none⟩) (l.length+1) (l.length+1)) (l.length+1) ((Gu L l.length (k+1)).map Bi) by
     have:=(HA.out.1.stored (k+1) (Bi (x+wt g.es l[k]))).1;rw [<-List.map_set,Ao6 L _ _ _ HL.out hlt hx1] at this;exact this)
    clear hx hx1 hxb hin;generalize wt g.es l[k]=wv at*;generalize l[k]=ei at*;subst hbo hao2
    go_wp2
    go_region
    go_wp2
    go_roundg (l.length-(k+1))
    case measure=>omega
    case rel=>exact ⟨k+1,by omega,by omega,by go_num,by simpa using hsz,HST.out,(HA.out.2.setCell (by simp) _).drew⟩
   ·obtain rfl:k=l.length:=by omega
    go_wp2
    go_ret
    refine ⟨some ⟨w1.heap.size,0,none⟩,l.length+1,by rw [HR.out];simp [HL.out],?_,HW1.out.st HA.out.2,fun h=>by rw [HR.out] at h;(cases h),fun _=>⟨_,_,rfl⟩⟩;obtain ⟨ao3,cap3,e3,h3⟩:=Cel.of_owns HA.out.1
    cases e3
    rw [HR.out];rw [Ao8 L _ HL.out] at h3;exact h3
theorem Qw (g:GD) (ao bo:Option Addr) (cap cb:Nat) (l:List Int) (w:World) (hl:g.es.length<=9223372036854775807) (hll:l.length<=1048576) (hc:Cel w ao (Ar g.es)) (hd:Cel w bo (l.map Ai)):
  Calls Tryz.prog 85 #[.agg #[.int .i64 g.n,.slice ao g.es.length cap],.slice bo l.length cb] w (Ak7 w (Ri g l)):=by
 have HC:=Bj3 hc;have HD:=Bj3 hd;clear hc hd;have X1:=Bj3 (fun W h1 h2=>Vv g ao bo cap cb l W hl (by omega) h1 h2)
 cases q1:Cd g l with
 |false=>
  have HR:=Bj3 (Ah8 q1);rw [q1] at X1;clear q1;generalize Ri g l=r at*
  go_enter Tryz.func85,Tryz.ntmps85
  go_wp2_with (go_at_call 95;refine (X1.out _ (HC.out.go (by repeat (first|exact Below.refl _ _|refine Below.al ?_ _|refine Below.dr ?_ _|refine Below.drew ?_|assumption|(refine Below.st ?_ (by assumption))))) (HD.out.go (by repeat (first|exact Below.refl _ _|refine Below.al ?_ _|refine Below.dr ?_ _|refine Below.drew ?_|assumption|(refine Below.st ?_ (by assumption)))))).mono ?_;rintro e w1 ⟨rfl,hb1⟩)
  go_ret
  exact ⟨none,0,by rw [HR.out];rfl,by rw [HR.out];exact Cel.nil _ _,by repeat (first|exact Below.refl _ _|refine Below.al ?_ _|refine Below.dr ?_ _|refine Below.drew ?_|assumption|(refine Below.st ?_ (by assumption))),fun _=>⟨rfl,rfl⟩,fun h=>absurd HR.out h⟩
 |true=>
  have HM:=Bj3 (fun e he=>Ma q1 (e:=e) he);have HWT:=Bj3 (fun e he=>Tz q1 (e:=e) he);have HOB:=Bj3 (Qa g.es l 0 (fun e he=>⟨(Tz q1 he).1,(Tz q1 he).2.1⟩));have HR:=Bj3 (Jr q1);rw [q1] at X1;clear q1;have HL:=Bj3 (Cg g.es l 0);have HZ:=Bj3 (Ob g.es l 0);have HS:=Bj3 (Oc g.es l 0);generalize Ri g l=r at*;generalize Cb g.es 0 l=L at*
  go_enter Tryz.func85,Tryz.ntmps85
  go_wp2_with fail
  obtain ⟨W,hW,c0,c1,hsW⟩:∃W,W=w.alloc (Obj.cells #[.int .i64 g.n,.slice ao g.es.length cap] 24)/\W.cell? ⟨w.heap.size,0,none⟩=some (.int .i64 g.n)/\W.cell? ⟨w.heap.size,1,none⟩=some (.slice ao g.es.length cap)/\w.heap.size<W.heap.size:=⟨_,rfl,by go_simp,by go_simp,by simp⟩;rw [<-hW];have HW:=Bj3 (show Below w.heap.size w W by rw [hW];repeat (first|exact Below.refl _ _|refine Below.al ?_ _|refine Below.dr ?_ _|refine Below.drew ?_|assumption|(refine Below.st ?_ (by assumption))));clear hW;refine (X1.out _ (HC.out.go HW.out) (HD.out.go HW.out)).mono ?_;rintro e w1 ⟨rfl,hb1⟩;have m0:=Bj4 hb1 c0;have m1:=Bj4 hb1 c1;have HW1:=Bj3 (HW.out.st hb1);have hs1:w.heap.size<w1.heap.size:=by have:=hb1.size;omega
  clear c0 c1 hb1 hsW HW
  go_wp2
  have HO1:=Bj3 (World.ownsRow_lit (base:=w1.heap.size) (e:=37) (size:=1) w1 #[.int .u64 0] 1 (Bj5 _) (by decide) rfl)
  go_loopg [5,6] l.length (fun gg v i wr=>∃(k cap' b3:Nat),k<=l.length/\l.length-k<=gg/\i=.int .i64 k/\v=.slice (some ⟨b3,0,none⟩) (k+1) cap'/\w1.heap.size<=wr.heap.size/\w1.heap.size<=b3/\
   Aside (wr.ownsRow w1.heap.size 37 1 (.slice (some ⟨b3,0,none⟩) (k+1) cap') (k+1) ((L.take (k+1)).map Bi)/\Below w1.heap.size w1 wr))
  case atStart=>exact ⟨0,1,w1.heap.size,Bj6 _,by omega,rfl,rfl,by simp,Bj5 _,by rw [show L.take (0+1)=[0] by rw [List.take_add_one,HZ.out];rfl];exact HO1.out,Below.of_al _ _⟩
  case round=>
   clear HO1;obtain ⟨k,cap',b3,hk,hg,rfl,rfl,hsz,hb3,HA⟩:=hrel;have q0:=Bj4 HA.out.2 m0;have q1:=Bj4 HA.out.2 m1
   by_cases hlt:k<l.length
   ·obtain ⟨b,o,hbo,f1⟩:=(HD.out.go (HW1.out.st HA.out.2)).at hlt
    obtain ⟨hw1,hw2,hj,hw3⟩:=HWT.out l[k] (Bk5 hlt);have hin:=HM.out l[k] (Bk5 hlt);obtain ⟨b2,o2,hao2,j1,j2,j3⟩:=(HC.out.go (HW1.out.st HA.out.2)).edge hj;rw [<-hw3] at j3;clear j1 j2 hw3;have hLk:∃x,L[k]? =some x:=⟨_,Bj8 (by rw [HL.out];omega)⟩;obtain ⟨x,hx⟩:=hLk;have hxb:=HOB.out k x hx;have hx1:=HS.out k hlt;rw [hx] at hx1;have HX1:=Bj3 hx1;have x0:0<=x:=hxb.1;have x1:x+wt g.es l[k]<=4503603922337792:=by
     have:=hxb.2;have h3:(k:Int)*4294967296<=1048576*4294967296:=Int.mul_le_mul_of_nonneg_right (by omega) (by omega);omega
    have i0:0<=l[k]:=hin.1;have i1:l[k]<(g.es.length:Int):=hin.2;have k0:(0:Int)<=(k:Int):=by omega
    have k1:(k:Int)<(l.length:Int):=by omega
    have j4:wr.cell? ⟨b3,k,none⟩=some (.int .u64 x):=by
     rw [HA.out.1.cellAt k (by omega),Bl2,List.getElem?_take,if_pos (by omega),hx];rfl
    have HT:=Bj3 (show L.take (k+1+1)=L.take (k+1)++[x+wt g.es l[k]] by rw [List.take_add_one,hx1];rfl);clear hx hx1 hxb hin;generalize wt g.es l[k]=wv at*;generalize l[k]=ei at*;subst hbo hao2;have i2:0<=x+wv:=by omega
    have k3:(k:Int)<(k:Int)+1:=by omega
    have k4:(k:Int)<((k+1:Nat):Int):=by omega
    go_wp2
    go_region_law ((refine As6 (by rfl) _ _ _ (by rfl) w1.heap.size 37 _ 1 8 Ve Tryz.underlying60 _ (k+1) _ _ 1 1 _ (by rfl) (by rfl) ((HA.out.1.drew).alloc _) (cell_one_new _ _ _) (Cv rfl) ⟨rfl,by decide,by omega,by omega,by simp;omega⟩ ?_;intro g4 cap4 w4 hown4 hg4 hb4))
    all_goals
     go_wp2
     go_roundg (l.length-(k+1))
     case measure=>omega
     case rel=>
      refine ⟨k+1,cap4,g4,by omega,by omega,by go_num,rfl,by have:=hb4.size;simp at this;omega,hg4,⟨?_,HA.out.2.trans ((Below.alloc (Below.drew (Below.refl _ _)) (by simp;omega) _).trans hb4)⟩⟩;rw [HT.out,Bn4];rw [IntWalk.u64_in (x+wv) (by omega)] at hown4;exact hown4
   ·obtain rfl:k=l.length:=by omega
    go_wp2
    go_ret
    refine ⟨some ⟨b3,0,none⟩,cap',by rw [HR.out];simp [HL.out],?_,HW1.out.st HA.out.2,fun h=>by rw [HR.out] at h;(cases h),fun _=>⟨_,_,rfl⟩⟩;obtain ⟨ao3,cap3,e3,h3⟩:=Cel.of_owns HA.out.1
    cases e3
    rw [HR.out];rw [List.take_of_length_le (by rw [HL.out];omega)] at h3;exact h3
def Ag6 (g:GD) (l:List Int):Option Int:=(Ri g l).map fun L=>(L[l.length]?).getD 0
def isB (g:GD) (s t:Int) (l:List Int):Bool:=match Wi g s l with|some O=>((O[O.length-1]?).getD 0==t)|none=>false
theorem Ar4 (g:GD) (ao:Option Addr) (cap:Nat) (w:World):
  Calls Tryz.prog 31 #[.agg #[.int .i64 g.n,.slice ao g.es.length cap]] w fun e w'=>e=.returned (.bool ((decide (g.n<=100)||decide (4096<g.n))&&decide ((g.es.length:Int)<=300)))/\Below w.heap.size w w':=by
 go_enter Tryz.func31,Tryz.ntmps31
 by_cases h1:g.n<=100<;>by_cases h2:4096<g.n<;>by_cases h3:(g.es.length:Int)<=300
 all_goals
  first
   |(exfalso;omega)
   |(go_wp2;go_ret;exact ⟨by simp [h1,h2,h3]<;>omega,by repeat (first|exact Below.refl _ _|refine Below.al ?_ _|refine Below.dr ?_ _|refine Below.drew ?_|assumption|(refine Below.st ?_ (by assumption)))⟩)
end
section
open Go Go.Proofs Go.RowKit Go.Shelf Hp Ch
inductive PE (es:List EdgeD):Int->List Int->Int->Int->List Int->Prop
 |one {e:Int} {y:EdgeD} (h0:0<=e) (h:es[e.toNat]? =some y):PE es y.f [e] y.t y.w []
 |two {u m v d d':Int} {l l' I I':List Int} (h:PE es u l m d I) (h':PE es m l' v d' I'):PE es u (l++l') v (d+d') (I++m::I')
theorem PE.walk {es:List EdgeD} {u v d:Int} {l I:List Int} (h:PE es u l v d I):∀out r,Je es u out (l++r)=Je es v (out++I++[v]) r:=by
 induction h with
 |one h0 h=>
  intro out r
  rename_i e y
  have he:es.getD e.toNat edD=y:=by rw [Bj9,h];rfl
  show Je es y.f out (e::r)=_
  rw [Je,he,if_pos rfl,List.append_nil]
 |two h h' ih ih'=>
  intro out r;rw [Bn6,ih,ih']
  congr 1
  simp
theorem PE.mem {es:List EdgeD} {u v d:Int} {l I:List Int} (h:PE es u l v d I):∀e∈l,0<=e/\e<(es.length:Int):=by
 induction h with
 |one h0 h=>
  intro e he;obtain rfl:=Bl0.1 he;have:=(Bk6.1 h).1;omega
 |two h h' ih ih'=>
  intro e he
  rcases Bm6.1 he with he|he
  ·exact ih e he
  ·exact ih' e he
theorem PE.sum {es:List EdgeD} {u v d:Int} {l I:List Int} (h:PE es u l v d I):(l.map (wt es)).sum=d:=by
 induction h with
 |one h0 h=>
  rename_i e y
  have he:es.getD e.toNat edD=y:=by rw [Bj9,h];rfl
  show (es.getD e.toNat edD).w+0=y.w
  rw [he];exact Int.add_zero _
 |two h h' ih ih'=>rw [Bn4,List.sum_append,ih,ih']
theorem PE.ne {es:List EdgeD} {u v d:Int} {l I:List Int} (h:PE es u l v d I):l≠[]:=by
 induction h with
 |one h0 h=>simp
 |two h h' ih ih'=>simp [ih]
theorem Od (es:List EdgeD):∀(l:List Int) (a:Int),(Cb es a l)[l.length]? =some (a+(l.map (wt es)).sum)
 |[],a=>by simp [Cb]
 |e::r,a=>by
  show (Cb es (a+wt es e) r)[r.length]? =_
  rw [Od es r];simp;omega
theorem Kr {g:GD} {l:List Int} (hg:Aj g=0) (h:∀e∈l,0<=e/\e<(g.es.length:Int)):Cd g l=true:=by
 unfold Cd;rw [hg];simp only [beq_self_eq_true,Bool.true_and,Bool.not_eq_true',List.any_eq_false];intro e he;have:=h e he;simp [Ej];omega
theorem PE.weight {g:GD} {u v d:Int} {l I:List Int} (hg:Aj g=0) (h:PE g.es u l v d I):Ag6 g l=some d:=by
 unfold Ag6;rw [Jr (Kr hg h.mem),Option.map_some,Od,h.sum];simp
theorem PE.nodes {g:GD} {u v d:Int} {l I:List Int} (hg:Aj g=0) (h:PE g.es u l v d I) (hu:Dc g.n u=true):Wi g u l=some ([u]++I++[v]):=by
 rw [Ac2 (Kr hg h.mem) hu];have:=h.walk [u] [];rw [List.append_nil] at this;rw [this,Je]
theorem PE.is {g:GD} {u v d:Int} {l I:List Int} (hg:Aj g=0) (h:PE g.es u l v d I) (hu:Dc g.n u=true):isB g u v l=true:=by
 unfold isB;rw [h.nodes hg hu];simp
end
section
namespace Vi
open Go Go.Proofs Go.RowKit Go.Shelf Hp Ch Ad Ro Dj
def Fo (f:Nat->Bool):Nat->Nat
 |0=>0
 |k+1=>if f k then Fo f k+1 else 0
def Ay (f:Nat->Bool):Nat->Nat->Nat
 |_,0=>0
 |c,d+1=>if f c then Ay f (c+1) d+1 else 0
theorem Yq {f:Nat->Bool} {k:Nat} (h:f k=true):Fo f (k+1)=Fo f k+1:=if_pos h
theorem Ai3 {f:Nat->Bool} {k:Nat} (h:f k=false):Fo f (k+1)=0:=if_neg (by simp [h])
theorem Kk {f:Nat->Bool} {c d:Nat} (h:f c=true):Ay f c (d+1)=Ay f (c+1) d+1:=if_pos h
theorem Mv {f:Nat->Bool} {c d:Nat} (h:f c=false):Ay f c (d+1)=0:=if_neg (by simp [h])
theorem Bh8 {n:Nat} {es:List EdgeD} {D:Int->Int} {t:Int} (hA:∀u v w,Am es u v w->Ac n u/\Ac n v/\1<=w) (hD:ToD es n t D) {v:Int} {l:List Int} (h:RP es D v l):Ac n v->(l=[]/\v=t/\D v=0)\/∃I,PE es v l t (D v) I:=by
 induction h with
 |@stop v h=>
  intro hv;refine .inl ⟨rfl,?_,h⟩
  rcases hD v hv with ⟨hd,_,_⟩|⟨hd,_⟩
  ·rcases hd.1 with ⟨e,_⟩|h1
   ·exact e
   ·have:=h1.pos (fun u v w h=>(hA u v w h).2.2)
    omega
  ·rw [h] at hd
   exact absurd hd (by decide)
 |@go v i l hf h0 hr ih=>
  intro hv;obtain ⟨hi,hfv,⟨hg1,hg2⟩,_⟩:=hf;have hty:=hA es[i].f es[i].t es[i].w ⟨es[i],Bk5 hi,rfl,rfl,rfl⟩;have hgd:es.getD i edZ=es[i]:=by simp [List.getD,hi]
  have h1:PE es v [(i:Int)] es[i].t es[i].w []:=by
   have:=PE.one (es:=es) (e:=(i:Int)) (y:=es[i]) (by omega) (by rw [Bk7,Bj8 hi]);rw [hfv] at this;exact this
  rw [hgd] at ih hr
  rcases ih hty.2.1 with ⟨rfl,e,hz⟩|⟨I,hI⟩
  ·refine .inr ⟨[],?_⟩
   have:D v=es[i].w:=by rw [<-hfv];omega
   rw [this,<-e];exact h1
  ·refine .inr ⟨[]++es[i].t::I,?_⟩
   have:D v=es[i].w+D es[i].t:=by rw [<-hfv];omega
   rw [this];exact .two h1 hI
theorem Hz {n:Nat} {es:List EdgeD} (hA:∀u v w,Am es u v w->Ac n u/\Ac n v/\1<=w) {s t:Int} {l:List Int} {x:Int} (h:Bk n es s t l x 0):(l=[]/\s=t/\x=0)\/∃I,PE es s l t x I:=by
 rcases h with ⟨_,hs,ht,hd,_,D,hD,hR⟩|⟨h,_⟩
 ·have hx:x=D s:=by
   rcases hD s hs with ⟨h1,_,_⟩|⟨_,h1⟩
   ·exact hd.uniq h1
   ·exact absurd hd.1 (h1 _)
  rw [hx];exact Bh8 hA hD hR hs
 ·exact absurd rfl h
theorem As5 {n:Nat} {es:List EdgeD} (hA:∀u v w,Am es u v w->Ac n u/\Ac n v/\1<=w) {s v t:Int} {l1 l2:List Int} {x1 x2:Int} (h1:Bk n es s v l1 x1 0) (h2:Bk n es v t l2 x2 0):(l1++l2=[]/\s=t/\x1+x2=0)\/∃I,PE es s (l1++l2) t (x1+x2) I:=by
 rcases Hz hA h1 with ⟨rfl,rfl,rfl⟩|⟨I,hI⟩
 ·rw [List.nil_append,Int.zero_add]
  exact Hz hA h2
 ·rcases Hz hA h2 with ⟨rfl,rfl,rfl⟩|⟨J,hJ⟩
  ·rw [List.append_nil,Int.add_zero]
   exact .inr ⟨I,hI⟩
  ·exact .inr ⟨_,.two hI hJ⟩
theorem Ag7 {n:Nat} {es:List EdgeD} (hA:∀u v w,Am es u v w->Ac n u/\Ac n v/\1<=w) {s v t:Int} {l1 l2:List Int} {x1 x2:Int} (h1:Bk n es s v l1 x1 0) (h2:Bk n es v t l2 x2 0):∀e∈l1++l2,0<=e/\e<(es.length:Int):=by
 rcases As5 hA h1 h2 with ⟨e,_⟩|⟨I,hI⟩
 ·rw [e]
  intro e he
  cases he
 ·exact hI.mem
theorem Ba5 {n:Nat} {es:List EdgeD} (hA:∀u v w,Am es u v w->Ac n u/\Ac n v/\1<=w) {s v t:Int} {l1 l2:List Int} {x1 x2:Int} (h1:Bk n es s v l1 x1 0) (h2:Bk n es v t l2 x2 0):((l1++l2).map (wt es)).sum=x1+x2:=by
 rcases As5 hA h1 h2 with ⟨e,_,h⟩|⟨I,hI⟩
 ·rw [e,h]
  rfl
 ·exact hI.sum
theorem ByIs.uniq {n:Nat} {es:List EdgeD} (hA:∀u v w,Am es u v w->Ac n u/\Ac n v/\1<=w) {s v t V V':Int} {l l':List Int} {x c k x' c' k':Int} (h:ByIs n es s v t V l x c k) (h':ByIs n es s v t V' l' x' c' k'):V=V'/\l=l'/\x=x'/\c=c'/\k=k':=by
 have key:∀{l1 l2 x1 x2},Bk n es s v l1 x1 0->Bk n es v t l2 x2 0->((¬(Ac n s/\Ac n v/\Ac n t))\/(∀e,¬Way0 (Am es) Any s v e)\/∀e,¬Way0 (Am es) Any v t e)->False:=by
  intro l1 l2 x1 x2 r1 r2 hh
  rcases r1 with ⟨_,a1,a2,a3,_⟩|⟨a1,_⟩
  ·rcases r2 with ⟨_,b1,b2,b3,_⟩|⟨b1,_⟩
   ·rcases hh with hh|hh|hh
    ·exact hh ⟨a1,a2,b2⟩
    ·exact hh _ a3.1
    ·exact hh _ b3.1
   ·exact b1 rfl
  ·exact a1 rfl
 rcases h with ⟨rfl,rfl,l1,l2,x1,x2,r1,r2,rfl,rfl,rfl⟩|⟨hk,rfl,rfl,rfl,rfl,h⟩
 ·rcases h' with ⟨rfl,rfl,m1,m2,y1,y2,q1,q2,rfl,rfl,rfl⟩|⟨_,_,_,_,_,h'⟩
  ·obtain ⟨rfl,rfl,_⟩:=Ml hA r1 q1
   obtain ⟨rfl,rfl,_⟩:=Ml hA r2 q2;exact ⟨rfl,rfl,rfl,rfl,rfl⟩
  ·refine (key r1 r2 ?_).elim
   rcases h' with ⟨_,h'⟩|⟨_,_,_,_,h'⟩
   ·exact .inl h'
   ·exact .inr h'
 ·rcases h' with ⟨rfl,rfl,m1,m2,y1,y2,q1,q2,rfl,rfl,rfl⟩|⟨_,rfl,rfl,rfl,rfl,h'⟩
  ·refine (key q1 q2 ?_).elim
   rcases h with ⟨_,h⟩|⟨_,_,_,_,h⟩
   ·exact .inl h
   ·exact .inr h
  ·refine ⟨rfl,rfl,rfl,rfl,?_⟩
   rcases h with ⟨rfl,h⟩|⟨rfl,a,b,c,h⟩<;>rcases h' with ⟨rfl,h'⟩|⟨rfl,a',b',c',h'⟩
   ·rfl
   ·exact absurd ⟨a',b',c'⟩ h
   ·exact absurd ⟨a,b,c⟩ h'
   ·rfl
theorem Wh (es:List EdgeD):∀(l:List Int) (a:Int),(∀e∈l,1<=wt es e)->∀(k:Nat) (x:Int),(Cb es a l)[k]? =some x->a<=x/\x<=a+(l.map (wt es)).sum
 |[],a,_,k,x,h=>by
  cases k with
  |zero=>simp [Cb] at h;simp;omega
  |succ k=>simp [Cb] at h
 |e::r,a,hw,0,x,h=>by
  have h0:a=x:=by simpa [Cb] using h
  have h1:=Wh es r (a+wt es e) (fun e' he'=>hw e' (by simp [he'])) r.length _ (Od es r _);have h2:=hw e (by simp);simp only [List.map_cons,List.sum_cons];omega
 |e::r,a,hw,k+1,x,h=>by
  have h1:=Wh es r (a+wt es e) (fun e' he'=>hw e' (by simp [he'])) k x (by simpa [Cb] using h);have h2:=hw e (by simp);simp only [List.map_cons,List.sum_cons];omega
theorem Vc {n:Nat} {es:List EdgeD} {bk:Bool} {s:Int} {l l':List Int} (h:FarL es bk n s l) (h':FarL es bk n s l'):l=l':=by
 refine List.ext_getElem? fun v=>?_
 rcases Nat.lt_or_ge v n with hv|hv
 ·rcases h.2 v hv with ⟨d,h1,h2⟩|⟨h1,h2⟩<;>rcases h'.2 v hv with ⟨d',k1,k2⟩|⟨k1,k2⟩
  ·rw [h2,k2,h1.uniq k1]
  ·exact absurd h1.1 (k1 _)
  ·exact absurd k1.1 (h1 _)
  ·rw [h2,k2]
 ·rw [Bn0 (by rw [h.1];exact hv),Bn0 (by rw [h'.1];exact hv)]
end Vi
end
end Go.Proofs.YteaaapdjplbljaaGreat
