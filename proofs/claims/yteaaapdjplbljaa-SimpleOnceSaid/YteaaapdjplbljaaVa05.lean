/- Walks: the reference's Right and edges. -/
import Derived.Test.YteaaapdjplbljaaProg
import Derived.Test.YteaaapdjplbljaaVa04
set_option linter.unusedVariables false
set_option linter.unusedSimpArgs false
set_option linter.unnecessarySimpa false
namespace Go.Proofs.Yteaaapdjplbljaa
open Go.Proofs Go.RowKit Go.Shelf
theorem any_from {α:Type} {p:α→Bool} {l:List α} (h:∀j (h:j<l.length),p l[j]=false):l.any p=false:=by
 rw [List.any_eq_false]
 intro x hx
 obtain ⟨j,hj,rfl⟩:=List.getElem_of_mem hx
 simp [h j hj]
theorem any_at {α:Type} {p:α→Bool} {l:List α} {j:Nat} (hj:j<l.length) (h:p l[j]=true):l.any p=true:=List.any_eq_true.2 ⟨_,List.getElem_mem hj,h⟩
theorem upto_succ {α:Type} {p:α→Bool} {l:List α} {k:Nat} (h:∀j (h:j<l.length),j<k→p l[j]=false) (hk:k<l.length) (hp:p l[k]=false):∀j (h:j<l.length),j<k+1→p l[j]=false:=by
 intro j hj h2
 by_cases e:j=k
 ·subst e;exact hp
 ·exact h j hj (by omega)
theorem looseB_eq (n:Int) (e:EdgeD) {a b c:Bool} (h1:nodeB n e.f=a) (h2:nodeB n e.t=b) (h3:(e.f==e.t)=c):looseB n e=(!a||!b||c):=by unfold looseB;rw [h1,h2,h3]
set_option maxHeartbeats 4000000 in
theorem refRightG_any (g:GD) (ao:Option Addr) (cap:Nat) (w:World) (hl:g.es.length≤9223372036854775807) (hc:Cel w ao (flat g.es)):
  Calls Try.prog 36 #[.agg #[.int .i64 g.n,.slice ao g.es.length cap]] w fun e w'=>e=.returned (.int .i64 (rightG g))∧Below w.heap.size w w':=by
 have HC:=Lib.hid hc
 clear hc
 have G1:=Lib.hid (@rightG_1 g)
 have G2:=Lib.hid (@rightG_2 g)
 have G3:=Lib.hid (@rightG_3 g)
 have G4:=Lib.hid (@rightG_4 g)
 have G5:=Lib.hid (@rightG_5 g)
 generalize rightG g=r at*
 by_cases h1:g.n<1
 ·have HR:=Lib.hid (G1.out (.inl h1))
  go_enter Try.func36,Try.ntmps36
  go_wp2
  go_ret
  exact ⟨by rw [HR.out];rfl,by repeat (first|exact Below.refl _ _|refine Below.al ?_ _|refine Below.dr ?_ _|refine Below.drew ?_|assumption|(refine Below.st ?_ (by assumption)))⟩
 ·by_cases h2:4096<g.n
  ·have HR:=Lib.hid (G1.out (.inr h2))
   go_enter Try.func36,Try.ntmps36
   go_wp2
   go_ret
   exact ⟨by rw [HR.out];rfl,by repeat (first|exact Below.refl _ _|refine Below.al ?_ _|refine Below.dr ?_ _|refine Below.drew ?_|assumption|(refine Below.st ?_ (by assumption)))⟩
  ·by_cases h3:16384<g.es.length
   ·have HR:=Lib.hid (G2.out h1 h2 h3)
    go_enter Try.func36,Try.ntmps36
    go_wp2
    go_ret
    exact ⟨by rw [HR.out];rfl,by repeat (first|exact Below.refl _ _|refine Below.al ?_ _|refine Below.dr ?_ _|refine Below.drew ?_|assumption|(refine Below.st ?_ (by assumption)))⟩
   ·have HH:=Lib.hid (And.intro h1 (And.intro h2 h3))
    go_enter Try.func36,Try.ntmps36
    go_wp2
    obtain ⟨W,hW,c0,c1,hsW⟩:∃W,W=w.alloc (Obj.cells #[.int .i64 g.n,.slice ao g.es.length cap] 24)∧W.cell? ⟨w.heap.size,0,none⟩=some (.int .i64 g.n)∧W.cell? ⟨w.heap.size,1,none⟩=some (.slice ao g.es.length cap)∧w.heap.size<W.heap.size:=⟨_,rfl,by go_simp,by go_simp,by simp⟩
    rw [←hW]
    have HW:=Lib.hid (show Below w.heap.size w W by rw [hW];repeat (first|exact Below.refl _ _|refine Below.al ?_ _|refine Below.dr ?_ _|refine Below.drew ?_|assumption|(refine Below.st ?_ (by assumption))))
    clear hW
    go_loopg [3] g.es.length (fun gg i wr=>∃k:Nat,k≤g.es.length∧g.es.length-k≤gg∧i=.int .i64 k∧Aside (Below W.heap.size W wr)∧Aside (∀j (h:j<g.es.length),j<k→looseB g.n g.es[j]=false))
    case atStart=>exact ⟨0,Nat.zero_le _,by omega,rfl,Below.refl _ _,fun j _ h=>absurd h (Nat.not_lt_zero _)⟩
    case round=>
     obtain ⟨k,hk,hg,rfl,HB,HA⟩:=hrel
     have m0:=cell_later HB.out c0
     have m1:=cell_later HB.out c1
     by_cases hlt:k<g.es.length
     ·have hlt3:(k:Int)<(g.es.length:Int):=by omega
      have hk0:(0:Int)≤(k:Int):=by omega
      obtain ⟨b,o,hao,f1,f2,f3⟩:=((HC.out.go HW.out).go HB.out).edge hlt
      have HN:=Lib.hid (fun h=>upto_succ HA.out hlt h)
      have HY:=Lib.hid (fun h=>@any_at _ (looseB g.n) g.es k hlt h)
      generalize g.es[k]=x at*
      subst hao
      have X1:=Lib.hid (fun p=>refnode_any g (some ⟨b,o,none⟩) cap x.f (ext wr p))
      have X2:=Lib.hid (fun p=>refnode_any g (some ⟨b,o,none⟩) cap x.t (ext wr p))
      have e0:=fun p=>cell_ext p m0
      have e1:=fun p=>cell_ext p m1
      have e2:=fun p=>cell_ext p f1
      have e3:=fun p=>cell_ext p f2
      cases q1:nodeB g.n x.f with
      |false=>
       have HL:=Lib.hid (show looseB g.n x=true by rw [looseB_eq g.n x q1 rfl rfl];rfl)
       rw [q1] at X1
       have HR:=Lib.hid (G3.out h1 h2 h3 (HY.out HL.out))
       clear f1 f2 f3
       go_wp2
       refine wp_region_ext (by kernel_rfl) (by kernel_rfl) ?_
       repeat (go_big_quiet_step (first
        |(go_at_call_of 54 (Value.int .i64 x.f);exact Calls.ext_of (X1.out _))
        |(go_at_call_of 54 (Value.int .i64 x.t);exact Calls.ext_of (X2.out _))))
       refine wpQuiet_nil ?_
       rintro _ ⟨pq,rfl⟩
       have HBq:=Lib.hid (below_ext wr pq)
       generalize ext wr pq=wq at HBq ⊢
       go_wp2
       go_ret
       exact ⟨by rw [HR.out];rfl,(HW.out.st HB.out).st HBq.out⟩
      |true=>
       rw [q1] at X1
       cases q2:nodeB g.n x.t with
       |false=>
        have HL:=Lib.hid (show looseB g.n x=true by rw [looseB_eq g.n x q1 q2 rfl];rfl)
        rw [q2] at X2
        have HR:=Lib.hid (G3.out h1 h2 h3 (HY.out HL.out))
        clear f1 f2 f3
        go_wp2
        refine wp_region_ext (by kernel_rfl) (by kernel_rfl) ?_
        repeat (go_big_quiet_step (first
         |(go_at_call_of 54 (Value.int .i64 x.f);exact Calls.ext_of (X1.out _))
         |(go_at_call_of 54 (Value.int .i64 x.t);exact Calls.ext_of (X2.out _))))
        refine wpQuiet_nil ?_
        rintro _ ⟨pq,rfl⟩
        have HBq:=Lib.hid (below_ext wr pq)
        generalize ext wr pq=wq at HBq ⊢
        go_wp2
        go_ret
        exact ⟨by rw [HR.out];rfl,(HW.out.st HB.out).st HBq.out⟩
       |true=>
        rw [q2] at X2
        cases q3:(x.f==x.t) with
        |true=>
         have HL:=Lib.hid (show looseB g.n x=true by rw [looseB_eq g.n x q1 q2 q3];rfl)
         have HR:=Lib.hid (G3.out h1 h2 h3 (HY.out HL.out))
         clear f1 f2 f3
         go_wp2
         refine wp_region_ext (by kernel_rfl) (by kernel_rfl) ?_
         repeat (go_big_quiet_step (first
          |(go_at_call_of 54 (Value.int .i64 x.f);exact Calls.ext_of (X1.out _))
          |(go_at_call_of 54 (Value.int .i64 x.t);exact Calls.ext_of (X2.out _))))
         refine wpQuiet_nil ?_
         rintro _ ⟨pq,rfl⟩
         have HBq:=Lib.hid (below_ext wr pq)
         generalize ext wr pq=wq at HBq ⊢
         go_wp2
         go_ret
         exact ⟨by rw [HR.out];rfl,(HW.out.st HB.out).st HBq.out⟩
        |false=>
         have HL:=Lib.hid (show looseB g.n x=false by rw [looseB_eq g.n x q1 q2 q3];rfl)
         clear q1 q2 f1 f2 f3
         go_wp2
         refine wp_region_ext (by kernel_rfl) (by kernel_rfl) ?_
         repeat (go_big_quiet_step (first
          |(go_at_call_of 54 (Value.int .i64 x.f);exact Calls.ext_of (X1.out _))
          |(go_at_call_of 54 (Value.int .i64 x.t);exact Calls.ext_of (X2.out _))))
         refine wpQuiet_nil ?_
         rintro _ ⟨pq,rfl⟩
         have HBq:=Lib.hid (below_ext wr pq)
         generalize ext wr pq=wq at HBq ⊢
         go_wp2
         go_roundg (g.es.length-(k+1))
         case measure=>omega
         case rel=>exact ⟨k+1,by omega,by omega,by go_num,HB.out.st HBq.out,HN.out HL.out⟩
     ·obtain rfl:k=g.es.length:=by omega
      have q1:=any_from (fun j h=>HA.out j h h)
      go_wp2
      go_loopg [4] g.es.length (fun gg i wr2=>∃k:Nat,k≤g.es.length∧g.es.length-k≤gg∧i=.int .i64 k∧Aside (Below W.heap.size W wr2)∧Aside (∀j (h:j<g.es.length),j<k→(!weightB g.es[j].w)=false))
      case atStart=>exact ⟨0,Nat.zero_le _,by omega,rfl,HB.out,fun j _ h=>absurd h (Nat.not_lt_zero _)⟩
      case round=>
       clear HB HA m0 m1 hlt hg hk
       have Q1:=Lib.hid q1
       clear q1
       obtain ⟨k,hk,hg,rfl,HB,HA⟩:=hrel
       have m0:=cell_later HB.out c0
       have m1:=cell_later HB.out c1
       by_cases hlt:k<g.es.length
       ·obtain ⟨b,o,hao,f1,f2,f3⟩:=((HC.out.go HW.out).go HB.out).edge hlt
        have HN:=Lib.hid (fun h=>@upto_succ _ (fun e=>!weightB e.w) g.es k HA.out hlt h)
        have HY:=Lib.hid (fun h=>@any_at _ (fun e=>!weightB e.w) g.es k hlt h)
        generalize g.es[k]=x at*
        subst hao
        have X1:=Lib.hid (refweight_any x.w)
        cases q2:(weightB x.w) with
        |true=>
         have HL:=Lib.hid (show (!weightB x.w)=false by rw [q2];rfl)
         rw [q2] at X1
         clear q2
         go_wp2_with (go_at_call 55;refine (X1.out _).mono ?_;rintro e w1 ⟨rfl,rfl⟩)
         go_roundg (g.es.length-(k+1))
         case measure=>omega
         case rel=>exact ⟨k+1,by omega,by omega,by go_num,HB.out,HN.out HL.out⟩
        |false=>
         have HR:=Lib.hid (G4.out HH.out.1 HH.out.2.1 HH.out.2.2 Q1.out (HY.out (show (!weightB x.w)=true by rw [q2];rfl)))
         rw [q2] at X1
         clear q2
         go_wp2_with (go_at_call 55;refine (X1.out _).mono ?_;rintro e w1 ⟨rfl,rfl⟩)
         go_ret
         exact ⟨by rw [HR.out];rfl,HW.out.st HB.out⟩
       ·obtain rfl:k=g.es.length:=by omega
        have HR:=Lib.hid (G5.out HH.out.1 HH.out.2.1 HH.out.2.2 Q1.out (any_from (fun j h=>HA.out j h h)))
        go_wp2
        go_ret
        exact ⟨by rw [HR.out];rfl,HW.out.st HB.out⟩
theorem edgesB_1 {g:GD} {l:List Int} (h:(rightG g != 0)=true):edgesB g l=false:=by
 have h2:(rightG g==0)=false:=by simpa using h
 unfold edgesB
 rw [h2];rfl
theorem edgesB_2 {g:GD} {l:List Int} (h:(rightG g != 0)=false):edgesB g l=!(l.any fun e=>!edgeB g.es.length e):=by
 have h2:(rightG g==0)=true:=by simpa using h
 unfold edgesB
 rw [h2];rfl
set_option maxHeartbeats 2000000 in
theorem refedges_any (g:GD) (ao bo:Option Addr) (cap cb:Nat) (l:List Int) (w:World) (hl:g.es.length≤9223372036854775807) (hll:l.length≤9223372036854775807) (hc:Cel w ao (flat g.es)) (hd:Cel w bo (l.map encI)):
  Calls Try.prog 25 #[.agg #[.int .i64 g.n,.slice ao g.es.length cap],.slice bo l.length cb] w fun e w'=>e=.returned (.bool (edgesB g l))∧Below w.heap.size w w':=by
 have HC:=Lib.hid hc
 have HD:=Lib.hid hd
 clear hc hd
 have X1:=Lib.hid (fun W h=>refRightG_any g ao cap W hl h)
 have E1:=Lib.hid (@edgesB_1 g l)
 have E2:=Lib.hid (@edgesB_2 g l)
 generalize edgesB g l=r at*
 cases q1:(rightG g != 0) with
 |true=>
  have HR:=Lib.hid (E1.out q1)
  generalize rightG g=f at*
  go_enter Try.func25,Try.ntmps25
  go_wp2_with (go_at_call 36;refine (X1.out _ (HC.out.go (by repeat (first|exact Below.refl _ _|refine Below.al ?_ _|refine Below.dr ?_ _|refine Below.drew ?_|assumption|(refine Below.st ?_ (by assumption)))))).mono ?_;rintro e w1 ⟨rfl,hb1⟩)
  go_ret
  exact ⟨by rw [HR.out];rfl,by repeat (first|exact Below.refl _ _|refine Below.al ?_ _|refine Below.dr ?_ _|refine Below.drew ?_|assumption|(refine Below.st ?_ (by assumption)))⟩
 |false=>
  have HR:=Lib.hid (E2.out q1)
  generalize rightG g=f at*
  go_enter Try.func25,Try.ntmps25
  go_wp2_with fail
  obtain ⟨W,hW,c0,c1,hsW⟩:∃W,W=w.alloc (Obj.cells #[.int .i64 g.n,.slice ao g.es.length cap] 24)∧W.cell? ⟨w.heap.size,0,none⟩=some (.int .i64 g.n)∧W.cell? ⟨w.heap.size,1,none⟩=some (.slice ao g.es.length cap)∧w.heap.size<W.heap.size:=⟨_,rfl,by go_simp,by go_simp,by simp⟩
  rw [←hW]
  have HW:=Lib.hid (show Below w.heap.size w W by rw [hW];repeat (first|exact Below.refl _ _|refine Below.al ?_ _|refine Below.dr ?_ _|refine Below.drew ?_|assumption|(refine Below.st ?_ (by assumption))))
  clear hW
  refine (X1.out _ (HC.out.go HW.out)).mono ?_
  rintro e w1 ⟨rfl,hb1⟩
  have c0':=cell_later hb1 c0
  have c1':=cell_later hb1 c1
  have HW1:=Lib.hid (HW.out.st hb1)
  have hsW1:w.heap.size<w1.heap.size:=by have:=hb1.size;omega
  clear HW c0 c1 hb1 hsW
  go_wp2
  go_loopg [5] l.length (fun gg i wr=>∃k q:Nat,k≤l.length∧l.length-k≤gg∧i=.int .i64 k∧wr=w1.drewN q∧Aside (∀j (h:j<l.length),j<k→(!edgeB g.es.length l[j])=false))
  case atStart=>exact ⟨0,0,Nat.zero_le _,by omega,rfl,rfl,fun j _ h=>absurd h (Nat.not_lt_zero _)⟩
  case round=>
   obtain ⟨k,qn,hk,hg,rfl,rfl,HA⟩:=hrel
   by_cases hlt:k<l.length
   ·have hlt3:(k:Int)<(l.length:Int):=by omega
    have hk0:(0:Int)≤(k:Int):=by omega
    obtain ⟨b,o,hao,f1⟩:=(HD.out.go HW1.out).at hlt
    have HN:=Lib.hid (fun h=>@upto_succ _ (fun e=>!edgeB g.es.length e) l k HA.out hlt h)
    have HY:=Lib.hid (fun h=>@any_at _ (fun e=>!edgeB g.es.length e) l k hlt h)
    generalize l[k]=x at*
    subst hao
    by_cases d1:x<0
    ·have HZ:=Lib.hid (HY.out (by simp [edgeB];omega))
     have t1:decide (x<0)=true:=by simp [d1]
     go_wp2
     go_quiet (fail)
     go_wp2
     go_ret
     exact ⟨by rw [HR.out,HZ.out];rfl,(HW1.out.dr _).dr _⟩
    ·have t1:decide (x<0)=false:=by simp;omega
     by_cases d2:(g.es.length:Int)≤x
     ·have HZ:=Lib.hid (HY.out (by simp [edgeB];omega))
      have t2:decide ((g.es.length:Int)≤x)=true:=by simp [d2]
      go_wp2
      go_quiet (fail)
      go_wp2
      go_ret
      exact ⟨by rw [HR.out,HZ.out];rfl,(HW1.out.dr _).dr _⟩
     ·have HZ:=Lib.hid (HN.out (by simp [edgeB];omega))
      have t2:decide ((g.es.length:Int)≤x)=false:=by simp;omega
      go_wp2
      go_quiet (fail)
      go_wp2
      go_roundg (l.length-(k+1))
      case measure=>omega
      case rel=>exact ⟨k+1,qn+nq,by omega,by omega,by go_num,rfl,HZ.out⟩
   ·obtain rfl:k=l.length:=by omega
    have HZ:=Lib.hid (@any_from _ (fun e=>!edgeB g.es.length e) l (fun j h=>HA.out j h h))
    go_wp2
    go_ret
    exact ⟨by rw [HR.out,HZ.out];rfl,HW1.out.dr _⟩
end Go.Proofs.Yteaaapdjplbljaa
