/- Parts; no condition. -/
import Derived.Test.YteaaapdjplbljaaGreatVa40
import Derived.IntWalk
set_option linter.unusedVariables false
set_option linter.unusedSimpArgs false
set_option linter.unnecessarySimpa false
set_option maxRecDepth 100000
set_option maxHeartbeats 8000000
namespace Go.Proofs.YteaaapdjplbljaaGreat
section
namespace Vi
open Go Go.Proofs Go.RowKit Go.Shelf Hp Ch Ad Ro Dj
theorem Gx (n:Nat) (es:List EdgeD) (ao:Option Addr) (cap:Nat) (v:Int) (w:World):
  Calls Tryz.prog 79 #[.agg #[.int .i64 (n:Int),.slice ao es.length cap],.int .i64 v] w fun e w'=>e=.returned (.bool (!Hg n v))/\Below w.heap.size w w':=by
 unfold Hg
 by_cases h:v<0
 ·have h2:¬(0:Int)<=v:=by omega
  go_enter Tryz.func79,Tryz.ntmps79
  go_wp2
  go_ret
  exact ⟨by simp [h],Below.of_al _ _⟩
 ·have h2:(0:Int)<=v:=by omega
  by_cases h':(n:Int)<=v
  ·have h3:¬v<(n:Int):=by omega
   go_enter Tryz.func79,Tryz.ntmps79
   go_wp2
   go_ret
   exact ⟨by simp [h,h'],Below.of_al _ _⟩
  ·have h3:v<(n:Int):=by omega
   go_enter Tryz.func79,Tryz.ntmps79
   go_wp2
   go_ret
   exact ⟨by simp [h,h'],Below.of_al _ _⟩
def rbR (L b1 b2:Nat) (a1:Option Addr) (c1:Nat) (l1:List Int) (x1:Int) (a2:Option Addr) (c2:Nat) (l2:List Int) (x2:Int):Nat->Value->World->Prop
 |0,v,w=>∃g,v=.slice (some ⟨g,0,none⟩) 0 0/\w.ownsRow L 3 1 (.slice (some ⟨g,0,none⟩) 0 0) 0 []
 |1,v,_=>v=.pointer (some ⟨b1,0,none⟩)
 |2,v,_=>v=.slice a1 l1.length c1
 |3,v,w=>∃a c,v=.slice a l1.length c/\w.ownsRow L 3 1 (.slice a l1.length c) l1.length (l1.map Ai)
 |4,v,_=>v=.pointer (some ⟨b2,0,none⟩)
 |5,v,_=>v=.slice a2 l2.length c2
 |6,v,w=>∃a c,v=.slice a (l1.length+l2.length) c/\w.ownsRow L 3 1 (.slice a (l1.length+l2.length) c) (l1.length+l2.length) (l1.map Ai++l2.map Ai)
 |7,v,_=>v=.pointer (some ⟨b1,1,none⟩)
 |8,v,_=>v=.int .u64 x1
 |9,v,_=>v=.pointer (some ⟨b2,1,none⟩)
 |10,v,_=>v=.int .u64 x2
 |11,v,_=>v=.int .u64 (x1+x2)
 |12,v,w=>∃a c,v=.agg #[.slice a (l1.length+l2.length) c,.int .u64 (x1+x2)]/\w.ownsRow L 3 1 (.slice a (l1.length+l2.length) c) (l1.length+l2.length) (l1.map Ai++l2.map Ai)
 |_,v,w=>∃b,v=.pointer (some ⟨b,0,none⟩)/\L<=b/\w.heap[b]? =some (.cells #[.slice none 0 0,.int .u64 0] 39 (0,0))
section
variable {L b1 b2 c1 c2:Nat} {a1 a2:Option Addr} {l1 l2:List Int} {x1 x2:Int}
theorem Bf7:∀i v w' w'',Below w'.heap.size w' w''->rbR L b1 b2 a1 c1 l1 x1 a2 c2 l2 x2 i v w'->rbR L b1 b2 a1 c1 l1 x1 a2 c2 l2 x2 i v w''
 |0,_,_,_,hb,⟨g,e,h⟩=>⟨g,e,Ag h hb⟩
 |1,_,_,_,_,h=>h
 |2,_,_,_,_,h=>h
 |3,_,_,_,hb,⟨a,c,e,h⟩=>⟨a,c,e,Ag h hb⟩
 |4,_,_,_,_,h=>h
 |5,_,_,_,_,h=>h
 |6,_,_,_,hb,⟨a,c,e,h⟩=>⟨a,c,e,Ag h hb⟩
 |7,_,_,_,_,h=>h
 |8,_,_,_,_,h=>h
 |9,_,_,_,_,h=>h
 |10,_,_,_,_,h=>h
 |11,_,_,_,_,h=>h
 |12,_,_,_,hb,⟨a,c,e,h⟩=>⟨a,c,e,Ag h hb⟩
 |_+13,_,_,_,hb,⟨b,e,h,k⟩=>⟨b,e,h,(hb.block _ (Bk0.1 k).1).trans k⟩
theorem At7:∀i v w' w'',i≠6->KeepA L l1.length (l1.map Ai) l2.length (l2.map Ai) 3 w' w''->rbR L b1 b2 a1 c1 l1 x1 a2 c2 l2 x2 i v w'->rbR L b1 b2 a1 c1 l1 x1 a2 c2 l2 x2 i v w''
 |0,_,_,_,_,hb,⟨g,e,h⟩=>⟨g,e,hb.lit g h⟩
 |1,_,_,_,_,_,h=>h
 |2,_,_,_,_,_,h=>h
 |3,_,_,_,_,hb,⟨a,c,e,h⟩=>⟨a,c,e,hb.row _ h⟩
 |4,_,_,_,_,_,h=>h
 |5,_,_,_,_,_,h=>h
 |6,_,_,_,h,_,_=>absurd rfl h
 |7,_,_,_,_,_,h=>h
 |8,_,_,_,_,_,h=>h
 |9,_,_,_,_,_,h=>h
 |10,_,_,_,_,_,h=>h
 |11,_,_,_,_,_,h=>h
 |12,_,_,_,_,hb,⟨a,c,e,h⟩=>⟨a,c,e,hb.full _ h⟩
 |_+13,_,_,_,_,hb,⟨b,e,h,k⟩=>⟨b,e,h,hb.oth b _ k (fun c e=>by cases e)⟩
end
theorem Aj6 (l:List Int):∀u∈l.map Ai,u.oneCell'=true:=fun u hu=>by
 obtain ⟨x,_,rfl⟩:=List.mem_map.1 hu;rfl
theorem Al8 (n:Nat) (es:List EdgeD) (ao:Option Addr) (cap:Nat) (s v t:Int) (w:World) (hg:Aj ⟨(n:Int),es⟩=0) (hn:n<=100) (hm:es.length<=300) (hc:Cel w ao (Ar es)):
  Calls Tryz.prog 34 #[.agg #[.int .i64 (n:Int),.slice ao es.length cap],.int .i64 s,.int .i64 v,.int .i64 t] w (Mc n es s v t w):=by
 obtain ⟨W,hW⟩:∃W,W=(w.alloc (Obj.cells #[.int .i64 (n:Int),.slice ao es.length cap] 24)).alloc (Obj.cells #[.int .i64 0,.slice none 0 0,.int .u64 0,.int .i64 0] 66):=⟨_,rfl⟩;have hbw:Below w.heap.size w W:=by rw [hW];exact (Below.of_al _ _).al _
 have c0:W.cell? ⟨w.heap.size,0,none⟩=some (.int .i64 (n:Int)):=by rw [hW];go_simp
 have c1:W.cell? ⟨w.heap.size,1,none⟩=some (.slice ao es.length cap):=by rw [hW];go_simp
 have HRB:=Bj3 (show W.heap[w.heap.size+1]? =some (.cells #[.int .i64 0,.slice none 0 0,.int .u64 0,.int .i64 0] 66 (0,0)) by
  rw [hW];have e:w.heap.size+1=(w.alloc (Obj.cells #[.int .i64 (n:Int),.slice ao es.length cap] 24)).heap.size:=by simp
  rw [e]
  show ((w.alloc (Obj.cells #[.int .i64 (n:Int),.slice ao es.length cap] 24)).heap.push _)[_]? =_
  rw [Array.getElem?_push_size])
 have HRG:=Bj3 (Dr ⟨(n:Int),es⟩ ao cap W (show es.length<=9223372036854775807 by omega) (hc.go hbw));rw [hg] at HRG;simp only at HRG;have HPT:=Bj3 (fun (s t:Int) U (hz:Below w.heap.size w U)=>Yd n es ao cap s t U hg hn hm (hc.go hz));have HNs:=Bj3 (fun U=>Gx n es ao cap s U);have HNv:=Bj3 (fun U=>Gx n es ao cap v U);have HNt:=Bj3 (fun U=>Gx n es ao cap t U);have HE:=Bj3 (Jz hg);have HW:=Bj3 hW;have HB:=Bj3 hbw;have HNO:=Bj3 (fun x=>(show Hg n x=false↔Ac n x by
  unfold Hg Ac;constructor
  ·intro h
   simp at h;omega
  ·intro h
   simp;omega))
 have HRX:=Bj3 (fun W2 (hz:Below W.heap.size W W2)=>Ih ((hz.block _ (Bk0.1 HRB.out).1).trans HRB.out));clear hW hbw hg hc
 by_cases hall:Hg n s=false/\Hg n v=false/\Hg n t=false
 ·obtain ⟨h1,h2,h3⟩:=hall
  have HND:=Bj3 (And.intro ((HNO.out s).1 h1) (And.intro ((HNO.out v).1 h2) ((HNO.out t).1 h3)));rw [h1] at HNs;rw [h2] at HNv;rw [h3] at HNt;simp only [Bool.not_false] at HNs HNv HNt;clear h1 h2 h3 HNO;unfold Ku Wg at HPT
  go_enter Tryz.func34,Tryz.ntmps34
  go_upto_region 1 with (fail)
  rw [<-HW.out]
  go_upto_region 6 with (first
   |(go_at_call 78;refine HRG.out.mono ?_;rintro e w1 ⟨rfl,hb1⟩;(have HB1:=Bj3 hb1);(have d0:=Bj4 hb1 c0);(have d1:=Bj4 hb1 c1);clear hb1)
   |(go_at_call_of 79 (#[.agg #[.int .i64 (n:Int),.slice ao es.length cap],.int .i64 s]:Array Value);refine (HNs.out _).mono ?_;rintro e w2 ⟨rfl,hb2⟩;(have HB2:=Bj3 (HB1.out.st hb2));(have e0:=Bj4 hb2 d0);(have e1:=Bj4 hb2 d1);clear hb2)
   |(go_at_call_of 79 (#[.agg #[.int .i64 (n:Int),.slice ao es.length cap],.int .i64 v]:Array Value);refine (HNv.out _).mono ?_;rintro e w3 ⟨rfl,hb3⟩;(have HB3:=Bj3 (HB2.out.st hb3));(have f0:=Bj4 hb3 e0);(have f1:=Bj4 hb3 e1);clear hb3)
   |(go_at_call_of 79 (#[.agg #[.int .i64 (n:Int),.slice ao es.length cap],.int .i64 t]:Array Value);refine (HNt.out _).mono ?_;rintro e w4 ⟨rfl,hb4⟩;(have HB4:=Bj3 (HB3.out.st hb4));(have g0:=Bj4 hb4 f0);(have g1:=Bj4 hb4 f1);clear hb4)
   |(go_at_call 63;refine (HPT.out s v _ (HB.out.st HB4.out)).mono ?_;rintro e w5 ⟨a1,l1,lc1,x1,k1,rfl,h1,h2,h3,h4⟩;(have HC1:=Bj3 h1);(have HB5:=Bj3 (HB4.out.st h2));(have HR1:=Bj3 h3);(have q0:=Bj4 h2 g0);(have q1:=Bj4 h2 g1);clear h1 h2 h3 h4))
  obtain ⟨W5,hW5⟩:∃W5,W5=w5.alloc (Obj.cells #[.slice a1 l1.length lc1,.int .u64 x1] 39):=⟨_,rfl⟩;rw [<-hW5];have hb5:Below w5.heap.size w5 W5:=by rw [hW5];exact Below.of_al _ _
  have HB5':=Bj3 (HB5.out.st hb5);have HC15:=Bj3 (HC1.out.go hb5);have p0:=Bj4 hb5 q0;have p1:=Bj4 hb5 q1;have m0:W5.cell? ⟨w5.heap.size,0,none⟩=some (.slice a1 l1.length lc1):=by rw [hW5];go_simp
  have m1:W5.cell? ⟨w5.heap.size,1,none⟩=some (.int .u64 x1):=by rw [hW5];go_simp
  clear hW5 hb5 q0 q1 g0 g1 f0 f1 e0 e1 d0 d1 c0 c1
  go_upto_region 7 with (go_at_call 63;refine (HPT.out v t _ (HB.out.st HB5'.out)).mono ?_;rintro e w7 ⟨a2,l2,lc2,x2,k2,rfl,h1,h2,h3,h4⟩;(have HC2:=Bj3 h1);(have HB7:=Bj3 (HB5'.out.st h2));(have HR2:=Bj3 h3);(have HC17:=Bj3 (HC15.out.go h2));(have q0:=Bj4 h2 m0);(have q1:=Bj4 h2 m1);clear h1 h2 h3 h4)
  obtain ⟨W7,hW7⟩:∃W7,W7=w7.alloc (Obj.cells #[.slice a2 l2.length lc2,.int .u64 x2] 39):=⟨_,rfl⟩;rw [<-hW7];have hb7:Below w7.heap.size w7 W7:=by rw [hW7];exact Below.of_al _ _
  have HB7':=Bj3 (HB7.out.st hb7);have HC18:=Bj3 (HC17.out.go hb7);have HC28:=Bj3 (HC2.out.go hb7);have b0:=Bj4 hb7 q0;have b1:=Bj4 hb7 q1;have g0:W7.cell? ⟨w7.heap.size,0,none⟩=some (.slice a2 l2.length lc2):=by rw [hW7];go_simp
  have g1:W7.cell? ⟨w7.heap.size,1,none⟩=some (.int .u64 x2):=by rw [hW7];go_simp
  clear hW7 hb7 q0 q1 m0 m1 p0 p1
  by_cases hk:k1=0/\k2=0
  ·obtain ⟨rfl,rfl⟩:=hk
   have hA:∀u v w,Am es u v w->Ac n u/\Ac n v/\1<=w:=fun a b c h=>by
    have:=XD.ok HE.out a b c (Gj (bk:=false).2 h);exact ⟨this.1,this.2.1,this.2.2.1⟩
   obtain ⟨hl1,hx10,hx11⟩:=Ba hA HR1.out;obtain ⟨hl2,hx20,hx21⟩:=Ba hA HR2.out;have hwr:IntKind.u64.wrap (x1+x2)=x1+x2:=by rw [Bo5];omega
   have HLN:=Bj3 (And.intro hl1 (And.intro hl2 hn));have HL7:=Bj3 (show w.heap.size+1<w7.heap.size/\w.heap.size+1<w5.heap.size/\w7.heap.size<W7.heap.size from by
    have h1:=(Bk0.1 HRB.out).1;have h2:=HB7.out.size;have h3:=HB5.out.size;exact ⟨by omega,by omega,Bk3 _ _ g0⟩)
   clear hA hl1 hl2 hx10 hx11 hx20 hx21
   go_upto_region 9 with fail
   refine Ti 14 _ _ rfl rfl (rbR W7.heap.size w5.heap.size w7.heap.size a1 lc1 l1 x1 a2 lc2 l2 x2) 6 (by decide) (KeepA W7.heap.size l1.length (l1.map Ai) l2.length (l2.map Ai) 3) (fun _ _ h=>h.bel) (by kernel_rfl) (by kernel_rfl) (by kernel_rfl) (by kernel_rfl) Bf7 At7 ?hop ?hend
   case hop=>
    refine ⟨?_,?_,?_,?_,?_,?_,?_,?_,?_,?_,?_,?_,?_,?_,trivial⟩
    ·intro act w' hbe hd ho K hK
     refine .inl ⟨Aa rfl,?_⟩;simp [Oper.wp,execOp,Oper.upon,go_sem,Act.eval];refine hK _ _ (by rw [if_neg (by decide)];exact Below.of_al _ _) ⟨w'.heap.size,rfl,?_⟩;exact World.ownsRow_lit (base:=W7.heap.size) (e:=3) (size:=1) w' #[] 0 hbe.size (by unfold maxLen;omega) (by simp)
    ·intro act w' hbe hd ho K hK
     have g9:act.tmps.getD 10 undef=.pointer (some ⟨w5.heap.size,0,none⟩):=ho 10 (by kernel_rfl);refine .inl ⟨Aa rfl,?_⟩;simp [Oper.wp,execOp,Oper.upon,go_sem,Act.eval,g9];exact hK _ w' (by rw [if_neg (by decide)];exact Below.refl _ _) rfl
    ·intro act w' hbe hd ho K hK
     have e1:act.tmps.getD 60 undef=.pointer (some ⟨w5.heap.size,0,none⟩):=hd 1 (by rfl);have c0:=Bj4 hbe b0;refine .inl ⟨Aa rfl,?_⟩;simp [Oper.wp,execOp,Oper.upon,go_sem,Act.eval,e1,c0];exact hK _ w' (by rw [if_neg (by decide)];exact Below.refl _ _) rfl
    ·intro act w' hbe hd ho K hK
     obtain ⟨g,e0,hown⟩:∃g,act.tmps.getD 59 undef=.slice (some ⟨g,0,none⟩) 0 0/\w'.ownsRow W7.heap.size 3 1 (.slice (some ⟨g,0,none⟩) 0 0) 0 []:=hd 0 (by rfl);have e2:act.tmps.getD 61 undef=.slice a1 l1.length lc1:=hd 2 (by rfl);obtain ⟨a9,c9,w9,hr9,ho9,-,hb9⟩:=Mj (P:=Tryz.prog) 25 25 W7.heap.size 3 _ 8 Ho Tryz.underlying25 (some ⟨g,0,none⟩) 0 0 [] hown a1 l1.length lc1 (l1.map Ai) (HC18.out.go hbe) (Aj6 l1) ⟨by simp,by have:=HLN.out;omega,by have:=HLN.out;omega,hbe.size⟩;rw [Nat.zero_add] at hr9 ho9;refine .inl ⟨Aa rfl,?_⟩;exact Lib.wp_append_run w' (.tmp 59) (.tmp 61) 25 25 rfl _ _ e0 e2 _ w9 hr9 (hK _ w9 (by rw [if_neg (by decide)];exact hb9 rfl) ⟨a9,c9,rfl,ho9⟩)
    ·intro act w' hbe hd ho K hK
     have g9:act.tmps.getD 12 undef=.pointer (some ⟨w7.heap.size,0,none⟩):=ho 12 (by kernel_rfl);refine .inl ⟨Aa rfl,?_⟩;simp [Oper.wp,execOp,Oper.upon,go_sem,Act.eval,g9];exact hK _ w' (by rw [if_neg (by decide)];exact Below.refl _ _) rfl
    ·intro act w' hbe hd ho K hK
     have e1:act.tmps.getD 63 undef=.pointer (some ⟨w7.heap.size,0,none⟩):=hd 4 (by rfl);have c0:=Bj4 hbe g0;refine .inl ⟨Aa rfl,?_⟩;simp [Oper.wp,execOp,Oper.upon,go_sem,Act.eval,e1,c0];exact hK _ w' (by rw [if_neg (by decide)];exact Below.refl _ _) rfl
    ·intro act w' hbe hd ho K hK
     obtain ⟨a3,c3,e3,hown⟩:∃a c,act.tmps.getD 62 undef=.slice a l1.length c/\w'.ownsRow W7.heap.size 3 1 (.slice a l1.length c) l1.length (l1.map Ai):=hd 3 (by rfl);have e5:act.tmps.getD 64 undef=.slice a2 l2.length lc2:=hd 5 (by rfl);obtain ⟨a9,c9,w9,hr9,ho9,hk9,-⟩:=Mj (P:=Tryz.prog) 25 25 W7.heap.size 3 _ 8 Ho Tryz.underlying25 a3 l1.length c3 (l1.map Ai) hown a2 l2.length lc2 (l2.map Ai) (HC28.out.go hbe) (Aj6 l2) ⟨by simp,by have:=HLN.out;omega,by have:=HLN.out;omega,hbe.size⟩;refine .inl ⟨Aa rfl,?_⟩;exact Lib.wp_append_run w' (.tmp 62) (.tmp 64) 25 25 rfl _ _ e3 e5 _ w9 hr9 (hK _ w9 (by rw [if_pos rfl];exact hk9) ⟨a9,c9,rfl,ho9⟩)
    ·intro act w' hbe hd ho K hK
     have g9:act.tmps.getD 10 undef=.pointer (some ⟨w5.heap.size,0,none⟩):=ho 10 (by kernel_rfl);refine .inl ⟨Aa rfl,?_⟩;simp [Oper.wp,execOp,Oper.upon,go_sem,Act.eval,g9];exact hK _ w' (by rw [if_neg (by decide)];exact Below.refl _ _) rfl
    ·intro act w' hbe hd ho K hK
     have e1:act.tmps.getD 66 undef=.pointer (some ⟨w5.heap.size,1,none⟩):=hd 7 (by rfl);have c0:=Bj4 hbe b1;refine .inl ⟨Aa rfl,?_⟩;simp [Oper.wp,execOp,Oper.upon,go_sem,Act.eval,e1,c0];exact hK _ w' (by rw [if_neg (by decide)];exact Below.refl _ _) rfl
    ·intro act w' hbe hd ho K hK
     have g9:act.tmps.getD 12 undef=.pointer (some ⟨w7.heap.size,0,none⟩):=ho 12 (by kernel_rfl);refine .inl ⟨Aa rfl,?_⟩;simp [Oper.wp,execOp,Oper.upon,go_sem,Act.eval,g9];exact hK _ w' (by rw [if_neg (by decide)];exact Below.refl _ _) rfl
    ·intro act w' hbe hd ho K hK
     have e1:act.tmps.getD 68 undef=.pointer (some ⟨w7.heap.size,1,none⟩):=hd 9 (by rfl);have c0:=Bj4 hbe g1;refine .inl ⟨Aa rfl,?_⟩;simp [Oper.wp,execOp,Oper.upon,go_sem,Act.eval,e1,c0];exact hK _ w' (by rw [if_neg (by decide)];exact Below.refl _ _) rfl
    ·intro act w' hbe hd ho K hK
     have e1:act.tmps.getD 67 undef=.int .u64 x1:=hd 8 (by rfl);have e2:act.tmps.getD 69 undef=.int .u64 x2:=hd 10 (by rfl);refine .inl ⟨Aa rfl,?_⟩;simp [Oper.wp,execOp,Oper.upon,go_sem,Act.eval,e1,e2,hwr];exact hK _ w' (by rw [if_neg (by decide)];exact Below.refl _ _) rfl
    ·intro act w' hbe hd ho K hK
     obtain ⟨a6,c6,e6,hown⟩:∃a c,act.tmps.getD 65 undef=.slice a (l1.length+l2.length) c/\w'.ownsRow W7.heap.size 3 1 (.slice a (l1.length+l2.length) c) (l1.length+l2.length) (l1.map Ai++l2.map Ai):=hd 6 (by rfl);have e11:act.tmps.getD 70 undef=.int .u64 (x1+x2):=hd 11 (by rfl);have z6:=(Bm8 (xs:=act.tmps) (i:=65) (d:=undef)).symm.trans e6;have z11:=(Bm8 (xs:=act.tmps) (i:=70) (d:=undef)).symm.trans e11;refine .inl ⟨Aa rfl,?_⟩;simp [Oper.wp,execOp,Oper.upon,go_sem,Act.eval,e6,e11,z6,z11];exact hK _ w' (by rw [if_neg (by decide)];exact Below.refl _ _) ⟨a6,c6,rfl,hown⟩
    ·intro act w' hbe hd ho K hK
     refine .inl ⟨Aa rfl,?_⟩;simp [Oper.wp,execOp,Oper.upon,go_sem,Act.eval];refine hK _ _ (by rw [if_neg (by decide)];exact Below.of_al _ _) ⟨w'.heap.size,rfl,hbe.size,?_⟩
     show (w'.heap.push _)[w'.heap.size]? =_
     rw [Array.getElem?_push_size]
   case hend=>
    intro vs act w8 hb8 hR hon hoff hact;obtain ⟨a,c,e12,hown⟩:=hR 12 (by decide);obtain ⟨b,e13,hbL,hbb⟩:=hR 13 (by decide);have q71:act.tmps.getD 71 undef=.agg #[.slice a (l1.length+l2.length) c,.int .u64 (x1+x2)]:=(hon 12 (by decide)).trans e12;have q14:act.tmps.getD 14 undef=.pointer (some ⟨b,0,none⟩):=(hon 13 (by decide)).trans e13;obtain ⟨x0,x1',z0,z1⟩:=Ad.Di hbb;simp only [Gd];simp [Oper.wp,execOp,Oper.upon,go_sem,Act.eval,q14,q71,x0,x1',z0,z1];rw [hact];simp only [Al,Ae,Bl5,Bl4,Bl9,Bl8,Act.put,Bk8,Bk9,Nat.reduceAdd,Bl3,Bl6,Bl7];rw [e13];have hL:=HL7.out;obtain ⟨W9,hW9⟩:∃W9,W9=(w8.setCell ⟨b,0,none⟩ (.slice a (l1.length+l2.length) c)).setCell ⟨b,1,none⟩ (.int .u64 (x1+x2)):=⟨_,rfl⟩;obtain ⟨y0,y1⟩:=Cc (.slice a (l1.length+l2.length) c) (.int .u64 (x1+x2)) x0 x1';rw [<-hW9] at y0 y1 ⊢;have ho9:OffX (· =b) w8 W9:=by
     rw [hW9];exact (show OffX (· =b) w8 (w8.setCell ⟨b,0,none⟩ (.slice a (l1.length+l2.length) c)) from .set _ rfl).trans (.set _ rfl)
    have hb9:Below W7.heap.size W7 W9:=hb8.trans (ho9.below hb8.size (fun k e=>by have e2:k=b:=e;omega));have hown9:W9.ownsRow W7.heap.size 3 1 (.slice a (l1.length+l2.length) c) (l1.length+l2.length) (l1.map Ai++l2.map Ai):=Ak hown (fun k hk=>by
     obtain ⟨hk1,hk2⟩:=hown.lt k hk;refine ho9.block k hk2 (fun e=>?_);have e2:k=b:=e;subst e2
     rcases Ap hown with e|⟨g,c9,e⟩
     ·rw [e] at hk;cases hk
     ·obtain ⟨rfl,rfl⟩:a=some ⟨g,0,none⟩/\c=c9:=by cases e;exact ⟨rfl,rfl⟩
      cases hk
      obtain ⟨cur,q1,_⟩:=Oa hown;rw [hbb] at q1
      cases q1)
    obtain ⟨a9,c9,e9,hcl⟩:=Cel.of_owns hown9
    cases e9
    have HC9:=Bj3 hcl;have HN9:=Bj3 (show ∀y,a=some y->W7.heap.size<=y.block from fun y hy=>by subst hy;exact (hown9.lt y.block rfl).1);have HB9:=Bj3 (HB7'.out.st hb9);have q0:=Bj4 hb9 b0;obtain ⟨r0',r1',r2',r3',zz⟩:=HRX.out _ HB9.out;have y2:=zz 0;have y3:=zz 1;have y4:=zz 2;have y5:=zz 3;clear hR hon hoff hact q14 q71 e12 e13 hown hbL hbb x0 x1' z0 z1 hW9 ho9 hb9 hown9 hcl hb8 b0 b1 g0 g1 zz hL;generalize vs 0=u0;generalize vs 1=u1;generalize vs 2=u2;generalize vs 3=u3;generalize vs 4=u4;generalize vs 5=u5;generalize vs 6=u6;generalize vs 7=u7;generalize vs 8=u8;generalize vs 9=u9;generalize vs 10=u10;generalize vs 11=u11;generalize vs 12=u12;obtain ⟨N,hN⟩:∃N,N=l1.length+l2.length:=⟨_,rfl⟩;rw [<-hN] at y0;have HNN:=Bj3 hN;clear hN
    go_wp2
    obtain ⟨r0,r1,r2,r3⟩:=Ee (.int .i64 v) (.slice a N c) (.int .u64 (x1+x2)) (.int .i64 (l1.length:Int)) r0' r1' r2' r3';refine bodyPost_ret (v:=.tuple #[Cw v a N c (x1+x2) (l1.length:Int),.int .i64 0]) (by simp [results,Tryz.results34,go_sem,r0,r1,r2,r3];try rfl) rfl ?_;have ho:=Rj W9 (w.heap.size+1) (.int .i64 v) (.slice a N c) (.int .u64 (x1+x2)) (.int .i64 (l1.length:Int));have hsz7:w.heap.size+1<W7.heap.size:=by have:=HL7.out;omega
    refine ⟨a,l1++l2,c,v,x1+x2,(l1.length:Int),0,by rw [Bm3,<-HNN.out],fun i u hu=>?_,(HB.out.st HB9.out).trans (ho.below (HB.out.st HB9.out).size (fun k e=>by have e2:k=w.heap.size+1:=e;omega)),.inl ⟨rfl,rfl,l1,l2,x1,x2,HR1.out,HR2.out,rfl,rfl,rfl⟩,fun y hy=>by have:=HN9.out y hy;omega⟩;rw [Bn4] at hu;obtain ⟨b,o,e,h8⟩:=HC9.out i u hu;have hl:=HN9.out _ e;exact ⟨b,o,e,ho.cell h8 (fun e2=>by have e3:b=w.heap.size+1:=e2;simp only at hl;omega)⟩
  ·have hkk:=hk
   have HNW:=Bj3 (show (∀e,¬Way0 (Am es) Any s v e)\/∀e,¬Way0 (Am es) Any v t e by
    rcases HR1.out with ⟨h1,_⟩|⟨_,_,_,h1|h1|h1⟩
    ·rcases HR2.out with ⟨h2,_⟩|⟨_,_,_,h2|h2|h2⟩
     ·exact absurd ⟨h1,h2⟩ hk
     ·exact absurd ⟨h1,h2.1⟩ hk
     ·exact .inr h2.2.2.2.2
     ·exact absurd HND.out.2 h2.2.2
    ·rcases HR2.out with ⟨h2,_⟩|⟨_,_,_,h2|h2|h2⟩
     ·exact absurd ⟨h1.1,h2⟩ hk
     ·exact absurd ⟨h1.1,h2.1⟩ hk
     ·exact .inr h2.2.2.2.2
     ·exact absurd HND.out.2 h2.2.2
    ·exact .inl h1.2.2.2.2
    ·exact absurd ⟨HND.out.1,HND.out.2.1⟩ h1.2.2)
   obtain ⟨x0,x1',x2',x3,zz⟩:=HRX.out _ HB7'.out;have z0:=zz 0;have z1:=zz 1;have z2:=zz 2;have z3:=zz 3;have HB6:=Bj3 (HB.out.st HB7'.out)
   by_cases hk1:k1=0
   ·subst hk1
    have hk2:(k2 != 0)=true:=by
     simp;exact fun h2=>hk ⟨rfl,h2⟩
    clear hk hkk
    go_wp2
    obtain ⟨r0,r1,r2,r3⟩:=Ee (.int .i64 0) (.slice none 0 0) (.int .u64 0) (.int .i64 0) x0 x1' x2' x3;refine bodyPost_ret (v:=.tuple #[Cw 0 none 0 0 0 0,.int .i64 9]) (by simp [results,Tryz.results34,go_sem,r0,r1,r2,r3];try rfl) rfl ?_;exact ⟨none,[],0,0,0,0,9,rfl,Cel.nil _ _,HB6.out.trans ((Rj _ _ _ _ _ _).below HB6.out.size (fun k e=>by have e2:k=w.heap.size+1:=e;omega)),.inr ⟨by decide,rfl,rfl,rfl,rfl,.inr ⟨rfl,HND.out.1,HND.out.2.1,HND.out.2.2,HNW.out⟩⟩,fun y hy=>nomatch hy⟩
   ·have hk2:(k1 != 0)=true:=by simpa using hk1
    clear hk hk1 hkk
    go_wp2
    obtain ⟨r0,r1,r2,r3⟩:=Ee (.int .i64 0) (.slice none 0 0) (.int .u64 0) (.int .i64 0) x0 x1' x2' x3;refine bodyPost_ret (v:=.tuple #[Cw 0 none 0 0 0 0,.int .i64 9]) (by simp [results,Tryz.results34,go_sem,r0,r1,r2,r3];try rfl) rfl ?_;exact ⟨none,[],0,0,0,0,9,rfl,Cel.nil _ _,HB6.out.trans ((Rj _ _ _ _ _ _).below HB6.out.size (fun k e=>by have e2:k=w.heap.size+1:=e;omega)),.inr ⟨by decide,rfl,rfl,rfl,rfl,.inr ⟨rfl,HND.out.1,HND.out.2.1,HND.out.2.2,HNW.out⟩⟩,fun y hy=>nomatch hy⟩
 ·have HN7:=Bj3 (show ¬(Ac n s/\Ac n v/\Ac n t) from fun h=>hall ⟨(HNO.out s).2 h.1,(HNO.out v).2 h.2.1,(HNO.out t).2 h.2.2⟩)
  by_cases h1:Hg n s=true
  ·rw [h1] at HNs
   simp only [Bool.not_true] at HNs;clear hall h1 HNO
   go_enter Tryz.func34,Tryz.ntmps34
   go_upto_region 1 with (fail)
   rw [<-HW.out]
   go_upto_region 4 with (first
    |(go_at_call 78;refine HRG.out.mono ?_;rintro e w1 ⟨rfl,hb1⟩;(have HB1:=Bj3 hb1);(have d0:=Bj4 hb1 c0);(have d1:=Bj4 hb1 c1);clear hb1)
    |(go_at_call_of 79 (#[.agg #[.int .i64 (n:Int),.slice ao es.length cap],.int .i64 s]:Array Value);refine (HNs.out _).mono ?_;rintro e w2 ⟨rfl,hb2⟩;(have HB2:=Bj3 (HB1.out.st hb2));(have e0:=Bj4 hb2 d0);(have e1:=Bj4 hb2 d1);clear hb2))
   obtain ⟨x0,x1',x2',x3,zz⟩:=HRX.out _ HB2.out;have z0:=zz 0;have z1:=zz 1;have z2:=zz 2;have z3:=zz 3;have HB6:=Bj3 (HB.out.st HB2.out)
   go_wp2
   obtain ⟨r0,r1,r2,r3⟩:=Ee (.int .i64 0) (.slice none 0 0) (.int .u64 0) (.int .i64 0) x0 x1' x2' x3;refine bodyPost_ret (v:=.tuple #[Cw 0 none 0 0 0 0,.int .i64 7]) (by simp [results,Tryz.results34,go_sem,r0,r1,r2,r3];try rfl) rfl ?_;exact ⟨none,[],0,0,0,0,7,rfl,Cel.nil _ _,HB6.out.trans ((Rj _ _ _ _ _ _).below HB6.out.size (fun k e=>by have e2:k=w.heap.size+1:=e;omega)),.inr ⟨by decide,rfl,rfl,rfl,rfl,.inl ⟨rfl,HN7.out⟩⟩,fun y hy=>nomatch hy⟩
  ·have h1':Hg n s=false:=by simpa using h1
   rw [h1'] at HNs;simp only [Bool.not_false] at HNs
   by_cases h2:Hg n v=true
   ·rw [h2] at HNv
    simp only [Bool.not_true] at HNv;clear hall h1 h1' h2 HNO
    go_enter Tryz.func34,Tryz.ntmps34
    go_upto_region 1 with (fail)
    rw [<-HW.out]
    go_upto_region 4 with (first
     |(go_at_call 78;refine HRG.out.mono ?_;rintro e w1 ⟨rfl,hb1⟩;(have HB1:=Bj3 hb1);(have d0:=Bj4 hb1 c0);(have d1:=Bj4 hb1 c1);clear hb1)
     |(go_at_call_of 79 (#[.agg #[.int .i64 (n:Int),.slice ao es.length cap],.int .i64 s]:Array Value);refine (HNs.out _).mono ?_;rintro e w2 ⟨rfl,hb2⟩;(have HB2:=Bj3 (HB1.out.st hb2));(have e0:=Bj4 hb2 d0);(have e1:=Bj4 hb2 d1);clear hb2)
     |(go_at_call_of 79 (#[.agg #[.int .i64 (n:Int),.slice ao es.length cap],.int .i64 v]:Array Value);refine (HNv.out _).mono ?_;rintro e w3 ⟨rfl,hb3⟩;(have HB3:=Bj3 (HB2.out.st hb3));(have f0:=Bj4 hb3 e0);(have f1:=Bj4 hb3 e1);clear hb3))
    obtain ⟨x0,x1',x2',x3,zz⟩:=HRX.out _ HB3.out;have z0:=zz 0;have z1:=zz 1;have z2:=zz 2;have z3:=zz 3;have HB6:=Bj3 (HB.out.st HB3.out)
    go_wp2
    obtain ⟨r0,r1,r2,r3⟩:=Ee (.int .i64 0) (.slice none 0 0) (.int .u64 0) (.int .i64 0) x0 x1' x2' x3;refine bodyPost_ret (v:=.tuple #[Cw 0 none 0 0 0 0,.int .i64 7]) (by simp [results,Tryz.results34,go_sem,r0,r1,r2,r3];try rfl) rfl ?_;exact ⟨none,[],0,0,0,0,7,rfl,Cel.nil _ _,HB6.out.trans ((Rj _ _ _ _ _ _).below HB6.out.size (fun k e=>by have e2:k=w.heap.size+1:=e;omega)),.inr ⟨by decide,rfl,rfl,rfl,rfl,.inl ⟨rfl,HN7.out⟩⟩,fun y hy=>nomatch hy⟩
   ·have h2':Hg n v=false:=by simpa using h2
    rw [h2'] at HNv;simp only [Bool.not_false] at HNv;have h3:Hg n t=true:=by
     by_cases h3:Hg n t=true
     ·exact h3
     ·exact absurd ⟨h1',h2',by simpa using h3⟩ hall
    rw [h3] at HNt;simp only [Bool.not_true] at HNt;clear hall h1 h1' h2 h2' h3 HNO
    go_enter Tryz.func34,Tryz.ntmps34
    go_upto_region 1 with (fail)
    rw [<-HW.out]
    go_upto_region 4 with (first
     |(go_at_call 78;refine HRG.out.mono ?_;rintro e w1 ⟨rfl,hb1⟩;(have HB1:=Bj3 hb1);(have d0:=Bj4 hb1 c0);(have d1:=Bj4 hb1 c1);clear hb1)
     |(go_at_call_of 79 (#[.agg #[.int .i64 (n:Int),.slice ao es.length cap],.int .i64 s]:Array Value);refine (HNs.out _).mono ?_;rintro e w2 ⟨rfl,hb2⟩;(have HB2:=Bj3 (HB1.out.st hb2));(have e0:=Bj4 hb2 d0);(have e1:=Bj4 hb2 d1);clear hb2)
     |(go_at_call_of 79 (#[.agg #[.int .i64 (n:Int),.slice ao es.length cap],.int .i64 v]:Array Value);refine (HNv.out _).mono ?_;rintro e w3 ⟨rfl,hb3⟩;(have HB3:=Bj3 (HB2.out.st hb3));(have f0:=Bj4 hb3 e0);(have f1:=Bj4 hb3 e1);clear hb3)
     |(go_at_call_of 79 (#[.agg #[.int .i64 (n:Int),.slice ao es.length cap],.int .i64 t]:Array Value);refine (HNt.out _).mono ?_;rintro e w4 ⟨rfl,hb4⟩;(have HB4:=Bj3 (HB3.out.st hb4));clear hb4))
    obtain ⟨x0,x1',x2',x3,zz⟩:=HRX.out _ HB4.out;have z0:=zz 0;have z1:=zz 1;have z2:=zz 2;have z3:=zz 3;have HB6:=Bj3 (HB.out.st HB4.out)
    go_wp2
    obtain ⟨r0,r1,r2,r3⟩:=Ee (.int .i64 0) (.slice none 0 0) (.int .u64 0) (.int .i64 0) x0 x1' x2' x3;refine bodyPost_ret (v:=.tuple #[Cw 0 none 0 0 0 0,.int .i64 7]) (by simp [results,Tryz.results34,go_sem,r0,r1,r2,r3];try rfl) rfl ?_;exact ⟨none,[],0,0,0,0,7,rfl,Cel.nil _ _,HB6.out.trans ((Rj _ _ _ _ _ _).below HB6.out.size (fun k e=>by have e2:k=w.heap.size+1:=e;omega)),.inr ⟨by decide,rfl,rfl,rfl,rfl,.inl ⟨rfl,HN7.out⟩⟩,fun y hy=>nomatch hy⟩
end Vi
end
section
namespace Vi
open Go Go.Proofs Go.RowKit Go.Shelf Hp Ch Ad Ro Dj
def onB (es:List EdgeD) (l fa fb ol:List Int) (W:Int) (k:Nat):Bool:=
 decide (gD fa (es.getD (gD l (k:Int)).toNat edZ).f=gD ol (k:Int))&&decide (gD fb (es.getD (gD l (k:Int)).toNat edZ).t+gD ol ((k:Int)+1)=W)
structure RowW (w:World) (ao:Option Addr) (l:List Int) (m:Nat) (B:Int):Prop where
 cel:Cel w ao (l.map Bi)
 len:l.length=m
 bnd:∀x∈l,0<=x/\x<=B
theorem RowW.go {w w':World} {ao:Option Addr} {l:List Int} {m:Nat} {B:Int} (h:RowW w ao l m B) (hb:Below w.heap.size w w'):RowW w' ao l m B:=⟨h.cel.go hb,h.len,h.bnd⟩
theorem RowW.at {w:World} {ao:Option Addr} {l:List Int} {m:Nat} {B:Int} (h:RowW w ao l m B) {k:Nat} (hk:k<m):∃b o,ao=some ⟨b,o,none⟩/\w.cell? ⟨b,o+k,none⟩=some (.int .u64 (gD l (k:Int)))/\0<=gD l (k:Int)/\gD l (k:Int)<=B:=by
 have hk2:k<l.length:=by rw [h.len];exact hk
 have hg:gD l (k:Int)=l[k]:=by unfold gD;rw [Bk7,Bj9,Bj8 hk2];rfl
 obtain ⟨b,o,e,hc⟩:=h.cel k (Bi l[k]) (by rw [Bl2,Bj8 hk2];rfl);rw [hg];exact ⟨b,o,e,hc,h.bnd _ (Bk5 hk2)⟩
theorem RowW.base {w:World} {ao:Option Addr} {l:List Int} {m:Nat} {B:Int} (h:RowW w ao l m B) (hm:0<m):∃b o,ao=some ⟨b,o,none⟩/\∀k,k<m->w.cell? ⟨b,o+k,none⟩=some (.int .u64 (gD l (k:Int)))/\0<=gD l (k:Int)/\gD l (k:Int)<=B:=by
 obtain ⟨b,o,e,_⟩:=h.at hm;refine ⟨b,o,e,fun k hk=>?_⟩;obtain ⟨b',o',e',h'⟩:=h.at hk;rw [e] at e'
 cases e'
 exact h'
def onR (L gb rb q m cap:Nat) (ao:Option Addr) (lv pv qv:Value) (k j:Int) (e:EdgeD):Nat->Value->World->Prop
 |0,v,_=>v=.pointer (some ⟨gb,1,none⟩)
 |1,v,_=>v=.slice ao m cap
 |2,v,_=>v=.pointer (some ⟨rb,q,none⟩)
 |3,v,_=>v=lv
 |4,v,_=>v=.int .i64 k
 |5,v,_=>v=pv
 |6,v,_=>v=.int .i64 j
 |7,v,_=>v=qv
 |8,v,_=>v=.agg #[.int .i64 e.f,.int .i64 e.t,.int .u64 e.w]
 |_,v,w=>∃b,v=.pointer (some ⟨b,0,none⟩)/\L<=b/\w.heap[b]? =some (.cells #[.int .i64 0,.int .i64 0,.int .u64 0] 109 (0,0))
theorem Au5 {L gb rb q m cap:Nat} {ao:Option Addr} {lv pv qv:Value} {k j:Int} {ed:EdgeD}:∀i v w' w'',Below w'.heap.size w' w''->onR L gb rb q m cap ao lv pv qv k j ed i v w'->onR L gb rb q m cap ao lv pv qv k j ed i v w''
 |0,_,_,_,_,h=>h
 |1,_,_,_,_,h=>h
 |2,_,_,_,_,h=>h
 |3,_,_,_,_,h=>h
 |4,_,_,_,_,h=>h
 |5,_,_,_,_,h=>h
 |6,_,_,_,_,h=>h
 |7,_,_,_,_,h=>h
 |8,_,_,_,_,h=>h
 |_+9,_,_,_,hb,⟨b,e,h,k⟩=>⟨b,e,h,(hb.block _ (Bk0.1 k).1).trans k⟩
def onQ (L gb rb q m cap:Nat) (ao:Option Addr) (lv pv qv:Value) (k j:Int) (e:EdgeD):Nat->Value->World->Prop
 |0,v,w=>onR L gb rb q m cap ao lv pv qv k j e 0 v w
 |1,v,w=>onR L gb rb q m cap ao lv pv qv k j e 1 v w
 |2,v,w=>onR L gb rb q m cap ao lv pv qv k j e 2 v w
 |i+3,v,w=>onR L gb rb q m cap ao lv pv qv k j e (i+2) v w
theorem Bg0 {L gb rb q m cap:Nat} {ao:Option Addr} {lv pv qv:Value} {k j:Int} {ed:EdgeD}:∀i v w' w'',Below w'.heap.size w' w''->onQ L gb rb q m cap ao lv pv qv k j ed i v w'->onQ L gb rb q m cap ao lv pv qv k j ed i v w''
 |0,_,_,_,_,h=>h
 |1,_,_,_,_,h=>h
 |2,_,_,_,_,h=>h
 |i+3,_,_,_,hb,h=>Au5 (L:=L) (gb:=gb) (rb:=rb) (q:=q) (m:=m) (cap:=cap) (ao:=ao) (lv:=lv) (pv:=pv) (qv:=qv) (k:=k) (j:=j) (ed:=ed) (i+2) _ _ _ hb h
theorem Xm {W:World} {C:Nat} {u0 u1 u2:Value} {T:TypeId} (h:W.heap[C]? =some (.cells #[u0,u1,u2] T (0,0))):W.cell? ⟨C,0,none⟩=some u0/\W.cell? ⟨C,1,none⟩=some u1/\W.cell? ⟨C,2,none⟩=some u2/\∀j,W.frozen? ⟨C,j,none⟩=false:=by
 refine ⟨?_,?_,?_,fun j=>?_⟩<;>simp [World.cell?,World.frozen?,h]
theorem Aw9 {w:World} {B:Nat} {v0 v1 v2:Value} (u0 u1 u2:Value) (h0:w.cell? ⟨B,0,none⟩=some v0) (h1:w.cell? ⟨B,1,none⟩=some v1) (h2:w.cell? ⟨B,2,none⟩=some v2):
  (((w.setCell ⟨B,0,none⟩ u0).setCell ⟨B,1,none⟩ u1).setCell ⟨B,2,none⟩ u2).cell? ⟨B,0,none⟩=some u0/\(((w.setCell ⟨B,0,none⟩ u0).setCell ⟨B,1,none⟩ u1).setCell ⟨B,2,none⟩ u2).cell? ⟨B,1,none⟩=some u1/\(((w.setCell ⟨B,0,none⟩ u0).setCell ⟨B,1,none⟩ u1).setCell ⟨B,2,none⟩ u2).cell? ⟨B,2,none⟩=some u2:=by
 refine ⟨?_,?_,?_⟩
 ·rw [Bk1 _ _ _ _ (by simp),Bk1 _ _ _ _ (by simp)]
  exact Bk2 _ _ _ h0
 ·rw [Bk1 _ _ _ _ (by simp)]
  exact Bk2 (u:=v1) _ _ _ (by rw [Bk1 _ _ _ _ (by simp)];exact h1)
 ·exact Bk2 (u:=v2) _ _ _ (by rw [Bk1 _ _ _ _ (by simp),Bk1 _ _ _ _ (by simp)];exact h2)
theorem Bi2 (w:World) (B:Nat) (u0 u1 u2:Value):OffX (· =B) w (((w.setCell ⟨B,0,none⟩ u0).setCell ⟨B,1,none⟩ u1).setCell ⟨B,2,none⟩ u2):=
 (((.set _ rfl:OffX (· =B) w (w.setCell ⟨B,0,none⟩ u0)).trans (.set _ rfl)).trans (.set _ rfl))
theorem Bf9 (gb rb ab ob bb n k j V c lc ac bc oc cap:Nat) (es:List EdgeD) (ao la fo go oo:Option Addr) (l fa fb ol:List Int) (W:Int) (w:World) (hG0:w.cell? ⟨gb,0,none⟩=some (.int .i64 (n:Int))) (hG1:w.cell? ⟨gb,1,none⟩=some (.slice ao es.length cap)) (hc:Cel w ao (Ar es))
  (hX1:w.cell? ⟨rb,1,none⟩=some (.slice la l.length lc)) (hX2:w.cell? ⟨rb,2,none⟩=some (.int .u64 W)) (hl:Cel w la (l.map Ai)) (hA:w.cell? ⟨ab,0,none⟩=some (.slice fo n ac)) (hO:w.cell? ⟨ob,0,none⟩=some (.slice oo (l.length+1) oc)) (hB:w.cell? ⟨bb,0,none⟩=some (.slice go n bc))
  (hfa:RowW w fo fa n 4611686018427387904) (hfb:RowW w go fb n 4611686018427387904) (hol:RowW w oo ol (l.length+1) 4611686018427387904) (hE:EOK n es) (hk:k<l.length) (hlj:l[k]? =some (j:Int)) (hj:j<es.length) (hW:0<=W/\W<=4611686018427387904) (hll:l.length<=1000000):
  Calls Tryz.prog 84 #[.int .i64 (k:Int),.pointer (some ⟨gb,0,none⟩),.pointer (some ⟨rb,0,none⟩),.pointer (some ⟨ab,0,none⟩),.pointer (some ⟨ob,0,none⟩),.pointer (some ⟨bb,0,none⟩)] w fun e w'=>e=.returned (.bool (onB es l fa fb ol W k))/\Below w.heap.size w w':=by
 obtain ⟨lb,lo,rfl,hlk⟩:=hl k (.int .i64 (j:Int)) (by rw [Bl2,hlj];rfl);obtain ⟨eb,eo,rfl,z0,z1,z2⟩:=hc.edge hj;obtain ⟨hnf,hnt,hw1,hw2⟩:=hE es[j] (Bk5 hj);have HOE:=Bj3 (show es.getD (gD l (k:Int)).toNat edZ=es[j] by
  have h1:gD l (k:Int)=(j:Int):=by unfold gD;rw [Bk7,Bj9,hlj];rfl
  rw [h1,Bk7,Bj9,Bj8 hj];rfl)
 have HON:=Bj3 (show onB es l fa fb ol W k=(decide (gD fa es[j].f=gD ol (k:Int))&&decide (gD fb es[j].t+gD ol ((k:Int)+1)=W)) by unfold onB;rw [HOE.out]);rw [HON.out];generalize es[j]=ed at*;obtain ⟨ef,et,ew⟩:=ed;simp only at hnf hnt hw1 hw2 z0 z1 z2;obtain ⟨fn,rfl⟩:∃q:Nat,ef=(q:Int):=⟨ef.toNat,by have:=hnf.1;omega⟩;obtain ⟨tn,rfl⟩:∃q:Nat,et=(q:Int):=⟨et.toNat,by have:=hnt.1;omega⟩;have hfn:fn<n:=by have:=hnf.2;omega
 have htn:tn<n:=by have:=hnt.2;omega
 obtain ⟨r,hr⟩:∃r,r=(decide (gD fa (fn:Int)=gD ol (k:Int))&&decide (gD fb (tn:Int)+gD ol ((k:Int)+1)=W)):=⟨_,rfl⟩;rw [<-hr];have HRR:=Bj3 hr;clear HON HOE hE hc hlj hr
 go_enter Tryz.func84,Tryz.ntmps84
 go_upto_region 1 with (fail)
 have c0:=hG0;have c1:=hG1;have y1:=hX1;have hL:=Bj3 (show gb<w.heap.size from Bk3 _ _ hG0);refine Cm 11 _ _ rfl rfl (onQ w.heap.size gb rb 1 es.length cap (some ⟨eb,eo,none⟩) (.slice (some ⟨lb,lo,none⟩) l.length lc) (.pointer (some ⟨lb,lo+k,none⟩)) (.pointer (some ⟨eb,eo+j*3,none⟩)) (k:Int) (j:Int) ⟨(fn:Int),(tn:Int),ew⟩) (by decide) (by kernel_rfl) (by kernel_rfl) (by kernel_rfl) (by kernel_rfl) Bg0 ?hop ?hend
 case hop=>
  refine ⟨?_,?_,?_,?_,?_,?_,?_,?_,?_,?_,?_,trivial⟩
  ·intro act w' hbe hd ho K hK
   have g9:act.tmps.getD 1 undef=.pointer (some ⟨gb,0,none⟩):=ho 1 (by kernel_rfl);refine .inl ⟨Aa rfl,?_⟩;simp [Oper.wp,execOp,Oper.upon,go_sem,Act.eval,g9];exact hK _ w' (Below.refl _ _) rfl
  ·intro act w' hbe hd ho K hK
   have e0:act.tmps.getD 9 undef=.pointer (some ⟨gb,1,none⟩):=hd 0 (by rfl);have f0:=Bj4 hbe c1;refine .inl ⟨Aa rfl,?_⟩;simp [Oper.wp,execOp,Oper.upon,go_sem,Act.eval,e0,f0];exact hK _ w' (Below.refl _ _) rfl
  ·intro act w' hbe hd ho K hK
   have g9:act.tmps.getD 2 undef=.pointer (some ⟨rb,0,none⟩):=ho 2 (by kernel_rfl);refine .inl ⟨Aa rfl,?_⟩;simp [Oper.wp,execOp,Oper.upon,go_sem,Act.eval,g9];exact hK _ w' (Below.refl _ _) rfl
  ·intro act w' hbe hd ho K hK
   have e0:act.tmps.getD 11 undef=.pointer (some ⟨rb,1,none⟩):=hd 2 (by rfl);refine .inl ⟨Aa rfl,?_⟩;simp [Oper.wp,execOp,Oper.upon,go_sem,Act.eval,e0];exact hK _ w' (Below.refl _ _) rfl
  ·intro act w' hbe hd ho K hK
   have e0:act.tmps.getD 12 undef=.pointer (some ⟨rb,1,none⟩):=hd 3 (by rfl);have f0:=Bj4 hbe y1;refine .inl ⟨Aa rfl,?_⟩;simp [Oper.wp,execOp,Oper.upon,go_sem,Act.eval,e0,f0];exact hK _ w' (Below.refl _ _) rfl
  ·intro act w' hbe hd ho K hK
   have g9:act.tmps.getD 0 undef=.int .i64 (k:Int):=ho 0 (by kernel_rfl);refine .inl ⟨Aa rfl,?_⟩;simp [Oper.wp,execOp,Oper.upon,go_sem,Act.eval,g9];exact hK _ w' (Below.refl _ _) rfl
  ·intro act w' hbe hd ho K hK
   have e0:act.tmps.getD 13 undef=.slice (some ⟨lb,lo,none⟩) l.length lc:=hd 4 (by rfl);have e1:act.tmps.getD 14 undef=.int .i64 (k:Int):=hd 5 (by rfl);refine .inl ⟨Aa rfl,?_⟩;simp [Oper.wp,execOp,Oper.upon,go_sem,Act.eval,e0,e1,hk];exact hK _ w' (Below.refl _ _) rfl
  ·intro act w' hbe hd ho K hK
   have e0:act.tmps.getD 15 undef=.pointer (some ⟨lb,lo+k,none⟩):=hd 6 (by rfl);have f0:=Bj4 hbe hlk;refine .inl ⟨Aa rfl,?_⟩;simp [Oper.wp,execOp,Oper.upon,go_sem,Act.eval,e0,f0];exact hK _ w' (Below.refl _ _) rfl
  ·intro act w' hbe hd ho K hK
   have e0:act.tmps.getD 10 undef=.slice (some ⟨eb,eo,none⟩) es.length cap:=hd 1 (by rfl);have e1:act.tmps.getD 16 undef=.int .i64 (j:Int):=hd 7 (by rfl);refine .inl ⟨Aa rfl,?_⟩;simp [Oper.wp,execOp,Oper.upon,go_sem,Act.eval,e0,e1,hj];exact hK _ w' (Below.refl _ _) rfl
  ·intro act w' hbe hd ho K hK
   have e0:act.tmps.getD 17 undef=.pointer (some ⟨eb,eo+j*3,none⟩):=hd 8 (by rfl);have f0:=Bj4 hbe z0;have f1:=Bj4 hbe z1;have f2:=Bj4 hbe z2;refine .inl ⟨Aa rfl,?_⟩;simp [Oper.wp,execOp,Oper.upon,go_sem,Act.eval,e0,f0,f1,f2];exact hK _ w' (Below.refl _ _) rfl
  ·intro act w' hbe hd ho K hK
   refine .inl ⟨Aa rfl,?_⟩;simp [Oper.wp,execOp,Oper.upon,go_sem,Act.eval];refine hK _ _ (Below.of_al _ _) ⟨w'.heap.size,rfl,hbe.size,?_⟩
   show (w'.heap.push _)[w'.heap.size]? =_
   rw [Array.getElem?_push_size]
 case hend=>
  intro vs act w8 hb8 hR hon hoff hact;have e8:vs 9=.agg #[.int .i64 (fn:Int),.int .i64 (tn:Int),.int .u64 ew]:=hR 9 (by decide);obtain ⟨b,e9,hbL,hbb⟩:=hR 10 (by decide);have q1:act.tmps.getD 18 undef=.agg #[.int .i64 (fn:Int),.int .i64 (tn:Int),.int .u64 ew]:=(hon 9 (by decide)).trans e8;have q2:act.tmps.getD 8 undef=.pointer (some ⟨b,0,none⟩):=(hon 10 (by decide)).trans e9;obtain ⟨x0,x1,x2,zz⟩:=Xm hbb;have v0:=zz 0;have v1:=zz 1;have v2:=zz 2;simp only [Gd];simp [Oper.wp,execOp,Oper.upon,go_sem,Act.eval,q1,q2,x0,x1,x2,v0,v1,v2];rw [hact];simp only [Al,Ae,Bl5,Bl4,Bl9,Bl8,Act.put,Bk8,Bk9,Nat.reduceAdd,Bl3,Bl6,Bl7];rw [e9];obtain ⟨W9,hW9⟩:∃W9,W9=((w8.setCell ⟨b,0,none⟩ (.int .i64 (fn:Int))).setCell ⟨b,1,none⟩ (.int .i64 (tn:Int))).setCell ⟨b,2,none⟩ (.int .u64 ew):=⟨_,rfl⟩;obtain ⟨u0,u1,u2⟩:=Aw9 (.int .i64 (fn:Int)) (.int .i64 (tn:Int)) (.int .u64 ew) x0 x1 x2;have hb9:Below w.heap.size w W9:=by
   rw [hW9];exact hb8.trans ((Bi2 _ _ _ _ _).below hb8.size (fun k e=>by have e2:k=b:=e;omega))
  rw [<-hW9] at u0 u1 u2 ⊢;have HB9:=Bj3 hb9;have p2:=Bj4 hb9 hX2;have p3:=Bj4 hb9 hA;have p4:=Bj4 hb9 hO;have p5:=Bj4 hb9 hB;have hn0:0<n:=by omega
  obtain ⟨ab',ao',ea,cfa⟩:=(hfa.go hb9).base hn0;obtain ⟨bb',bo',eb',cfb⟩:=(hfb.go hb9).base hn0;obtain ⟨ob',oo',eo',col⟩:=(hol.go hb9).base (by omega);subst ea eb' eo';obtain ⟨q3,g3,g3'⟩:=cfa fn hfn;obtain ⟨q5,g5,g5'⟩:=cfb tn htn;obtain ⟨q4,g4,g4'⟩:=col k (by omega);obtain ⟨q6,g6,g6'⟩:=col (k+1) (by omega);rw [show (((k+1:Nat):Int))=(k:Int)+1 from rfl] at q6 g6 g6';clear hR hon hoff hact q1 q2 e8 e9 hbL hbb x0 x1 x2 zz v0 v1 v2 hW9 hb9 hb8 cfa cfb col hX1 hX2 hl hA hO hB hfa hfb hol c0 c1 y1 hG0 hG1 z0 z1 z2 hlk u2;generalize vs 0=m0;generalize vs 1=m1;generalize vs 2=m2;generalize vs 3=m3;generalize vs 4=m4;generalize vs 5=m5;generalize vs 6=m6;generalize vs 7=m7;generalize vs 8=m8;generalize vs 9=m9;generalize gD fa (fn:Int)=da at*;generalize gD fb (tn:Int)=db at*;generalize gD ol (k:Int)=o1 at*;generalize gD ol ((k:Int)+1)=o2 at*;have f0:=fun p=>Ab p u0;have f1:=fun p=>Ab p u1;have f2:=fun p=>Ab p p2;have f3:=fun p=>Ab p p3;have f4:=fun p=>Ab p p4;have f5:=fun p=>Ab p p5;have f6:=fun p=>Ab p q3;have f7:=fun p=>Ab p q4;have f8:=fun p=>Ab p q5;have f9:=fun p=>Ab p q6;have k0:(0:Int)<=(k:Int):=by omega
  have k1:(k:Int)<((l.length+1:Nat):Int):=by omega
  have k2:(k:Int)+1<((l.length+1:Nat):Int):=by omega
  have k3:(0:Int)<=(k:Int)+1:=by omega
  have t0:(0:Int)<=(fn:Int):=by omega
  have t1:(fn:Int)<(n:Int):=by omega
  have t2:(0:Int)<=(tn:Int):=by omega
  have t3:(tn:Int)<(n:Int):=by omega
  have hwr:IntKind.u64.wrap (db+o2)=db+o2:=by rw [Bo5];omega
  have hwk:wrap64 ((k:Int)+1)=(k:Int)+1:=IntWalk.wrap64_in _ ⟨by omega,by omega⟩;have hM:k+1<l.length+1:=Nat.succ_lt_succ hk;generalize l.length+1=M at*;have HU:=Bj3 u0;clear hM hk u0 u1 p2 p3 p4 p5 q3 q4 q5 q6
  by_cases h1:da=o1
  ·have h1':(da==o1)=true:=by simpa using h1
   by_cases h2:db+o2=W
   ·have h2':(db+o2==W)=true:=by simpa using h2
    obtain rfl:r=true:=by rw [HRR.out];simp [h1,h2]
    clear h1 h2 HRR
    go_step
    go_upto_region 2 with fail
    refine Af (by kernel_rfl) (by kernel_rfl) ?_
    repeat (go_big_quiet_step (fail))
    refine wpQuiet_nil ?_;rintro _ ⟨pa,rfl⟩;have HBa:=Bj3 (Ah W9 pa);generalize ext W9 pa=wa at HBa ⊢
    go_wp2
    go_ret
    exact ⟨rfl,HB9.out.st HBa.out⟩
   ·have h2':(db+o2==W)=false:=by rw [beq_eq_false_iff_ne];exact h2
    obtain rfl:r=false:=by rw [HRR.out];simp [h2]
    clear h1 h2 HRR
    go_step
    go_upto_region 2 with fail
    refine Af (by kernel_rfl) (by kernel_rfl) ?_
    repeat (go_big_quiet_step (fail))
    refine wpQuiet_nil ?_;rintro _ ⟨pa,rfl⟩;have HBa:=Bj3 (Ah W9 pa);generalize ext W9 pa=wa at HBa ⊢
    go_wp2
    go_ret
    exact ⟨rfl,HB9.out.st HBa.out⟩
  ·have h1':(da==o1)=false:=by rw [beq_eq_false_iff_ne];exact h1
   obtain rfl:r=false:=by rw [HRR.out];simp [h1]
   clear h1 HRR
   go_step
   go_upto_region 2 with fail
   refine Af (by kernel_rfl) (by kernel_rfl) ?_
   repeat (go_big_quiet_step (fail))
   refine wpQuiet_nil ?_;rintro _ ⟨pa,rfl⟩;have HBa:=Bj3 (Ah W9 pa);generalize ext W9 pa=wa at HBa ⊢
   go_wp2
   go_ret
   exact ⟨rfl,HB9.out.st HBa.out⟩
theorem Az0 (n k j lc ac bc oc cap:Nat) (es:List EdgeD) (ao la fo go oo:Option Addr) (l fa fb ol:List Int) (W:Int) (w:World) (hc:Cel w ao (Ar es)) (hl:Cel w la (l.map Ai)) (hfa:RowW w fo fa n 4611686018427387904) (hfb:RowW w go fb n 4611686018427387904) (hol:RowW w oo ol (l.length+1) 4611686018427387904) (hE:EOK n es) (hk:k<l.length) (hlj:l[k]? =some (j:Int)) (hj:j<es.length) (hW:0<=W/\W<=4611686018427387904) (hoW:gD ol ((k:Int)+1)<=W) (hll:l.length<=1000000):
  Calls Tryz.prog 86 #[.agg #[.int .i64 (n:Int),.slice ao es.length cap],.slice fo n ac,.slice go n bc,.slice oo (l.length+1) oc,.agg #[.slice la l.length lc,.int .u64 W],.int .i64 (k:Int)] w fun e w'=>e=.returned (.bool (onB es l fa fb ol W k))/\Below w.heap.size w w':=by
 obtain ⟨lb,lo,rfl,hlk⟩:=hl k (.int .i64 (j:Int)) (by rw [Bl2,hlj];rfl);obtain ⟨eb,eo,rfl,z0,z1,z2⟩:=hc.edge hj;obtain ⟨hnf,hnt,hw1,hw2⟩:=hE es[j] (Bk5 hj);have HOE:=Bj3 (show es.getD (gD l (k:Int)).toNat edZ=es[j] by
  have h1:gD l (k:Int)=(j:Int):=by unfold gD;rw [Bk7,Bj9,hlj];rfl
  rw [h1,Bk7,Bj9,Bj8 hj];rfl)
 have HON:=Bj3 (show onB es l fa fb ol W k=(decide (gD fa es[j].f=gD ol (k:Int))&&decide (gD fb es[j].t+gD ol ((k:Int)+1)=W)) by unfold onB;rw [HOE.out]);rw [HON.out];generalize es[j]=ed at*;obtain ⟨ef,et,ew⟩:=ed;simp only at hnf hnt hw1 hw2 z0 z1 z2;obtain ⟨fn,rfl⟩:∃q:Nat,ef=(q:Int):=⟨ef.toNat,by have:=hnf.1;omega⟩;obtain ⟨tn,rfl⟩:∃q:Nat,et=(q:Int):=⟨et.toNat,by have:=hnt.1;omega⟩;have hfn:fn<n:=by have:=hnf.2;omega
 have htn:tn<n:=by have:=hnt.2;omega
 obtain ⟨r,hr⟩:∃r,r=(decide (gD fa (fn:Int)=gD ol (k:Int))&&decide (gD fb (tn:Int)+gD ol ((k:Int)+1)=W)):=⟨_,rfl⟩;rw [<-hr];have HRR:=Bj3 hr;clear HON HOE hE hc hlj hr;obtain ⟨W1,hW1⟩:∃W1,W1=(w.alloc (Obj.cells #[.int .i64 (n:Int),.slice (some ⟨eb,eo,none⟩) es.length cap] 24)).alloc (Obj.cells #[.slice (some ⟨lb,lo,none⟩) l.length lc,.int .u64 W] 39):=⟨_,rfl⟩;have hb1:Below w.heap.size w W1:=by rw [hW1];exact (Below.of_al _ _).al _
 have c1:W1.cell? ⟨w.heap.size,1,none⟩=some (.slice (some ⟨eb,eo,none⟩) es.length cap):=by rw [hW1];go_simp
 have y1:W1.cell? ⟨w.heap.size+1,0,none⟩=some (.slice (some ⟨lb,lo,none⟩) l.length lc):=by rw [hW1];go_simp
 have hX2:W1.cell? ⟨w.heap.size+1,1,none⟩=some (.int .u64 W):=by rw [hW1];go_simp
 have z0:=Bj4 hb1 z0;have z1:=Bj4 hb1 z1;have z2:=Bj4 hb1 z2;have hlk:=Bj4 hb1 hlk;have hfa:=hfa.go hb1;have hfb:=hfb.go hb1;have hol:=hol.go hb1;have HB1:=Bj3 hb1;have HW1:=Bj3 hW1;clear hW1 hb1
 go_enter Tryz.func86,Tryz.ntmps86
 go_upto_region 1 with (fail)
 rw [<-HW1.out];refine Cm 10 _ _ rfl rfl (onR W1.heap.size w.heap.size (w.heap.size+1) 0 es.length cap (some ⟨eb,eo,none⟩) (.slice (some ⟨lb,lo,none⟩) l.length lc) (.pointer (some ⟨lb,lo+k,none⟩)) (.pointer (some ⟨eb,eo+j*3,none⟩)) (k:Int) (j:Int) ⟨(fn:Int),(tn:Int),ew⟩) (by decide) (by kernel_rfl) (by kernel_rfl) (by kernel_rfl) (by kernel_rfl) Au5 ?hop ?hend
 case hop=>
  refine ⟨?_,?_,?_,?_,?_,?_,?_,?_,?_,?_,trivial⟩
  ·intro act w' hbe hd ho K hK
   have g9:act.tmps.getD 6 undef=.pointer (some ⟨w.heap.size,0,none⟩):=ho 6 (by kernel_rfl);refine .inl ⟨Aa rfl,?_⟩;simp [Oper.wp,execOp,Oper.upon,go_sem,Act.eval,g9];exact hK _ w' (Below.refl _ _) rfl
  ·intro act w' hbe hd ho K hK
   have e0:act.tmps.getD 14 undef=.pointer (some ⟨w.heap.size,1,none⟩):=hd 0 (by rfl);have f0:=Bj4 hbe c1;refine .inl ⟨Aa rfl,?_⟩;simp [Oper.wp,execOp,Oper.upon,go_sem,Act.eval,e0,f0];exact hK _ w' (Below.refl _ _) rfl
  ·intro act w' hbe hd ho K hK
   have g9:act.tmps.getD 10 undef=.pointer (some ⟨w.heap.size+1,0,none⟩):=ho 10 (by kernel_rfl);refine .inl ⟨Aa rfl,?_⟩;simp [Oper.wp,execOp,Oper.upon,go_sem,Act.eval,g9];exact hK _ w' (Below.refl _ _) rfl
  ·intro act w' hbe hd ho K hK
   have e0:act.tmps.getD 16 undef=.pointer (some ⟨w.heap.size+1,0,none⟩):=hd 2 (by rfl);have f0:=Bj4 hbe y1;refine .inl ⟨Aa rfl,?_⟩;simp [Oper.wp,execOp,Oper.upon,go_sem,Act.eval,e0,f0];exact hK _ w' (Below.refl _ _) rfl
  ·intro act w' hbe hd ho K hK
   have g9:act.tmps.getD 5 undef=.int .i64 (k:Int):=ho 5 (by kernel_rfl);refine .inl ⟨Aa rfl,?_⟩;simp [Oper.wp,execOp,Oper.upon,go_sem,Act.eval,g9];exact hK _ w' (Below.refl _ _) rfl
  ·intro act w' hbe hd ho K hK
   have e0:act.tmps.getD 17 undef=.slice (some ⟨lb,lo,none⟩) l.length lc:=hd 3 (by rfl);have e1:act.tmps.getD 18 undef=.int .i64 (k:Int):=hd 4 (by rfl);refine .inl ⟨Aa rfl,?_⟩;simp [Oper.wp,execOp,Oper.upon,go_sem,Act.eval,e0,e1,hk];exact hK _ w' (Below.refl _ _) rfl
  ·intro act w' hbe hd ho K hK
   have e0:act.tmps.getD 19 undef=.pointer (some ⟨lb,lo+k,none⟩):=hd 5 (by rfl);have f0:=Bj4 hbe hlk;refine .inl ⟨Aa rfl,?_⟩;simp [Oper.wp,execOp,Oper.upon,go_sem,Act.eval,e0,f0];exact hK _ w' (Below.refl _ _) rfl
  ·intro act w' hbe hd ho K hK
   have e0:act.tmps.getD 15 undef=.slice (some ⟨eb,eo,none⟩) es.length cap:=hd 1 (by rfl);have e1:act.tmps.getD 20 undef=.int .i64 (j:Int):=hd 6 (by rfl);refine .inl ⟨Aa rfl,?_⟩;simp [Oper.wp,execOp,Oper.upon,go_sem,Act.eval,e0,e1,hj];exact hK _ w' (Below.refl _ _) rfl
  ·intro act w' hbe hd ho K hK
   have e0:act.tmps.getD 21 undef=.pointer (some ⟨eb,eo+j*3,none⟩):=hd 7 (by rfl);have f0:=Bj4 hbe z0;have f1:=Bj4 hbe z1;have f2:=Bj4 hbe z2;refine .inl ⟨Aa rfl,?_⟩;simp [Oper.wp,execOp,Oper.upon,go_sem,Act.eval,e0,f0,f1,f2];exact hK _ w' (Below.refl _ _) rfl
  ·intro act w' hbe hd ho K hK
   refine .inl ⟨Aa rfl,?_⟩;simp [Oper.wp,execOp,Oper.upon,go_sem,Act.eval];refine hK _ _ (Below.of_al _ _) ⟨w'.heap.size,rfl,hbe.size,?_⟩
   show (w'.heap.push _)[w'.heap.size]? =_
   rw [Array.getElem?_push_size]
 case hend=>
  intro vs act w8 hb8 hR hon hoff hact;have e8:vs 8=.agg #[.int .i64 (fn:Int),.int .i64 (tn:Int),.int .u64 ew]:=hR 8 (by decide);obtain ⟨b,e9,hbL,hbb⟩:=hR 9 (by decide);have q1:act.tmps.getD 22 undef=.agg #[.int .i64 (fn:Int),.int .i64 (tn:Int),.int .u64 ew]:=(hon 8 (by decide)).trans e8;have q2:act.tmps.getD 13 undef=.pointer (some ⟨b,0,none⟩):=(hon 9 (by decide)).trans e9;obtain ⟨x0,x1,x2,zz⟩:=Xm hbb;have v0:=zz 0;have v1:=zz 1;have v2:=zz 2;simp only [Gd];simp [Oper.wp,execOp,Oper.upon,go_sem,Act.eval,q1,q2,x0,x1,x2,v0,v1,v2];rw [hact];simp only [Al,Ae,Bl5,Bl4,Bl9,Bl8,Act.put,Bk8,Bk9,Nat.reduceAdd,Bl3,Bl6,Bl7];rw [e9];obtain ⟨W9,hW9⟩:∃W9,W9=((w8.setCell ⟨b,0,none⟩ (.int .i64 (fn:Int))).setCell ⟨b,1,none⟩ (.int .i64 (tn:Int))).setCell ⟨b,2,none⟩ (.int .u64 ew):=⟨_,rfl⟩;obtain ⟨u0,u1,u2⟩:=Aw9 (.int .i64 (fn:Int)) (.int .i64 (tn:Int)) (.int .u64 ew) x0 x1 x2;have hb9:Below W1.heap.size W1 W9:=by
   rw [hW9];exact hb8.trans ((Bi2 _ _ _ _ _).below hb8.size (fun k e=>by have e2:k=b:=e;omega))
  rw [<-hW9] at u0 u1 u2 ⊢;have HB9:=Bj3 hb9;have p2:=Bj4 hb9 hX2;have hn0:0<n:=by omega
  obtain ⟨ab',ao',ea,cfa⟩:=(hfa.go hb9).base hn0;obtain ⟨bb',bo',eb',cfb⟩:=(hfb.go hb9).base hn0;obtain ⟨ob',oo',eo',col⟩:=(hol.go hb9).base (by omega);subst ea eb' eo';obtain ⟨q3,g3,g3'⟩:=cfa fn hfn;obtain ⟨q5,g5,g5'⟩:=cfb tn htn;obtain ⟨q4,g4,g4'⟩:=col k (by omega);obtain ⟨q6,g6,g6'⟩:=col (k+1) (by omega);rw [show (((k+1:Nat):Int))=(k:Int)+1 from rfl] at q6 g6 g6';clear hR hon hoff hact q1 q2 e8 e9 hbL hbb x0 x1 x2 zz v0 v1 v2 hW9 hb9 hb8 cfa cfb col hX2 hl hfa hfb hol c1 y1 z0 z1 z2 hlk u2;generalize vs 0=m0;generalize vs 1=m1;generalize vs 2=m2;generalize vs 3=m3;generalize vs 4=m4;generalize vs 5=m5;generalize vs 6=m6;generalize vs 7=m7;generalize vs 8=m8;generalize gD fa (fn:Int)=da at*;generalize gD fb (tn:Int)=db at*;generalize gD ol (k:Int)=o1 at*;generalize gD ol ((k:Int)+1)=o2 at*;have f0:=fun p=>Ab p u0;have f1:=fun p=>Ab p u1;have f2:=fun p=>Ab p p2;have f6:=fun p=>Ab p q3;have f7:=fun p=>Ab p q4;have f8:=fun p=>Ab p q5;have f9:=fun p=>Ab p q6;have k0:(0:Int)<=(k:Int):=by omega
  have k1:(k:Int)<((l.length+1:Nat):Int):=by omega
  have k2:(k:Int)+1<((l.length+1:Nat):Int):=by omega
  have k3:(0:Int)<=(k:Int)+1:=by omega
  have t0:(0:Int)<=(fn:Int):=by omega
  have t1:(fn:Int)<(n:Int):=by omega
  have t2:(0:Int)<=(tn:Int):=by omega
  have t3:(tn:Int)<(n:Int):=by omega
  have hwr:IntKind.u64.wrap (W-o2)=W-o2:=by rw [Bo5];omega
  have hwk:wrap64 ((k:Int)+1)=(k:Int)+1:=IntWalk.wrap64_in _ ⟨by omega,by omega⟩;have hM:k+1<l.length+1:=Nat.succ_lt_succ hk;generalize l.length+1=M at*;have HU:=Bj3 u0;clear hM hk u0 u1 p2 q3 q4 q5 q6
  by_cases h1:da=o1
  ·have h1':(da==o1)=true:=by simpa using h1
   by_cases h2:db+o2=W
   ·have h2':(db==W-o2)=true:=by rw [beq_iff_eq];omega
    obtain rfl:r=true:=by rw [HRR.out];simp [h1,h2]
    clear h1 h2 HRR
    go_step
    go_upto_region 2 with fail
    refine Af (by kernel_rfl) (by kernel_rfl) ?_
    repeat (go_big_quiet_step (fail))
    refine wpQuiet_nil ?_;rintro _ ⟨pa,rfl⟩;have HBa:=Bj3 (Ah W9 pa);generalize ext W9 pa=wa at HBa ⊢
    go_wp2
    go_ret
    exact ⟨rfl,HB1.out.st (HB9.out.st HBa.out)⟩
   ·have h2':(db==W-o2)=false:=by rw [beq_eq_false_iff_ne];omega
    obtain rfl:r=false:=by rw [HRR.out];simp [h2]
    clear h1 h2 HRR
    go_step
    go_upto_region 2 with fail
    refine Af (by kernel_rfl) (by kernel_rfl) ?_
    repeat (go_big_quiet_step (fail))
    refine wpQuiet_nil ?_;rintro _ ⟨pa,rfl⟩;have HBa:=Bj3 (Ah W9 pa);generalize ext W9 pa=wa at HBa ⊢
    go_wp2
    go_ret
    exact ⟨rfl,HB1.out.st (HB9.out.st HBa.out)⟩
  ·have h1':(da==o1)=false:=by rw [beq_eq_false_iff_ne];exact h1
   obtain rfl:r=false:=by rw [HRR.out];simp [h1]
   clear h1 HRR
   go_step
   go_upto_region 2 with fail
   refine Af (by kernel_rfl) (by kernel_rfl) ?_
   repeat (go_big_quiet_step (fail))
   refine wpQuiet_nil ?_;rintro _ ⟨pa,rfl⟩;have HBa:=Bj3 (Ah W9 pa);generalize ext W9 pa=wa at HBa ⊢
   go_wp2
   go_ret
   exact ⟨rfl,HB1.out.st (HB9.out.st HBa.out)⟩
end Vi
end
end Go.Proofs.YteaaapdjplbljaaGreat
