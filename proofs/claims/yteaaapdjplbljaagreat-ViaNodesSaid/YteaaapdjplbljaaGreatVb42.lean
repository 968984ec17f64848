/- Parts; no condition. -/
import Derived.Test.YteaaapdjplbljaaGreatVb41
import Derived.IntWalk
set_option linter.unusedVariables false
set_option linter.unusedSimpArgs false
set_option linter.unnecessarySimpa false
set_option maxRecDepth 100000
set_option maxHeartbeats 8000000
namespace Go.Proofs.YteaaapdjplbljaaGreat
section
namespace Vi
open Go Go.Proofs Go.RowKit Go.Shelf Hp Ch Ad Ro Dj
theorem Dm (n:Nat) (es:List EdgeD) (ao:Option Addr) (cap:Nat) (v:Int) (w:World):
  Calls Tryz.prog 79 #[.agg #[.int .i64 (n:Int),.slice ao es.length cap],.int .i64 v] w fun e w'=>e=.returned (.bool (!Eg n v))/\Below w.heap.size w w':=by
 unfold Eg
 by_cases h:v<0
 ·have h2:¬(0:Int)<=v:=by omega
  go_enter Tryz.func79,Tryz.ntmps79
  go_wp2
  go_ret
  exact ⟨by simp [h],Below.of_al _ _⟩
 ·have h2:(0:Int)<=v:=by omega
  by_cases h':(n:Int)<=v
  ·have h3:¬v<(n:Int):=by omega
   go_enter Tryz.func79,Tryz.ntmps79
   go_wp2
   go_ret
   exact ⟨by simp [h,h'],Below.of_al _ _⟩
  ·have h3:v<(n:Int):=by omega
   go_enter Tryz.func79,Tryz.ntmps79
   go_wp2
   go_ret
   exact ⟨by simp [h,h'],Below.of_al _ _⟩
def rbR (L b1 b2:Nat) (a1:Option Addr) (c1:Nat) (l1:List Int) (x1:Int) (a2:Option Addr) (c2:Nat) (l2:List Int) (x2:Int):Nat->Value->World->Prop
 |0,v,w=>∃g,v=.slice (some ⟨g,0,none⟩) 0 0/\w.ownsRow L 3 1 (.slice (some ⟨g,0,none⟩) 0 0) 0 []
 |1,v,_=>v=.pointer (some ⟨b1,0,none⟩)
 |2,v,_=>v=.slice a1 l1.length c1
 |3,v,w=>∃a c,v=.slice a l1.length c/\w.ownsRow L 3 1 (.slice a l1.length c) l1.length (l1.map Ai)
 |4,v,_=>v=.pointer (some ⟨b2,0,none⟩)
 |5,v,_=>v=.slice a2 l2.length c2
 |6,v,w=>∃a c,v=.slice a (l1.length+l2.length) c/\w.ownsRow L 3 1 (.slice a (l1.length+l2.length) c) (l1.length+l2.length) (l1.map Ai++l2.map Ai)
 |7,v,_=>v=.pointer (some ⟨b1,1,none⟩)
 |8,v,_=>v=.int .u64 x1
 |9,v,_=>v=.pointer (some ⟨b2,1,none⟩)
 |10,v,_=>v=.int .u64 x2
 |11,v,_=>v=.int .u64 (x1+x2)
 |12,v,w=>∃a c,v=.agg #[.slice a (l1.length+l2.length) c,.int .u64 (x1+x2)]/\w.ownsRow L 3 1 (.slice a (l1.length+l2.length) c) (l1.length+l2.length) (l1.map Ai++l2.map Ai)
 |_,v,w=>∃b,v=.pointer (some ⟨b,0,none⟩)/\L<=b/\w.heap[b]? =some (.cells #[.slice none 0 0,.int .u64 0] 39 (0,0))
section
variable {L b1 b2 c1 c2:Nat} {a1 a2:Option Addr} {l1 l2:List Int} {x1 x2:Int}
theorem Bi4:∀i v w' w'',Below w'.heap.size w' w''->rbR L b1 b2 a1 c1 l1 x1 a2 c2 l2 x2 i v w'->rbR L b1 b2 a1 c1 l1 x1 a2 c2 l2 x2 i v w''
 |0,_,_,_,hb,⟨g,e,h⟩=>⟨g,e,Ag h hb⟩
 |1,_,_,_,_,h=>h
 |2,_,_,_,_,h=>h
 |3,_,_,_,hb,⟨a,c,e,h⟩=>⟨a,c,e,Ag h hb⟩
 |4,_,_,_,_,h=>h
 |5,_,_,_,_,h=>h
 |6,_,_,_,hb,⟨a,c,e,h⟩=>⟨a,c,e,Ag h hb⟩
 |7,_,_,_,_,h=>h
 |8,_,_,_,_,h=>h
 |9,_,_,_,_,h=>h
 |10,_,_,_,_,h=>h
 |11,_,_,_,_,h=>h
 |12,_,_,_,hb,⟨a,c,e,h⟩=>⟨a,c,e,Ag h hb⟩
 |_+13,_,_,_,hb,⟨b,e,h,k⟩=>⟨b,e,h,(hb.block _ (Bm7.1 k).1).trans k⟩
theorem Av0:∀i v w' w'',i≠6->KeepA L l1.length (l1.map Ai) l2.length (l2.map Ai) 3 w' w''->rbR L b1 b2 a1 c1 l1 x1 a2 c2 l2 x2 i v w'->rbR L b1 b2 a1 c1 l1 x1 a2 c2 l2 x2 i v w''
 |0,_,_,_,_,hb,⟨g,e,h⟩=>⟨g,e,hb.lit g h⟩
 |1,_,_,_,_,_,h=>h
 |2,_,_,_,_,_,h=>h
 |3,_,_,_,_,hb,⟨a,c,e,h⟩=>⟨a,c,e,hb.row _ h⟩
 |4,_,_,_,_,_,h=>h
 |5,_,_,_,_,_,h=>h
 |6,_,_,_,h,_,_=>absurd rfl h
 |7,_,_,_,_,_,h=>h
 |8,_,_,_,_,_,h=>h
 |9,_,_,_,_,_,h=>h
 |10,_,_,_,_,_,h=>h
 |11,_,_,_,_,_,h=>h
 |12,_,_,_,_,hb,⟨a,c,e,h⟩=>⟨a,c,e,hb.full _ h⟩
 |_+13,_,_,_,_,hb,⟨b,e,h,k⟩=>⟨b,e,h,hb.oth b _ k (fun c e=>by cases e)⟩
end
theorem Ak0 (l:List Int):∀u∈l.map Ai,u.oneCell'=true:=fun u hu=>by
 obtain ⟨x,_,rfl⟩:=List.mem_map.1 hu;rfl
def Al7 (n:Nat) (es:List EdgeD) (s v t:Int) (w:World) (e:Ending) (w':World):Prop:=
 ∃(la:Option Addr) (l:List Int) (lc:Nat) (V x c k:Int),e=.returned (.tuple #[Fl V la l.length lc x c,.int .i64 k])/\Cel w' la (l.map Ai)/\Below w.heap.size w w'/\ByIs n es s v t V l x c k/\∀y,la=some y->w.heap.size<=y.block/\∃r,w'.heap[y.block]? =some (.cells r 3 (0,0))
theorem Ac2 (n:Nat) (es:List EdgeD) (ao:Option Addr) (cap:Nat) (s v t:Int) (w:World) (hg:Ak ⟨(n:Int),es⟩=0) (hn:n<=100) (hm:es.length<=300) (hc:Cel w ao (Ay es)):
  Calls Tryz.prog 34 #[.agg #[.int .i64 (n:Int),.slice ao es.length cap],.int .i64 s,.int .i64 v,.int .i64 t] w (Al7 n es s v t w):=by
 obtain ⟨W,hW⟩:∃W,W=(w.alloc (Obj.cells #[.int .i64 (n:Int),.slice ao es.length cap] 24)).alloc (Obj.cells #[.int .i64 0,.slice none 0 0,.int .u64 0,.int .i64 0] 66):=⟨_,rfl⟩;have hbw:Below w.heap.size w W:=by rw [hW];exact (Below.of_al _ _).al _
 have c0:W.cell? ⟨w.heap.size,0,none⟩=some (.int .i64 (n:Int)):=by rw [hW];go_simp
 have c1:W.cell? ⟨w.heap.size,1,none⟩=some (.slice ao es.length cap):=by rw [hW];go_simp
 have HRB:=Bm0 (show W.heap[w.heap.size+1]? =some (.cells #[.int .i64 0,.slice none 0 0,.int .u64 0,.int .i64 0] 66 (0,0)) by
  rw [hW];have e:w.heap.size+1=(w.alloc (Obj.cells #[.int .i64 (n:Int),.slice ao es.length cap] 24)).heap.size:=by simp
  rw [e]
  show ((w.alloc (Obj.cells #[.int .i64 (n:Int),.slice ao es.length cap] 24)).heap.push _)[_]? =_
  rw [Array.getElem?_push_size])
 have HRG:=Bm0 (Gz ⟨(n:Int),es⟩ ao cap W (show es.length<=9223372036854775807 by omega) (hc.go hbw));rw [hg] at HRG;simp only at HRG;have HPT:=Bm0 (fun (s t:Int) U (hz:Below w.heap.size w U)=>Yb n es ao cap s t U hg hn hm (hc.go hz));have HNs:=Bm0 (fun U=>Dm n es ao cap s U);have HNv:=Bm0 (fun U=>Dm n es ao cap v U);have HNt:=Bm0 (fun U=>Dm n es ao cap t U);have HE:=Bm0 (Si hg);have HW:=Bm0 hW;have HB:=Bm0 hbw;have HNO:=Bm0 (fun x=>(show Eg n x=false↔Ac n x by
  unfold Eg Ac;constructor
  ·intro h
   simp at h;omega
  ·intro h
   simp;omega))
 have HRX:=Bm0 (fun W2 (hz:Below W.heap.size W W2)=>Mg ((hz.block _ (Bm7.1 HRB.out).1).trans HRB.out));clear hW hbw hg hc
 by_cases hall:Eg n s=false/\Eg n v=false/\Eg n t=false
 ·obtain ⟨h1,h2,h3⟩:=hall
  have HND:=Bm0 (And.intro ((HNO.out s).1 h1) (And.intro ((HNO.out v).1 h2) ((HNO.out t).1 h3)));rw [h1] at HNs;rw [h2] at HNv;rw [h3] at HNt;simp only [Bool.not_false] at HNs HNv HNt;clear h1 h2 h3 HNO;unfold Ku We at HPT
  go_enter Tryz.func34,Tryz.ntmps34
  go_upto_region 1 with (fail)
  rw [<-HW.out]
  go_upto_region 6 with (first
   |(go_at_call 78;refine HRG.out.mono ?_;rintro e w1 ⟨rfl,hb1⟩;(have HB1:=Bm0 hb1);(have d0:=Bm1 hb1 c0);(have d1:=Bm1 hb1 c1);clear hb1)
   |(go_at_call_of 79 (#[.agg #[.int .i64 (n:Int),.slice ao es.length cap],.int .i64 s]:Array Value);refine (HNs.out _).mono ?_;rintro e w2 ⟨rfl,hb2⟩;(have HB2:=Bm0 (HB1.out.st hb2));(have e0:=Bm1 hb2 d0);(have e1:=Bm1 hb2 d1);clear hb2)
   |(go_at_call_of 79 (#[.agg #[.int .i64 (n:Int),.slice ao es.length cap],.int .i64 v]:Array Value);refine (HNv.out _).mono ?_;rintro e w3 ⟨rfl,hb3⟩;(have HB3:=Bm0 (HB2.out.st hb3));(have f0:=Bm1 hb3 e0);(have f1:=Bm1 hb3 e1);clear hb3)
   |(go_at_call_of 79 (#[.agg #[.int .i64 (n:Int),.slice ao es.length cap],.int .i64 t]:Array Value);refine (HNt.out _).mono ?_;rintro e w4 ⟨rfl,hb4⟩;(have HB4:=Bm0 (HB3.out.st hb4));(have g0:=Bm1 hb4 f0);(have g1:=Bm1 hb4 f1);clear hb4)
   |(go_at_call 63;refine (HPT.out s v _ (HB.out.st HB4.out)).mono ?_;rintro e w5 ⟨a1,l1,lc1,x1,k1,rfl,h1,h2,h3,h4⟩;(have HC1:=Bm0 h1);(have HB5:=Bm0 (HB4.out.st h2));(have HR1:=Bm0 h3);(have q0:=Bm1 h2 g0);(have q1:=Bm1 h2 g1);clear h1 h2 h3 h4))
  obtain ⟨W5,hW5⟩:∃W5,W5=w5.alloc (Obj.cells #[.slice a1 l1.length lc1,.int .u64 x1] 39):=⟨_,rfl⟩;rw [<-hW5];have hb5:Below w5.heap.size w5 W5:=by rw [hW5];exact Below.of_al _ _
  have HB5':=Bm0 (HB5.out.st hb5);have HC15:=Bm0 (HC1.out.go hb5);have p0:=Bm1 hb5 q0;have p1:=Bm1 hb5 q1;have m0:W5.cell? ⟨w5.heap.size,0,none⟩=some (.slice a1 l1.length lc1):=by rw [hW5];go_simp
  have m1:W5.cell? ⟨w5.heap.size,1,none⟩=some (.int .u64 x1):=by rw [hW5];go_simp
  clear hW5 hb5 q0 q1 g0 g1 f0 f1 e0 e1 d0 d1 c0 c1
  go_upto_region 7 with (go_at_call 63;refine (HPT.out v t _ (HB.out.st HB5'.out)).mono ?_;rintro e w7 ⟨a2,l2,lc2,x2,k2,rfl,h1,h2,h3,h4⟩;(have HC2:=Bm0 h1);(have HB7:=Bm0 (HB5'.out.st h2));(have HR2:=Bm0 h3);(have HC17:=Bm0 (HC15.out.go h2));(have q0:=Bm1 h2 m0);(have q1:=Bm1 h2 m1);clear h1 h2 h3 h4)
  obtain ⟨W7,hW7⟩:∃W7,W7=w7.alloc (Obj.cells #[.slice a2 l2.length lc2,.int .u64 x2] 39):=⟨_,rfl⟩;rw [<-hW7];have hb7:Below w7.heap.size w7 W7:=by rw [hW7];exact Below.of_al _ _
  have HB7':=Bm0 (HB7.out.st hb7);have HC18:=Bm0 (HC17.out.go hb7);have HC28:=Bm0 (HC2.out.go hb7);have b0:=Bm1 hb7 q0;have b1:=Bm1 hb7 q1;have g0:W7.cell? ⟨w7.heap.size,0,none⟩=some (.slice a2 l2.length lc2):=by rw [hW7];go_simp
  have g1:W7.cell? ⟨w7.heap.size,1,none⟩=some (.int .u64 x2):=by rw [hW7];go_simp
  clear hW7 hb7 q0 q1 m0 m1 p0 p1
  by_cases hk:k1=0/\k2=0
  ·obtain ⟨rfl,rfl⟩:=hk
   have hA:∀u v w,Am es u v w->Ac n u/\Ac n v/\1<=w:=fun a b c h=>by
    have:=XD.ok HE.out a b c (Im (bk:=false).2 h);exact ⟨this.1,this.2.1,this.2.2.1⟩
   obtain ⟨hl1,hx10,hx11⟩:=Dt hA HR1.out;obtain ⟨hl2,hx20,hx21⟩:=Dt hA HR2.out;have hwr:IntKind.u64.wrap (x1+x2)=x1+x2:=by rw [Br2];omega
   have HLN:=Bm0 (And.intro hl1 (And.intro hl2 hn));have HL7:=Bm0 (show w.heap.size+1<w7.heap.size/\w.heap.size+1<w5.heap.size/\w7.heap.size<W7.heap.size from by
    have h1:=(Bm7.1 HRB.out).1;have h2:=HB7.out.size;have h3:=HB5.out.size;exact ⟨by omega,by omega,Bn0 _ _ g0⟩)
   clear hA hl1 hl2 hx10 hx11 hx20 hx21
   go_upto_region 9 with fail
   refine Te 14 _ _ rfl rfl (rbR W7.heap.size w5.heap.size w7.heap.size a1 lc1 l1 x1 a2 lc2 l2 x2) 6 (by decide) (KeepA W7.heap.size l1.length (l1.map Ai) l2.length (l2.map Ai) 3) (fun _ _ h=>h.bel) (by kernel_rfl) (by kernel_rfl) (by kernel_rfl) (by kernel_rfl) Bi4 Av0 ?hop ?hend
   case hop=>
    refine ⟨?_,?_,?_,?_,?_,?_,?_,?_,?_,?_,?_,?_,?_,?_,trivial⟩
    ·intro act w' hbe hd ho K hK
     refine .inl ⟨Aa rfl,?_⟩;simp [Oper.wp,execOp,Oper.upon,go_sem,Act.eval];refine hK _ _ (by rw [if_neg (by decide)];exact Below.of_al _ _) ⟨w'.heap.size,rfl,?_⟩;exact World.ownsRow_lit (base:=W7.heap.size) (e:=3) (size:=1) w' #[] 0 hbe.size (by unfold maxLen;omega) (by simp)
    ·intro act w' hbe hd ho K hK
     have g9:act.tmps.getD 10 undef=.pointer (some ⟨w5.heap.size,0,none⟩):=ho 10 (by kernel_rfl);refine .inl ⟨Aa rfl,?_⟩;simp [Oper.wp,execOp,Oper.upon,go_sem,Act.eval,g9];exact hK _ w' (by rw [if_neg (by decide)];exact Below.refl _ _) rfl
    ·intro act w' hbe hd ho K hK
     have e1:act.tmps.getD 60 undef=.pointer (some ⟨w5.heap.size,0,none⟩):=hd 1 (by rfl);have c0:=Bm1 hbe b0;refine .inl ⟨Aa rfl,?_⟩;simp [Oper.wp,execOp,Oper.upon,go_sem,Act.eval,e1,c0];exact hK _ w' (by rw [if_neg (by decide)];exact Below.refl _ _) rfl
    ·intro act w' hbe hd ho K hK
     obtain ⟨g,e0,hown⟩:∃g,act.tmps.getD 59 undef=.slice (some ⟨g,0,none⟩) 0 0/\w'.ownsRow W7.heap.size 3 1 (.slice (some ⟨g,0,none⟩) 0 0) 0 []:=hd 0 (by rfl);have e2:act.tmps.getD 61 undef=.slice a1 l1.length lc1:=hd 2 (by rfl);obtain ⟨a9,c9,w9,hr9,ho9,-,hb9⟩:=Mr (P:=Tryz.prog) 25 25 W7.heap.size 3 _ 8 Gk Tryz.underlying25 (some ⟨g,0,none⟩) 0 0 [] hown a1 l1.length lc1 (l1.map Ai) (HC18.out.go hbe) (Ak0 l1) ⟨by simp,by have:=HLN.out;omega,by have:=HLN.out;omega,hbe.size⟩;rw [Nat.zero_add] at hr9 ho9;refine .inl ⟨Aa rfl,?_⟩;exact Lib.wp_append_run w' (.tmp 59) (.tmp 61) 25 25 rfl _ _ e0 e2 _ w9 hr9 (hK _ w9 (by rw [if_neg (by decide)];exact hb9 rfl) ⟨a9,c9,rfl,ho9⟩)
    ·intro act w' hbe hd ho K hK
     have g9:act.tmps.getD 12 undef=.pointer (some ⟨w7.heap.size,0,none⟩):=ho 12 (by kernel_rfl);refine .inl ⟨Aa rfl,?_⟩;simp [Oper.wp,execOp,Oper.upon,go_sem,Act.eval,g9];exact hK _ w' (by rw [if_neg (by decide)];exact Below.refl _ _) rfl
    ·intro act w' hbe hd ho K hK
     have e1:act.tmps.getD 63 undef=.pointer (some ⟨w7.heap.size,0,none⟩):=hd 4 (by rfl);have c0:=Bm1 hbe g0;refine .inl ⟨Aa rfl,?_⟩;simp [Oper.wp,execOp,Oper.upon,go_sem,Act.eval,e1,c0];exact hK _ w' (by rw [if_neg (by decide)];exact Below.refl _ _) rfl
    ·intro act w' hbe hd ho K hK
     obtain ⟨a3,c3,e3,hown⟩:∃a c,act.tmps.getD 62 undef=.slice a l1.length c/\w'.ownsRow W7.heap.size 3 1 (.slice a l1.length c) l1.length (l1.map Ai):=hd 3 (by rfl);have e5:act.tmps.getD 64 undef=.slice a2 l2.length lc2:=hd 5 (by rfl);obtain ⟨a9,c9,w9,hr9,ho9,hk9,-⟩:=Mr (P:=Tryz.prog) 25 25 W7.heap.size 3 _ 8 Gk Tryz.underlying25 a3 l1.length c3 (l1.map Ai) hown a2 l2.length lc2 (l2.map Ai) (HC28.out.go hbe) (Ak0 l2) ⟨by simp,by have:=HLN.out;omega,by have:=HLN.out;omega,hbe.size⟩;refine .inl ⟨Aa rfl,?_⟩;exact Lib.wp_append_run w' (.tmp 62) (.tmp 64) 25 25 rfl _ _ e3 e5 _ w9 hr9 (hK _ w9 (by rw [if_pos rfl];exact hk9) ⟨a9,c9,rfl,ho9⟩)
    ·intro act w' hbe hd ho K hK
     have g9:act.tmps.getD 10 undef=.pointer (some ⟨w5.heap.size,0,none⟩):=ho 10 (by kernel_rfl);refine .inl ⟨Aa rfl,?_⟩;simp [Oper.wp,execOp,Oper.upon,go_sem,Act.eval,g9];exact hK _ w' (by rw [if_neg (by decide)];exact Below.refl _ _) rfl
    ·intro act w' hbe hd ho K hK
     have e1:act.tmps.getD 66 undef=.pointer (some ⟨w5.heap.size,1,none⟩):=hd 7 (by rfl);have c0:=Bm1 hbe b1;refine .inl ⟨Aa rfl,?_⟩;simp [Oper.wp,execOp,Oper.upon,go_sem,Act.eval,e1,c0];exact hK _ w' (by rw [if_neg (by decide)];exact Below.refl _ _) rfl
    ·intro act w' hbe hd ho K hK
     have g9:act.tmps.getD 12 undef=.pointer (some ⟨w7.heap.size,0,none⟩):=ho 12 (by kernel_rfl);refine .inl ⟨Aa rfl,?_⟩;simp [Oper.wp,execOp,Oper.upon,go_sem,Act.eval,g9];exact hK _ w' (by rw [if_neg (by decide)];exact Below.refl _ _) rfl
    ·intro act w' hbe hd ho K hK
     have e1:act.tmps.getD 68 undef=.pointer (some ⟨w7.heap.size,1,none⟩):=hd 9 (by rfl);have c0:=Bm1 hbe g1;refine .inl ⟨Aa rfl,?_⟩;simp [Oper.wp,execOp,Oper.upon,go_sem,Act.eval,e1,c0];exact hK _ w' (by rw [if_neg (by decide)];exact Below.refl _ _) rfl
    ·intro act w' hbe hd ho K hK
     have e1:act.tmps.getD 67 undef=.int .u64 x1:=hd 8 (by rfl);have e2:act.tmps.getD 69 undef=.int .u64 x2:=hd 10 (by rfl);refine .inl ⟨Aa rfl,?_⟩;simp [Oper.wp,execOp,Oper.upon,go_sem,Act.eval,e1,e2,hwr];exact hK _ w' (by rw [if_neg (by decide)];exact Below.refl _ _) rfl
    ·intro act w' hbe hd ho K hK
     obtain ⟨a6,c6,e6,hown⟩:∃a c,act.tmps.getD 65 undef=.slice a (l1.length+l2.length) c/\w'.ownsRow W7.heap.size 3 1 (.slice a (l1.length+l2.length) c) (l1.length+l2.length) (l1.map Ai++l2.map Ai):=hd 6 (by rfl);have e11:act.tmps.getD 70 undef=.int .u64 (x1+x2):=hd 11 (by rfl);have z6:=(Bp5 (xs:=act.tmps) (i:=65) (d:=undef)).symm.trans e6;have z11:=(Bp5 (xs:=act.tmps) (i:=70) (d:=undef)).symm.trans e11;refine .inl ⟨Aa rfl,?_⟩;simp [Oper.wp,execOp,Oper.upon,go_sem,Act.eval,e6,e11,z6,z11];exact hK _ w' (by rw [if_neg (by decide)];exact Below.refl _ _) ⟨a6,c6,rfl,hown⟩
    ·intro act w' hbe hd ho K hK
     refine .inl ⟨Aa rfl,?_⟩;simp [Oper.wp,execOp,Oper.upon,go_sem,Act.eval];refine hK _ _ (by rw [if_neg (by decide)];exact Below.of_al _ _) ⟨w'.heap.size,rfl,hbe.size,?_⟩
     show (w'.heap.push _)[w'.heap.size]? =_
     rw [Array.getElem?_push_size]
   case hend=>
    intro vs act w8 hb8 hR hon hoff hact;obtain ⟨a,c,e12,hown⟩:=hR 12 (by decide);obtain ⟨b,e13,hbL,hbb⟩:=hR 13 (by decide);have q71:act.tmps.getD 71 undef=.agg #[.slice a (l1.length+l2.length) c,.int .u64 (x1+x2)]:=(hon 12 (by decide)).trans e12;have q14:act.tmps.getD 14 undef=.pointer (some ⟨b,0,none⟩):=(hon 13 (by decide)).trans e13;obtain ⟨x0,x1',z0,z1⟩:=Ad.Df hbb;simp only [Dx];simp [Oper.wp,execOp,Oper.upon,go_sem,Act.eval,q14,q71,x0,x1',z0,z1];rw [hact];simp only [Al,Ae,Bo2,Bo1,Bo6,Bo5,Act.put,Bn5,Bn6,Nat.reduceAdd,Bo0,Bo3,Bo4];rw [e13];have hL:=HL7.out;obtain ⟨W9,hW9⟩:∃W9,W9=(w8.setCell ⟨b,0,none⟩ (.slice a (l1.length+l2.length) c)).setCell ⟨b,1,none⟩ (.int .u64 (x1+x2)):=⟨_,rfl⟩;obtain ⟨y0,y1⟩:=Cc (.slice a (l1.length+l2.length) c) (.int .u64 (x1+x2)) x0 x1';rw [<-hW9] at y0 y1 ⊢;have ho9:OffX (· =b) w8 W9:=by
     rw [hW9];exact (show OffX (· =b) w8 (w8.setCell ⟨b,0,none⟩ (.slice a (l1.length+l2.length) c)) from .set _ rfl).trans (.set _ rfl)
    have hb9:Below W7.heap.size W7 W9:=hb8.trans (ho9.below hb8.size (fun k e=>by have e2:k=b:=e;omega));have hown9:W9.ownsRow W7.heap.size 3 1 (.slice a (l1.length+l2.length) c) (l1.length+l2.length) (l1.map Ai++l2.map Ai):=Aj hown (fun k hk=>by
     obtain ⟨hk1,hk2⟩:=hown.lt k hk;refine ho9.block k hk2 (fun e=>?_);have e2:k=b:=e;subst e2
     rcases Ao hown with e|⟨g,c9,e⟩
     ·rw [e] at hk;cases hk
     ·obtain ⟨rfl,rfl⟩:a=some ⟨g,0,none⟩/\c=c9:=by cases e;exact ⟨rfl,rfl⟩
      cases hk
      obtain ⟨cur,q1,_⟩:=Ma hown;rw [hbb] at q1
      cases q1)
    obtain ⟨a9,c9,e9,hcl⟩:=Cel.of_owns hown9
    cases e9
    have HC9:=Bm0 hcl;have HN9:=Bm0 (show ∀y,a=some y->W7.heap.size<=y.block from fun y hy=>by subst hy;exact (hown9.lt y.block rfl).1);have HT9:=Bm0 (show ∀y,a=some y->W7.heap.size<=y.block/\∃r,W9.heap[y.block]? =some (.cells r 3 (0,0)) from fun y hy=>by
     subst hy
     rcases Ao hown9 with e|⟨g,c7,e⟩
     ·cases e
     ·cases e
      obtain ⟨cur,q1,_⟩:=Ma hown9;exact ⟨(hown9.lt g rfl).1,cur,q1⟩)
    have HB9:=Bm0 (HB7'.out.st hb9);have q0:=Bm1 hb9 b0;obtain ⟨r0',r1',r2',r3',zz⟩:=HRX.out _ HB9.out;have y2:=zz 0;have y3:=zz 1;have y4:=zz 2;have y5:=zz 3;clear hR hon hoff hact q14 q71 e12 e13 hown hbL hbb x0 x1' z0 z1 hW9 ho9 hb9 hown9 hcl hb8 b0 b1 g0 g1 zz hL;generalize vs 0=u0;generalize vs 1=u1;generalize vs 2=u2;generalize vs 3=u3;generalize vs 4=u4;generalize vs 5=u5;generalize vs 6=u6;generalize vs 7=u7;generalize vs 8=u8;generalize vs 9=u9;generalize vs 10=u10;generalize vs 11=u11;generalize vs 12=u12;obtain ⟨N,hN⟩:∃N,N=l1.length+l2.length:=⟨_,rfl⟩;rw [<-hN] at y0;have HNN:=Bm0 hN;clear hN
    go_wp2
    obtain ⟨r0,r1,r2,r3⟩:=Eu (.int .i64 v) (.slice a N c) (.int .u64 (x1+x2)) (.int .i64 (l1.length:Int)) r0' r1' r2' r3';refine bodyPost_ret (v:=.tuple #[Fl v a N c (x1+x2) (l1.length:Int),.int .i64 0]) (by simp [results,Tryz.results34,go_sem,r0,r1,r2,r3];try rfl) rfl ?_;have ho:=Tk W9 (w.heap.size+1) (.int .i64 v) (.slice a N c) (.int .u64 (x1+x2)) (.int .i64 (l1.length:Int));have hsz7:w.heap.size+1<W7.heap.size:=by have:=HL7.out;omega
    refine ⟨a,l1++l2,c,v,x1+x2,(l1.length:Int),0,by rw [Bp0,<-HNN.out],fun i u hu=>?_,(HB.out.st HB9.out).trans (ho.below (HB.out.st HB9.out).size (fun k e=>by have e2:k=w.heap.size+1:=e;omega)),.inl ⟨rfl,rfl,l1,l2,x1,x2,HR1.out,HR2.out,rfl,rfl,rfl⟩,fun y hy=>by
     obtain ⟨h1,r,h2⟩:=HT9.out y hy;have h3:=(Bm7.1 h2).1;exact ⟨by omega,r,(ho.block y.block h3 (fun e=>by have e2:y.block=w.heap.size+1:=e;omega)).trans h2⟩⟩
    rw [Bq1] at hu;obtain ⟨b,o,e,h8⟩:=HC9.out i u hu;have hl:=HN9.out _ e;exact ⟨b,o,e,ho.cell h8 (fun e2=>by have e3:b=w.heap.size+1:=e2;simp only at hl;omega)⟩
  ·have hkk:=hk
   have HNW:=Bm0 (show (∀e,¬Way0 (Am es) Any s v e)\/∀e,¬Way0 (Am es) Any v t e by
    rcases HR1.out with ⟨h1,_⟩|⟨_,_,_,h1|h1|h1⟩
    ·rcases HR2.out with ⟨h2,_⟩|⟨_,_,_,h2|h2|h2⟩
     ·exact absurd ⟨h1,h2⟩ hk
     ·exact absurd ⟨h1,h2.1⟩ hk
     ·exact .inr h2.2.2.2.2
     ·exact absurd HND.out.2 h2.2.2
    ·rcases HR2.out with ⟨h2,_⟩|⟨_,_,_,h2|h2|h2⟩
     ·exact absurd ⟨h1.1,h2⟩ hk
     ·exact absurd ⟨h1.1,h2.1⟩ hk
     ·exact .inr h2.2.2.2.2
     ·exact absurd HND.out.2 h2.2.2
    ·exact .inl h1.2.2.2.2
    ·exact absurd ⟨HND.out.1,HND.out.2.1⟩ h1.2.2)
   obtain ⟨x0,x1',x2',x3,zz⟩:=HRX.out _ HB7'.out;have z0:=zz 0;have z1:=zz 1;have z2:=zz 2;have z3:=zz 3;have HB6:=Bm0 (HB.out.st HB7'.out)
   by_cases hk1:k1=0
   ·subst hk1
    have hk2:(k2 != 0)=true:=by
     simp;exact fun h2=>hk ⟨rfl,h2⟩
    clear hk hkk
    go_wp2
    obtain ⟨r0,r1,r2,r3⟩:=Eu (.int .i64 0) (.slice none 0 0) (.int .u64 0) (.int .i64 0) x0 x1' x2' x3;refine bodyPost_ret (v:=.tuple #[Fl 0 none 0 0 0 0,.int .i64 9]) (by simp [results,Tryz.results34,go_sem,r0,r1,r2,r3];try rfl) rfl ?_;exact ⟨none,[],0,0,0,0,9,rfl,Cel.nil _ _,HB6.out.trans ((Tk _ _ _ _ _ _).below HB6.out.size (fun k e=>by have e2:k=w.heap.size+1:=e;omega)),.inr ⟨by decide,rfl,rfl,rfl,rfl,.inr ⟨rfl,HND.out.1,HND.out.2.1,HND.out.2.2,HNW.out⟩⟩,fun y hy=>nomatch hy⟩
   ·have hk2:(k1 != 0)=true:=by simpa using hk1
    clear hk hk1 hkk
    go_wp2
    obtain ⟨r0,r1,r2,r3⟩:=Eu (.int .i64 0) (.slice none 0 0) (.int .u64 0) (.int .i64 0) x0 x1' x2' x3;refine bodyPost_ret (v:=.tuple #[Fl 0 none 0 0 0 0,.int .i64 9]) (by simp [results,Tryz.results34,go_sem,r0,r1,r2,r3];try rfl) rfl ?_;exact ⟨none,[],0,0,0,0,9,rfl,Cel.nil _ _,HB6.out.trans ((Tk _ _ _ _ _ _).below HB6.out.size (fun k e=>by have e2:k=w.heap.size+1:=e;omega)),.inr ⟨by decide,rfl,rfl,rfl,rfl,.inr ⟨rfl,HND.out.1,HND.out.2.1,HND.out.2.2,HNW.out⟩⟩,fun y hy=>nomatch hy⟩
 ·have HN7:=Bm0 (show ¬(Ac n s/\Ac n v/\Ac n t) from fun h=>hall ⟨(HNO.out s).2 h.1,(HNO.out v).2 h.2.1,(HNO.out t).2 h.2.2⟩)
  by_cases h1:Eg n s=true
  ·rw [h1] at HNs
   simp only [Bool.not_true] at HNs;clear hall h1 HNO
   go_enter Tryz.func34,Tryz.ntmps34
   go_upto_region 1 with (fail)
   rw [<-HW.out]
   go_upto_region 4 with (first
    |(go_at_call 78;refine HRG.out.mono ?_;rintro e w1 ⟨rfl,hb1⟩;(have HB1:=Bm0 hb1);(have d0:=Bm1 hb1 c0);(have d1:=Bm1 hb1 c1);clear hb1)
    |(go_at_call_of 79 (#[.agg #[.int .i64 (n:Int),.slice ao es.length cap],.int .i64 s]:Array Value);refine (HNs.out _).mono ?_;rintro e w2 ⟨rfl,hb2⟩;(have HB2:=Bm0 (HB1.out.st hb2));(have e0:=Bm1 hb2 d0);(have e1:=Bm1 hb2 d1);clear hb2))
   obtain ⟨x0,x1',x2',x3,zz⟩:=HRX.out _ HB2.out;have z0:=zz 0;have z1:=zz 1;have z2:=zz 2;have z3:=zz 3;have HB6:=Bm0 (HB.out.st HB2.out)
   go_wp2
   obtain ⟨r0,r1,r2,r3⟩:=Eu (.int .i64 0) (.slice none 0 0) (.int .u64 0) (.int .i64 0) x0 x1' x2' x3;refine bodyPost_ret (v:=.tuple #[Fl 0 none 0 0 0 0,.int .i64 7]) (by simp [results,Tryz.results34,go_sem,r0,r1,r2,r3];try rfl) rfl ?_;exact ⟨none,[],0,0,0,0,7,rfl,Cel.nil _ _,HB6.out.trans ((Tk _ _ _ _ _ _).below HB6.out.size (fun k e=>by have e2:k=w.heap.size+1:=e;omega)),.inr ⟨by decide,rfl,rfl,rfl,rfl,.inl ⟨rfl,HN7.out⟩⟩,fun y hy=>nomatch hy⟩
  ·have h1':Eg n s=false:=by simpa using h1
   rw [h1'] at HNs;simp only [Bool.not_false] at HNs
   by_cases h2:Eg n v=true
   ·rw [h2] at HNv
    simp only [Bool.not_true] at HNv;clear hall h1 h1' h2 HNO
    go_enter Tryz.func34,Tryz.ntmps34
    go_upto_region 1 with (fail)
    rw [<-HW.out]
    go_upto_region 4 with (first
     |(go_at_call 78;refine HRG.out.mono ?_;rintro e w1 ⟨rfl,hb1⟩;(have HB1:=Bm0 hb1);(have d0:=Bm1 hb1 c0);(have d1:=Bm1 hb1 c1);clear hb1)
     |(go_at_call_of 79 (#[.agg #[.int .i64 (n:Int),.slice ao es.length cap],.int .i64 s]:Array Value);refine (HNs.out _).mono ?_;rintro e w2 ⟨rfl,hb2⟩;(have HB2:=Bm0 (HB1.out.st hb2));(have e0:=Bm1 hb2 d0);(have e1:=Bm1 hb2 d1);clear hb2)
     |(go_at_call_of 79 (#[.agg #[.int .i64 (n:Int),.slice ao es.length cap],.int .i64 v]:Array Value);refine (HNv.out _).mono ?_;rintro e w3 ⟨rfl,hb3⟩;(have HB3:=Bm0 (HB2.out.st hb3));(have f0:=Bm1 hb3 e0);(have f1:=Bm1 hb3 e1);clear hb3))
    obtain ⟨x0,x1',x2',x3,zz⟩:=HRX.out _ HB3.out;have z0:=zz 0;have z1:=zz 1;have z2:=zz 2;have z3:=zz 3;have HB6:=Bm0 (HB.out.st HB3.out)
    go_wp2
    obtain ⟨r0,r1,r2,r3⟩:=Eu (.int .i64 0) (.slice none 0 0) (.int .u64 0) (.int .i64 0) x0 x1' x2' x3;refine bodyPost_ret (v:=.tuple #[Fl 0 none 0 0 0 0,.int .i64 7]) (by simp [results,Tryz.results34,go_sem,r0,r1,r2,r3];try rfl) rfl ?_;exact ⟨none,[],0,0,0,0,7,rfl,Cel.nil _ _,HB6.out.trans ((Tk _ _ _ _ _ _).below HB6.out.size (fun k e=>by have e2:k=w.heap.size+1:=e;omega)),.inr ⟨by decide,rfl,rfl,rfl,rfl,.inl ⟨rfl,HN7.out⟩⟩,fun y hy=>nomatch hy⟩
   ·have h2':Eg n v=false:=by simpa using h2
    rw [h2'] at HNv;simp only [Bool.not_false] at HNv;have h3:Eg n t=true:=by
     by_cases h3:Eg n t=true
     ·exact h3
     ·exact absurd ⟨h1',h2',by simpa using h3⟩ hall
    rw [h3] at HNt;simp only [Bool.not_true] at HNt;clear hall h1 h1' h2 h2' h3 HNO
    go_enter Tryz.func34,Tryz.ntmps34
    go_upto_region 1 with (fail)
    rw [<-HW.out]
    go_upto_region 4 with (first
     |(go_at_call 78;refine HRG.out.mono ?_;rintro e w1 ⟨rfl,hb1⟩;(have HB1:=Bm0 hb1);(have d0:=Bm1 hb1 c0);(have d1:=Bm1 hb1 c1);clear hb1)
     |(go_at_call_of 79 (#[.agg #[.int .i64 (n:Int),.slice ao es.length cap],.int .i64 s]:Array Value);refine (HNs.out _).mono ?_;rintro e w2 ⟨rfl,hb2⟩;(have HB2:=Bm0 (HB1.out.st hb2));(have e0:=Bm1 hb2 d0);(have e1:=Bm1 hb2 d1);clear hb2)
     |(go_at_call_of 79 (#[.agg #[.int .i64 (n:Int),.slice ao es.length cap],.int .i64 v]:Array Value);refine (HNv.out _).mono ?_;rintro e w3 ⟨rfl,hb3⟩;(have HB3:=Bm0 (HB2.out.st hb3));(have f0:=Bm1 hb3 e0);(have f1:=Bm1 hb3 e1);clear hb3)
     |(go_at_call_of 79 (#[.agg #[.int .i64 (n:Int),.slice ao es.length cap],.int .i64 t]:Array Value);refine (HNt.out _).mono ?_;rintro e w4 ⟨rfl,hb4⟩;(have HB4:=Bm0 (HB3.out.st hb4));clear hb4))
    obtain ⟨x0,x1',x2',x3,zz⟩:=HRX.out _ HB4.out;have z0:=zz 0;have z1:=zz 1;have z2:=zz 2;have z3:=zz 3;have HB6:=Bm0 (HB.out.st HB4.out)
    go_wp2
    obtain ⟨r0,r1,r2,r3⟩:=Eu (.int .i64 0) (.slice none 0 0) (.int .u64 0) (.int .i64 0) x0 x1' x2' x3;refine bodyPost_ret (v:=.tuple #[Fl 0 none 0 0 0 0,.int .i64 7]) (by simp [results,Tryz.results34,go_sem,r0,r1,r2,r3];try rfl) rfl ?_;exact ⟨none,[],0,0,0,0,7,rfl,Cel.nil _ _,HB6.out.trans ((Tk _ _ _ _ _ _).below HB6.out.size (fun k e=>by have e2:k=w.heap.size+1:=e;omega)),.inr ⟨by decide,rfl,rfl,rfl,rfl,.inl ⟨rfl,HN7.out⟩⟩,fun y hy=>nomatch hy⟩
end Vi
end
section
namespace Vi
open Go Go.Proofs Go.RowKit Go.Shelf Hp Ch Ad Ro Dj
end Vi
end
section
open Go Go.Proofs Go.RowKit Go.Shelf Hp Ch
end
section
open Go Go.Proofs Go.RowKit Go.Shelf Hp Ch
def Ow (g:GD) (l:List Int):Bool:=Ak g==0&&!(l.any fun e=>!Ll g.es.length e)
end
section
open Go.Proofs Go.RowKit Go.Shelf
def edD:EdgeD:=⟨0,0,0⟩
def Jg (es:List EdgeD):Int->List Int->List Int->Option (List Int)
 |_,out,[]=>some out
 |s,out,e::r=>if (es.getD e.toNat edD).f=s then Jg es (es.getD e.toNat edD).t (out++[(es.getD e.toNat edD).t]) r else none
def Wg (g:GD) (s:Int) (l:List Int):Option (List Int):=if Ow g l&&Cz g.n s then Jg g.es s [s] l else none
theorem Ac6 {g:GD} {s:Int} {l:List Int} (h:Ow g l=true) (h2:Cz g.n s=true):Wg g s l=Jg g.es s [s] l:=by unfold Wg;rw [h,h2];rfl
def wt (es:List EdgeD) (e:Int):Int:=(es.getD e.toNat edD).w
def An8 (es:List EdgeD):Int->List Int->List Int
 |a,[]=>[a]
 |a,e::r=>a::An8 es (a+wt es e) r
def Bi7 (g:GD) (l:List Int):Option (List Int):=if Ow g l then some (An8 g.es 0 l) else none
theorem Av9 {g:GD} {l:List Int} (h:Ow g l=true):Bi7 g l=some (An8 g.es 0 l):=by unfold Bi7;rw [h];rfl
def Ah1 (g:GD) (l:List Int):Option Int:=(Bi7 g l).map fun L=>(L[l.length]?).getD 0
def isB (g:GD) (s t:Int) (l:List Int):Bool:=match Wg g s l with|some O=>((O[O.length-1]?).getD 0==t)|none=>false
end
section
open Go Go.Proofs Go.RowKit Go.Shelf Hp Ch
inductive PE (es:List EdgeD):Int->List Int->Int->Int->List Int->Prop
 |one {e:Int} {y:EdgeD} (h0:0<=e) (h:es[e.toNat]? =some y):PE es y.f [e] y.t y.w []
 |two {u m v d d':Int} {l l' I I':List Int} (h:PE es u l m d I) (h':PE es m l' v d' I'):PE es u (l++l') v (d+d') (I++m::I')
theorem PE.walk {es:List EdgeD} {u v d:Int} {l I:List Int} (h:PE es u l v d I):∀out r,Jg es u out (l++r)=Jg es v (out++I++[v]) r:=by
 induction h with
 |one h0 h=>
  intro out r
  rename_i e y
  have he:es.getD e.toNat edD=y:=by rw [Bm6,h];rfl
  show Jg es y.f out (e::r)=_
  rw [Jg,he,if_pos rfl,List.append_nil]
 |two h h' ih ih'=>
  intro out r;rw [Bq3,ih,ih']
  congr 1
  simp
theorem PE.mem {es:List EdgeD} {u v d:Int} {l I:List Int} (h:PE es u l v d I):∀e∈l,0<=e/\e<(es.length:Int):=by
 induction h with
 |one h0 h=>
  intro e he;obtain rfl:=Bn7.1 he;have:=(Bn3.1 h).1;omega
 |two h h' ih ih'=>
  intro e he
  rcases Bp3.1 he with he|he
  ·exact ih e he
  ·exact ih' e he
theorem PE.sum {es:List EdgeD} {u v d:Int} {l I:List Int} (h:PE es u l v d I):(l.map (wt es)).sum=d:=by
 induction h with
 |one h0 h=>
  rename_i e y
  have he:es.getD e.toNat edD=y:=by rw [Bm6,h];rfl
  show (es.getD e.toNat edD).w+0=y.w
  rw [he];exact Int.add_zero _
 |two h h' ih ih'=>rw [Bq1,List.sum_append,ih,ih']
theorem PE.ne {es:List EdgeD} {u v d:Int} {l I:List Int} (h:PE es u l v d I):l≠[]:=by
 induction h with
 |one h0 h=>simp
 |two h h' ih ih'=>simp [ih]
theorem Uk (es:List EdgeD):∀(l:List Int) (a:Int),(An8 es a l)[l.length]? =some (a+(l.map (wt es)).sum)
 |[],a=>by simp [An8]
 |e::r,a=>by
  show (An8 es (a+wt es e) r)[r.length]? =_
  rw [Uk es r];simp;omega
theorem Vf {g:GD} {l:List Int} (hg:Ak g=0) (h:∀e∈l,0<=e/\e<(g.es.length:Int)):Ow g l=true:=by
 unfold Ow;rw [hg];simp only [beq_self_eq_true,Bool.true_and,Bool.not_eq_true',List.any_eq_false];intro e he;have:=h e he;simp [Ll];omega
theorem PE.weight {g:GD} {u v d:Int} {l I:List Int} (hg:Ak g=0) (h:PE g.es u l v d I):Ah1 g l=some d:=by
 unfold Ah1;rw [Av9 (Vf hg h.mem),Option.map_some,Uk,h.sum];simp
theorem PE.nodes {g:GD} {u v d:Int} {l I:List Int} (hg:Ak g=0) (h:PE g.es u l v d I) (hu:Cz g.n u=true):Wg g u l=some ([u]++I++[v]):=by
 rw [Ac6 (Vf hg h.mem) hu];have:=h.walk [u] [];rw [List.append_nil] at this;rw [this,Jg]
theorem PE.is {g:GD} {u v d:Int} {l I:List Int} (hg:Ak g=0) (h:PE g.es u l v d I) (hu:Cz g.n u=true):isB g u v l=true:=by
 unfold isB;rw [h.nodes hg hu];simp
end
section
namespace Vi
open Go Go.Proofs Go.RowKit Go.Shelf Hp Ch Ad Ro Dj
theorem Bk6 {n:Nat} {es:List EdgeD} {D:Int->Int} {t:Int} (hA:∀u v w,Am es u v w->Ac n u/\Ac n v/\1<=w) (hD:ToD es n t D) {v:Int} {l:List Int} (h:RP es D v l):Ac n v->(l=[]/\v=t/\D v=0)\/∃I,PE es v l t (D v) I:=by
 induction h with
 |@stop v h=>
  intro hv;refine .inl ⟨rfl,?_,h⟩
  rcases hD v hv with ⟨hd,_,_⟩|⟨hd,_⟩
  ·rcases hd.1 with ⟨e,_⟩|h1
   ·exact e
   ·have:=h1.pos (fun u v w h=>(hA u v w h).2.2)
    omega
  ·rw [h] at hd
   exact absurd hd (by decide)
 |@go v i l hf h0 hr ih=>
  intro hv;obtain ⟨hi,hfv,⟨hg1,hg2⟩,_⟩:=hf;have hty:=hA es[i].f es[i].t es[i].w ⟨es[i],Bn2 hi,rfl,rfl,rfl⟩;have hgd:es.getD i edZ=es[i]:=by simp [List.getD,hi]
  have h1:PE es v [(i:Int)] es[i].t es[i].w []:=by
   have:=PE.one (es:=es) (e:=(i:Int)) (y:=es[i]) (by omega) (by rw [Bn4,Bm5 hi]);rw [hfv] at this;exact this
  rw [hgd] at ih hr
  rcases ih hty.2.1 with ⟨rfl,e,hz⟩|⟨I,hI⟩
  ·refine .inr ⟨[],?_⟩
   have:D v=es[i].w:=by rw [<-hfv];omega
   rw [this,<-e];exact h1
  ·refine .inr ⟨[]++es[i].t::I,?_⟩
   have:D v=es[i].w+D es[i].t:=by rw [<-hfv];omega
   rw [this];exact .two h1 hI
theorem Ab9 {n:Nat} {es:List EdgeD} (hA:∀u v w,Am es u v w->Ac n u/\Ac n v/\1<=w) {s t:Int} {l:List Int} {x:Int} (h:Ew n es s t l x 0):(l=[]/\s=t/\x=0)\/∃I,PE es s l t x I:=by
 rcases h with ⟨_,hs,ht,hd,_,D,hD,hR⟩|⟨h,_⟩
 ·have hx:x=D s:=by
   rcases hD s hs with ⟨h1,_,_⟩|⟨_,h1⟩
   ·exact hd.uniq h1
   ·exact absurd hd.1 (h1 _)
  rw [hx];exact Bk6 hA hD hR hs
 ·exact absurd rfl h
theorem ByIs.uniq {n:Nat} {es:List EdgeD} (hA:∀u v w,Am es u v w->Ac n u/\Ac n v/\1<=w) {s v t V V':Int} {l l':List Int} {x c k x' c' k':Int} (h:ByIs n es s v t V l x c k) (h':ByIs n es s v t V' l' x' c' k'):V=V'/\l=l'/\x=x'/\c=c'/\k=k':=by
 have key:∀{l1 l2 x1 x2},Ew n es s v l1 x1 0->Ew n es v t l2 x2 0->((¬(Ac n s/\Ac n v/\Ac n t))\/(∀e,¬Way0 (Am es) Any s v e)\/∀e,¬Way0 (Am es) Any v t e)->False:=by
  intro l1 l2 x1 x2 r1 r2 hh
  rcases r1 with ⟨_,a1,a2,a3,_⟩|⟨a1,_⟩
  ·rcases r2 with ⟨_,b1,b2,b3,_⟩|⟨b1,_⟩
   ·rcases hh with hh|hh|hh
    ·exact hh ⟨a1,a2,b2⟩
    ·exact hh _ a3.1
    ·exact hh _ b3.1
   ·exact b1 rfl
  ·exact a1 rfl
 rcases h with ⟨rfl,rfl,l1,l2,x1,x2,r1,r2,rfl,rfl,rfl⟩|⟨hk,rfl,rfl,rfl,rfl,h⟩
 ·rcases h' with ⟨rfl,rfl,m1,m2,y1,y2,q1,q2,rfl,rfl,rfl⟩|⟨_,_,_,_,_,h'⟩
  ·obtain ⟨rfl,rfl,_⟩:=Ms hA r1 q1
   obtain ⟨rfl,rfl,_⟩:=Ms hA r2 q2;exact ⟨rfl,rfl,rfl,rfl,rfl⟩
  ·refine (key r1 r2 ?_).elim
   rcases h' with ⟨_,h'⟩|⟨_,_,_,_,h'⟩
   ·exact .inl h'
   ·exact .inr h'
 ·rcases h' with ⟨rfl,rfl,m1,m2,y1,y2,q1,q2,rfl,rfl,rfl⟩|⟨_,rfl,rfl,rfl,rfl,h'⟩
  ·refine (key q1 q2 ?_).elim
   rcases h with ⟨_,h⟩|⟨_,_,_,_,h⟩
   ·exact .inl h
   ·exact .inr h
  ·refine ⟨rfl,rfl,rfl,rfl,?_⟩
   rcases h with ⟨rfl,h⟩|⟨rfl,a,b,c,h⟩<;>rcases h' with ⟨rfl,h'⟩|⟨rfl,a',b',c',h'⟩
   ·rfl
   ·exact absurd ⟨a',b',c'⟩ h
   ·exact absurd ⟨a,b,c⟩ h'
   ·rfl
end Vi
end
section
open Go.Proofs Go.RowKit Go.Shelf
theorem Mq (ao bo:Option Addr) (ca cb:Nat) (la lb:List Int) (w:World) (hla:la.length<=9223372036854775807) (hlb:lb.length<=9223372036854775807)
  (ha:Cel w ao (la.map Ai)) (hb:Cel w bo (lb.map Ai)):
  Calls Tryz.prog 25 #[.slice ao la.length ca,.slice bo lb.length cb] w fun e w'=>e=.returned (.bool (decide (la=lb)))/\∃n,w'=w.drewN n:=by
 have HA:=Bm0 ha;have HB:=Bm0 hb;clear ha hb
 by_cases hl:la.length=lb.length
 ·have hn2:((la.length:Int) != (lb.length:Int))=false:=by simp;omega
  have HN:=Bm0 hl;clear hl;have HD:=Bm0 (fun k (h1:k<la.length) (h2:la[k]≠lb[k]'(by have:=HN.out;omega))=>(decide_eq_false (fun e=>h2 (by subst e;rfl)):decide (la=lb)=false));have HE:=Bm0 (fun h:(∀j (h:j<la.length),la[j]=lb[j]'(by have:=HN.out;omega))=>(decide_eq_true (List.ext_getElem HN.out (fun i h1 h2=>h i h1)):decide (la=lb)=true));generalize decide (la=lb)=r at*
  go_enter Tryz.func25,Tryz.ntmps25
  go_wp2
  go_loopg [5] la.length (fun g i wr=>∃k q:Nat,k<=la.length/\la.length-k<=g/\i=.int .i64 k/\wr=w.drewN q/\Aside (∀j (h:j<la.length),j<k->la[j]=lb[j]'(by have:=HN.out;omega)))
  case atStart=>exact ⟨0,0,Bm3 _,by omega,rfl,rfl,fun j _ h=>absurd h (Nat.not_lt_zero _)⟩
  case round=>
   obtain ⟨k,q,hk,hg,rfl,rfl,HF⟩:=hrel
   by_cases hlt:k<la.length
   ·have hlt2:k<lb.length:=by have:=HN.out;omega
    have hlt3:(k:Int)<(la.length:Int):=by omega
    have hlt4:(k:Int)<(lb.length:Int):=by omega
    have hk0:(0:Int)<=(k:Int):=by omega
    obtain ⟨b1,o1,hao,hc1⟩:=HA.out.at hlt;obtain ⟨b2,o2,hbo,hc2⟩:=HB.out.at hlt2;subst hao hbo;have HD2:=Bm0 (HD.out k hlt);have HM:=Bm0 (fun h:la[k]=lb[k]=>(fun j (h1:j<la.length) (h2:j<k+1)=>(by
     by_cases e:j=k
     ·subst e;exact h
     ·exact HF.out j h1 (by omega):la[j]=lb[j]'(by have:=HN.out;omega))))
    generalize la[k]=x at*;generalize lb[k]=y at*
    go_wp2
    go_quiet (fail)
    go_wp2
    ·have ht:=ne_i (by assumption)
     go_ret
     exact ⟨by rw [HD2.out ht];rfl,q+nq,World.drewN_drewN _ _ _⟩
    ·have ht:=eq_i (by assumption)
     go_roundg (la.length-(k+1))
     case measure=>omega
     case rel=>exact ⟨k+1,q+nq,by omega,by omega,by go_num,rfl,HM.out ht⟩
   ·obtain rfl:k=la.length:=by omega
    go_wp2
    go_ret
    exact ⟨by rw [HE.out (fun j h=>HF.out j h h)];rfl,q,rfl⟩
 ·have hn2:((la.length:Int) != (lb.length:Int))=true:=by simp;omega
  have HN:=Bm0 (decide_eq_false (fun e=>hl (by subst e;rfl)):decide (la=lb)=false);clear hl
  go_enter Tryz.func25,Tryz.ntmps25
  go_wp2
  go_ret
  exact ⟨by rw [HN.out];rfl,0,rfl⟩
end
end Go.Proofs.YteaaapdjplbljaaGreat
