/- The reference's Order of tours. The reference's Near of tours. Walk of package tour: Whole. What must come at any rate, for the laws of tours; the fault of what is asked. Walk of the law QueryThirds. Walk of package query where nothing was built: Dist, Peaks, Meet of none. Walk of package hier: Hierarchy. Walks: are two rows the same (numbers, wide numbers, texts). Walk of the law QueryDists. -/
import Derived.Test.YteaaapdjplbljaaGreatLyS
import Derived.Test.YteaaapdjplbljaaGreatProg
import Derived.Test.YteaaapdjplbljaaGreatLy08
import Derived.Test.YteaaapdjplbljaaGreatLy09
import Derived.Test.YteaaapdjplbljaaGreatLw38
import Derived.Test.YteaaapdjplbljaaGreatLy01
import Derived.Test.YteaaapdjplbljaaGreatLw37
import Derived.Test.YteaaapdjplbljaaGreatLw14
import Derived.Test.YteaaapdjplbljaaGreatLw20
import Derived.Test.YteaaapdjplbljaaGreatLw41
import Derived.Deep.Cut
import Derived.Test.YteaaapdjplbljaaGreatLy06
import Derived.Test.YteaaapdjplbljaaGreatLw36
import Derived.Test.YteaaapdjplbljaaGreatLw27
import Derived.Test.YteaaapdjplbljaaGreatLw02
set_option linter.unusedVariables false
set_option linter.unusedSimpArgs false
set_option linter.unnecessarySimpa false
section
namespace Go.Proofs.YteaaapdjplbljaaGreat
open Go Go.Proofs Go.RowKit Go.Shelf Go.Proofs.YteaaapdjplbljaaGreat.Hp Go.Proofs.YteaaapdjplbljaaGreat.Ch Go.Proofs.YteaaapdjplbljaaGreat.To
theorem foldl_congm {α γ:Type} {f g:γ→α→γ}:∀(l:List α) (s:γ),(∀s x,x∈l→f s x=g s x)→l.foldl f s=l.foldl g s
 |[],_,_=>rfl
 |a::l,s,h=>by
  rw [List.foldl_cons,List.foldl_cons,h s a (List.mem_cons_self ..)]
  exact foldl_congm l _ (fun s x hx=>h s x (List.mem_cons_of_mem _ hx))
def stepQ (c:Nat→Nat→Int) (st:List Nat×Int) (q:List Nat):List Nat×Int:=
 if tailB c 0 q=true∧(tailC c 0 q<st.2∨(tailC c 0 q=st.2∧lexI (q.map Int.ofNat) (st.1.map Int.ofNat)<0)) then (q,tailC c 0 q) else st
theorem foldQ_same {c:Nat→Nat→Int}:∀(l:List (List Nat)),(∀q∈l,tailB c 0 q=true→tailC c 0 q≠4611686018427387904)→l.Pairwise (fun p q=>¬lexI (q.map Int.ofNat) (p.map Int.ofNat)<0)→∀(st:List Nat×Int),
  (st.2=4611686018427387904∨∀q∈l,¬lexI (q.map Int.ofNat) (st.1.map Int.ofNat)<0)→l.foldl (stepQ c) st=l.foldl (stepF c 0 [] 0) st
 |[],_,_,_,_=>rfl
 |p::l,hB,hp,st,hst=>by
  obtain ⟨h1,h2⟩:=List.pairwise_cons.1 hp
  rw [List.foldl_cons,List.foldl_cons]
  have e:stepQ c st p=stepF c 0 [] 0 st p:=by
   unfold stepQ stepF
   rw [Int.zero_add,List.nil_append]
   by_cases h:tailB c 0 p=true∧tailC c 0 p<st.2
   ·rw [if_pos ⟨h.1,.inl h.2⟩,if_pos h]
   ·rw [if_neg h,if_neg (fun k=>by
     rcases k.2 with k2|⟨k2,k3⟩
     ·exact h ⟨k.1,k2⟩
     ·rcases hst with h4|h4
      ·exact hB p (List.mem_cons_self ..) k.1 (k2.trans h4)
      ·exact h4 p (List.mem_cons_self ..) k3)]
  rw [e]
  refine foldQ_same l (fun q hq=>hB q (List.mem_cons_of_mem _ hq)) h2 _ ?_
  unfold stepF
  by_cases h:tailB c 0 p=true∧0+tailC c 0 p<st.2
  ·rw [if_pos h]
   exact .inr h1
  ·rw [if_neg h]
   rcases hst with h4|h4
   ·exact .inl h4
   ·exact .inr (fun q hq=>h4 q (List.mem_cons_of_mem _ hq))
theorem foldQ_grow {es:List EdgeD} {s t:Int} {l:List Int} (hl:l.length≤7) (hD:∀x∈s::t::l,∀y∈s::t::l,DistT es x y):
  (tailsF l.length l.length []).foldl (stepQ (cmat es (s::t::l))) ([],4611686018427387904)=growF (cmat es (s::t::l)) l.length l.length 0 [] 0 ([],4611686018427387904):=by
 have hg:∀i,i<(s::t::l).length→(s::t::l).getD i 0∈s::t::l:=fun i hi=>by
  rw [List.getD_eq_getElem?_getD,List.getElem?_eq_getElem hi]
  exact List.getElem_mem _
 have hord:∀q∈tailsF l.length l.length [],OrdQ l.length q:=fun q hq=>by
  obtain ⟨h1,h2,h3⟩:=(mem_tails _ _ _).1 hq
  exact ⟨h1,fun i hi=>(h2 i hi).1,h3⟩
 rw [grow_best (fun i j hi hj=>by unfold cmat;exact (hD _ (hg i (by simp;omega)) _ (hg j (by simp;omega))).in.1),foldQ_same _ (fun q hq hb e=>by
  have:=(tail_bnd hD (hord q hq) hb).2
  omega) (tails_rise _ _) _ (.inl rfl)]
 unfold bestF
 refine foldl_congm _ _ (fun st q hq=>?_)
 obtain ⟨e1,e2⟩:=tail_cut (c:=cmat es (s::t::l)) (m:=l.length) q 0 (by omega) (hord q hq).2.1
 unfold stepF
 rw [e1,e2]
def FvT (tb:Bool) (tc:Int) (v:Value):Prop:=∃fv:Int,(tb=true→fv=tc)∧v=.tuple #[.int .u64 fv,.bool tb]
def FvI (tb:Bool) (tc:Int) (v:Value):Prop:=∃fv:Int,(tb=true→fv=tc)∧v=.int .u64 fv
def foR (G S L T A P Q:Value) (i:Int) (tb:Bool) (tc:Int):Nat→Value→World→Prop
 |0,v,_=>v=G
 |1,v,_=>v=S
 |2,v,_=>v=L
 |3,v,_=>v=A
 |4,v,_=>v=.int .i64 i
 |5,v,_=>v=P
 |6,v,_=>v=Q
 |7,v,_=>v=T
 |8,v,_|9,v,_=>FvT tb tc v
 |10,v,_|12,v,_=>FvI tb tc v
 |_,v,_=>v=.bool tb
theorem foR_go {G S L T A P Q:Value} {i:Int} {tb:Bool} {tc:Int} (k:Nat) (v:Value) (w w':World) (_:Below w.heap.size w w') (h:foR G S L T A P Q i tb tc k v w):foR G S L T A P Q i tb tc k v w':=by
 unfold foR at h ⊢
 split at h
 all_goals exact h
def foldQ (c:Nat→Nat→Int) (all:List (List Nat)) (i:Nat):List Nat×Int:=(all.take i).foldl (stepQ c) ([],4611686018427387904)
theorem foldQ_succ {c:Nat→Nat→Int} {all:List (List Nat)} {i:Nat} (h:i<all.length):foldQ c all (i+1)=stepQ c (foldQ c all i) all[i]:=by
 unfold foldQ
 rw [List.take_succ_eq_append_getElem h,List.foldl_append]
 rfl
theorem foldQ_len {c:Nat→Nat→Int} {all:List (List Nat)} (h:∀q∈all,q.length≤7):∀i,i≤all.length→(foldQ c all i).1.length≤7
 |0,_=>by simp [foldQ]
 |i+1,hi=>by
  rw [foldQ_succ (by omega)]
  unfold stepQ
  split
  ·exact h _ (List.getElem_mem _)
  ·exact foldQ_len h i (by omega)
def RefOrdPost (F:List Nat×Int) (w:World) (e:Ending) (w':World):Prop:=
 ((F.2<4611686018427387904∧∃(a:Option Addr) (c:Nat),e=.returned (.tuple #[.slice a F.1.length c,.int .u64 F.2,.int .i64 0])∧Cel w' a (F.1.map encN))∨
  (4611686018427387904≤F.2∧e=.returned (.tuple #[.slice none 0 0,.int .u64 0,.int .i64 9])))∧Below w.heap.size w w'
set_option maxRecDepth 100000 in
set_option maxHeartbeats 8000000 in
theorem refOrder34_any (n:Nat) (es:List EdgeD) (ao lo:Option Addr) (cap lc:Nat) (s t:Int) (l:List Int) (w:World) (hg:rightG ⟨(n:Int),es⟩=0) (hn:n≤12) (hes:es.length≤40) (hl:l.length≤7) (hls:(tailsF l.length l.length []).length≤1000000) (hno:∀v∈s::t::l,nodeN n v) (hA:∀u v w,arcG es u v w→1≤w) (hD:∀x∈s::t::l,∀y∈s::t::l,DistT es x y)
  (hc:Cel w ao (flat es)) (hlc:Cel w lo (l.map encI)):
  Calls Tryz.prog 26 #[.agg #[.int .i64 (n:Int),.slice ao es.length cap],.int .i64 s,.slice lo l.length lc,.int .i64 t] w (RefOrdPost ((tailsF l.length l.length []).foldl (stepQ (cmat es (s::t::l))) ([],4611686018427387904)) w):=by
 obtain ⟨W,hW⟩:∃W,W=w.alloc (Obj.cells #[.int .i64 (n:Int),.slice ao es.length cap] 24):=⟨_,rfl⟩
 have hbw:Below w.heap.size w W:=by rw [hW];exact Below.of_al _ _
 have c0:W.cell? ⟨w.heap.size,0,none⟩=some (.int .i64 (n:Int)):=by rw [hW];go_simp
 have c1:W.cell? ⟨w.heap.size,1,none⟩=some (.slice ao es.length cap):=by rw [hW];go_simp
 have HW:=Lib.hid hW
 have HB:=Lib.hid hbw
 have hord:∀q∈tailsF l.length l.length [],OrdQ l.length q:=fun q hq=>by
  obtain ⟨h1,h2,h3⟩:=(mem_tails _ _ _).1 hq
  exact ⟨h1,fun i hi=>(h2 i hi).1,h3⟩
 have HOD:=Lib.hid (orders_any l.length hl l.length [] none 0 [] (.slice none 0 0) [] W.heap.size W (by simp) (Cel.nil _ _) (fun x hx=>nomatch hx) (Nat.le_refl _) (by simpa using hls) (RoM.nil _ _))
 rw [List.nil_append,show (fun q:List Nat=>([]:List Nat)++q)=id from rfl,List.map_id] at HOD
 have HFF:=Lib.hid (fun (U:World) (q:List Nat) (qa:Option Addr) (qc:Nat) (hz:Below W.heap.size W U) (hq:OrdQ l.length q) (h:Cel U qa (q.map encN))=>refFar34_any n es ao lo qa cap lc qc s t l q U hg hn hes hl hq hno hA hD (hc.go (hbw.st hz)) (hlc.go (hbw.st hz)) h)
 have HFL:=Lib.hid (fun i hi=>foldQ_len (c:=cmat es (s::t::l)) (all:=tailsF l.length l.length []) (fun q hq=>by rw [(hord q hq).1];exact hl) i hi)
 have HSC:=Lib.hid (fun i (hi:i<(tailsF l.length l.length []).length)=>foldQ_succ (c:=cmat es (s::t::l)) hi)
 have HOR:=Lib.hid hord
 have HL7:=Lib.hid hl
 have HFN:=Lib.hid (show (tailsF l.length l.length []).foldl (stepQ (cmat es (s::t::l))) ([],4611686018427387904)=foldQ (cmat es (s::t::l)) (tailsF l.length l.length []) (tailsF l.length l.length []).length by unfold foldQ;rw [List.take_length])
 have HF0:=Lib.hid (show foldQ (cmat es (s::t::l)) (tailsF l.length l.length []) 0=([],4611686018427387904) from rfl)
 have hN:((tailsF l.length l.length []).length:Int)≤1000000:=by omega
 rw [HFN.out]
 clear hW hbw hc hlc hg hn hes hl hno hA hD hord HFN hls
 generalize tailsF l.length l.length []=all at*
 obtain ⟨N,hNN⟩:∃N,N=all.length:=⟨_,rfl⟩
 rw [←hNN] at hN ⊢
 simp only [List.length_nil] at HOD
 have HNN:=Lib.hid hNN
 obtain ⟨F,hF⟩:∃F,F=foldQ (cmat es (s::t::l)) all:=⟨_,rfl⟩
 rw [←hF] at HFL HSC HF0 ⊢
 clear hNN hF
 go_enter Tryz.func26,Tryz.ntmps26
 go_upto_region 1 with (fail)
 rw [←HW.out]
 go_upto_region 4 with (go_at_call 69;refine HOD.out.mono ?_;rintro e w3 ⟨v13,us,rfl,k1,k2,-⟩;(have HRM:=Lib.hid k1);(have HB3:=Lib.hid (show Below W.heap.size W w3 from k2.below (Nat.le_refl _) (fun k hk=>nomatch hk)));clear k1 k2)
 go_wp2
 go_loopg [11,12,14] N (fun gg v11 v12 v14 wr=>∃(i:Nat) (ba:Option Addr) (bc:Nat),i≤N∧N-i≤gg∧v14=.int .i64 (i:Int)∧v11=.slice ba (F i).1.length bc∧v12=.int .u64 (F i).2∧Aside (Cel wr ba ((F i).1.map encN))∧Aside (Below w3.heap.size w3 wr))
 case atStart=>exact ⟨0,none,0,Nat.zero_le _,by omega,rfl,by rw [HF0.out];rfl,by rw [HF0.out],by show Cel _ _ _;rw [HF0.out];exact Cel.nil _ _,Below.refl _ _⟩
 case round=>
  obtain ⟨i,ba,bc,hi,hgg,rfl,rfl,rfl,h1,h2⟩:=hrel
  have HBC:=Lib.hid h1.out
  have HBR:=Lib.hid h2.out
  clear h1 h2
  by_cases hlt:i<N
  ·have hi1:(i:Int)<(N:Int):=by omega
   have hi0:(0:Int)≤(i:Int):=by omega
   have hia:i<all.length:=by rw [←HNN.out];exact hlt
   have hrm:=HRM.out.go HBR.out
   obtain ⟨u,hu,qa,qc,hue,hcq,-⟩:=hrm.at' i hia
   obtain ⟨a9,ac,e9,h9⟩:=Cel.of_owns hrm.own
   obtain ⟨ab,aof,e8,x0⟩:=h9 i u hu
   obtain ⟨q,hq⟩:∃q,q=all[i]:=⟨_,rfl⟩
   have hqm:OrdQ l.length q:=HOR.out q (by rw [hq];exact List.getElem_mem _)
   rw [←hq] at hue hcq
   rw [hue,hqm.1] at x0
   rw [←HNN.out,e8] at e9
   have HSQ:=Lib.hid (show F (i+1)=stepQ (cmat es (s::t::l)) (F i) q by rw [HSC.out i hia,hq])
   have HFR:=Lib.hid (fun (U:World) (hz:Below wr.heap.size wr U)=>HFF.out U q qa qc (HB3.out.st (HBR.out.st hz)) hqm (hcq.go hz))
   have HQC:=Lib.hid hcq
   have HQL:=Lib.hid hqm.1
   have HQ7:=Lib.hid (HFL.out i (by omega))
   unfold stepQ at HSQ
   generalize tailB (cmat es (s::t::l)) 0 q=tb at*
   generalize tailC (cmat es (s::t::l)) 0 q=tc at*
   have y0:=cell_later (HB3.out.st HBR.out) c0
   have y1:=cell_later (HB3.out.st HBR.out) c1
   subst e9
   clear hrm h9 e8 hue hu hq hqm hcq hia
   go_upto_region 7 with (fail)
   refine wp_region_grows_g 14 rfl (foR (.agg #[.int .i64 (n:Int),.slice ao es.length cap]) (.int .i64 s) (.slice lo l.length lc) (.int .i64 t) (.slice (some ⟨ab,aof,none⟩) N ac) (.pointer (some ⟨ab,aof+i,none⟩)) (.slice qa l.length qc) (i:Int) tb tc) (by kernel_rfl) (by kernel_rfl) foR_go ?_ ?_
   ·refine ⟨?_,?_,?_,?_,?_,?_,?_,?_,?_,?_,?_,?_,?_,?_,trivial⟩
    ·intro act w' hbe hd ho K hK
     have q0:act.tmps.getD 4 undef=.pointer (some ⟨w.heap.size,0,none⟩):=ho 4 (by kernel_rfl)
     have f0:=cell_later hbe y0
     have f1:=cell_later hbe y1
     refine .inl ⟨goes_free rfl,?_⟩
     simp [Oper.wp,execOp,Oper.upon,go_sem,Act.eval,q0,f0,f1]
     exact hK _ w' (Below.refl _ _) rfl
    ·intro act w' hbe hd ho K hK
     have q0:act.tmps.getD 1 undef=.int .i64 s:=ho 1 (by kernel_rfl)
     refine .inl ⟨goes_free rfl,?_⟩
     simp [Oper.wp,execOp,Oper.upon,go_sem,Act.eval,q0]
     exact hK _ w' (Below.refl _ _) rfl
    ·intro act w' hbe hd ho K hK
     have q0:act.tmps.getD 2 undef=.slice lo l.length lc:=ho 2 (by kernel_rfl)
     refine .inl ⟨goes_free rfl,?_⟩
     simp [Oper.wp,execOp,Oper.upon,go_sem,Act.eval,q0]
     exact hK _ w' (Below.refl _ _) rfl
    ·intro act w' hbe hd ho K hK
     have q0:act.tmps.getD 13 undef=.slice (some ⟨ab,aof,none⟩) N ac:=ho 13 (by kernel_rfl)
     refine .inl ⟨goes_free rfl,?_⟩
     simp [Oper.wp,execOp,Oper.upon,go_sem,Act.eval,q0]
     exact hK _ w' (Below.refl _ _) rfl
    ·intro act w' hbe hd ho K hK
     have q0:act.tmps.getD 14 undef=.int .i64 (i:Int):=ho 14 (by kernel_rfl)
     refine .inl ⟨goes_free rfl,?_⟩
     simp [Oper.wp,execOp,Oper.upon,go_sem,Act.eval,q0]
     exact hK _ w' (Below.refl _ _) rfl
    ·intro act w' hbe hd ho K hK
     have q0:act.tmps.getD 30 undef=.slice (some ⟨ab,aof,none⟩) N ac:=hd 3 (by rfl)
     have q1:act.tmps.getD 31 undef=.int .i64 (i:Int):=hd 4 (by rfl)
     refine .inl ⟨goes_free rfl,?_⟩
     simp [Oper.wp,execOp,Oper.upon,go_sem,Act.eval,q0,q1,hi0,hi1]
     exact hK _ w' (Below.refl _ _) rfl
    ·intro act w' hbe hd ho K hK
     have q0:act.tmps.getD 32 undef=.pointer (some ⟨ab,aof+i,none⟩):=hd 5 (by rfl)
     have f0:=cell_later hbe x0
     refine .inl ⟨goes_free rfl,?_⟩
     simp [Oper.wp,execOp,Oper.upon,go_sem,Act.eval,q0,f0]
     exact hK _ w' (Below.refl _ _) rfl
    ·intro act w' hbe hd ho K hK
     have q0:act.tmps.getD 3 undef=.int .i64 t:=ho 3 (by kernel_rfl)
     refine .inl ⟨goes_free rfl,?_⟩
     simp [Oper.wp,execOp,Oper.upon,go_sem,Act.eval,q0]
     exact hK _ w' (Below.refl _ _) rfl
    ·intro act w' hbe hd ho K hK
     have q0:act.tmps.getD 27 undef=.agg #[.int .i64 (n:Int),.slice ao es.length cap]:=hd 0 (by rfl)
     have q1:act.tmps.getD 28 undef=.int .i64 s:=hd 1 (by rfl)
     have q2:act.tmps.getD 29 undef=.slice lo l.length lc:=hd 2 (by rfl)
     have q3:act.tmps.getD 33 undef=.slice qa l.length qc:=hd 6 (by rfl)
     have q4:act.tmps.getD 34 undef=.int .i64 t:=hd 7 (by rfl)
     refine .inl ⟨goes_free rfl,?_⟩
     simp [Oper.wp,execOp,Oper.upon,go_sem,Act.eval,q0,q1,q2,q3,q4]
     refine (HFR.out w' hbe).mono ?_
     rintro e w8 ⟨fv,k0,rfl,k2⟩
     exact hK _ w8 k2 ⟨fv,k0,rfl⟩
    ·intro act w' hbe hd ho K hK
     obtain ⟨fv,k0,e6⟩:FvT tb tc (act.tmps.getD 35 undef):=hd 8 (by rfl)
     refine .inl ⟨goes_free rfl,?_⟩
     simp [Oper.wp,execOp,Oper.upon,go_sem,Act.eval,e6]
     exact hK _ w' (Below.refl _ _) ⟨fv,k0,rfl⟩
    ·intro act w' hbe hd ho K hK
     obtain ⟨fv,k0,e6⟩:FvT tb tc (act.tmps.getD 26 undef):=hd 9 (by rfl)
     refine .inl ⟨goes_free rfl,?_⟩
     simp [Oper.wp,execOp,Oper.upon,go_sem,Act.eval,e6]
     exact hK _ w' (Below.refl _ _) ⟨fv,k0,rfl⟩
    ·intro act w' hbe hd ho K hK
     obtain ⟨fv,k0,e6⟩:FvT tb tc (act.tmps.getD 26 undef):=hd 9 (by rfl)
     refine .inl ⟨goes_free rfl,?_⟩
     simp [Oper.wp,execOp,Oper.upon,go_sem,Act.eval,e6]
     exact hK _ w' (Below.refl _ _) rfl
    ·intro act w' hbe hd ho K hK
     obtain ⟨fv,k0,e6⟩:FvI tb tc (act.tmps.getD 36 undef):=hd 10 (by rfl)
     refine .inl ⟨goes_free rfl,?_⟩
     simp [Oper.wp,execOp,Oper.upon,go_sem,Act.eval,e6]
     exact hK _ w' (Below.refl _ _) ⟨fv,k0,rfl⟩
    ·intro act w' hbe hd ho K hK
     have q0:act.tmps.getD 37 undef=.bool tb:=hd 11 (by rfl)
     refine .inl ⟨goes_free rfl,?_⟩
     simp [Oper.wp,execOp,Oper.upon,go_sem,Act.eval,q0]
     exact hK _ w' (Below.refl _ _) rfl
   ·intro vs w8 hb8 hR
    obtain ⟨fv,hfv,e12⟩:FvI tb tc (vs 12):=hR 12 (by decide)
    have e13:vs 13=.bool tb:=hR 13 (by decide)
    simp only [puts,dstAt,List.getElem?_cons_zero,List.getElem?_cons_succ,Option.bind_some,Option.getD_some,Act.put,List.length_cons,List.length_nil,Nat.reduceAdd,List.setIfInBounds_toArray,List.set_cons_zero,List.set_cons_succ,e12,e13]
    have HB8:=Lib.hid hb8
    have HBW:=Lib.hid (HBR.out.st hb8)
    have x1:=cell_later hb8 x0
    have HBC:=Lib.hid (HBC.out.go hb8)
    have HQC:=Lib.hid (HQC.out.go hb8)
    clear hR e12 e13 hb8 HFR y0 y1 x0
    generalize vs 0=a0
    generalize vs 1=a1
    generalize vs 2=a2
    generalize vs 3=a3
    generalize vs 4=a4
    generalize vs 5=a5
    generalize vs 6=a6
    generalize vs 7=a7
    generalize vs 8=a8
    generalize vs 9=a9
    generalize vs 10=a10
    generalize vs 11=a11
    obtain ⟨st,hst⟩:∃st,st=F i:=⟨_,rfl⟩
    rw [←hst] at HSQ HBC HQ7 ⊢
    obtain ⟨st1,st2⟩:=st
    simp only at HBC HQ7 ⊢
    clear hst
    cases tb with
    |false=>
     have HS1:=Lib.hid (HSQ.out.trans (if_neg (fun h=>nomatch h.1)))
     clear HSQ hfv
     go_wp2
     go_roundg (N-(i+1))
     case measure=>omega
     case rel=>exact ⟨i+1,ba,bc,by omega,Nat.le_refl _,by go_num,by rw [HS1.out],by rw [HS1.out],by show Cel _ _ _;rw [HS1.out];exact HBC.out,HBW.out⟩
    |true=>
     obtain rfl:fv=tc:=hfv rfl
     clear hfv
     by_cases h1:fv<st2
     ·have h1b:decide (fv<st2)=true:=by simpa using h1
      have HS1:=Lib.hid (HSQ.out.trans (if_pos ⟨rfl,.inl h1⟩))
      clear HSQ h1
      go_wp2
      go_roundg (N-(i+1))
      case measure=>omega
      case rel=>exact ⟨i+1,qa,qc,by omega,Nat.le_refl _,by go_num,by rw [HS1.out,HQL.out],by rw [HS1.out],by show Cel _ _ _;rw [HS1.out];exact HQC.out,HBW.out⟩
     ·have h1b:decide (fv<st2)=false:=by simpa using h1
      by_cases h2:fv=st2
      ·subst h2
       have HLS:=Lib.hid (refLess_any qa ba qc bc (q.map Int.ofNat) (st1.map Int.ofNat) w8 (by rw [List.length_map,HQL.out];have:=HL7.out;omega) (by rw [List.length_map];have:=HQ7.out;omega) (by rw [encN_map];exact HQC.out) (by rw [encN_map];exact HBC.out))
       rw [List.length_map,List.length_map,HQL.out] at HLS
       have h2b:(fv==fv)=true:=by simp
       by_cases h3:lexI (q.map Int.ofNat) (st1.map Int.ofNat)<0
       ·have h3b:decide (lexI (q.map Int.ofNat) (st1.map Int.ofNat)<0)=true:=by simpa using h3
        have HS1:=Lib.hid (HSQ.out.trans (if_pos ⟨rfl,.inr ⟨rfl,h3⟩⟩))
        clear HSQ h1 h3
        generalize lexI (q.map Int.ofNat) (st1.map Int.ofNat)=lx at*
        go_wp2_with (go_at_call 64;refine HLS.out.mono ?_;rintro e w9 ⟨rfl,hb9⟩;(have HB9:=Lib.hid hb9);(have x2:=cell_later hb9 x1);clear hb9)
        go_roundg (N-(i+1))
        case measure=>omega
        case rel=>exact ⟨i+1,qa,qc,by omega,Nat.le_refl _,by go_num,by rw [HS1.out,HQL.out],by rw [HS1.out],by show Cel _ _ _;rw [HS1.out];exact HQC.out.go HB9.out,HBW.out.st HB9.out⟩
       ·have h3b:decide (lexI (q.map Int.ofNat) (st1.map Int.ofNat)<0)=false:=by simpa using h3
        have HS1:=Lib.hid (HSQ.out.trans (if_neg (fun h=>by
         rcases h.2 with h|h
         ·omega
         ·exact h3 h.2)))
        clear HSQ h1 h3
        generalize lexI (q.map Int.ofNat) (st1.map Int.ofNat)=lx at*
        go_wp2_with (go_at_call 64;refine HLS.out.mono ?_;rintro e w9 ⟨rfl,hb9⟩;(have HB9:=Lib.hid hb9);(have x2:=cell_later hb9 x1);clear hb9)
        go_roundg (N-(i+1))
        case measure=>omega
        case rel=>exact ⟨i+1,ba,bc,by omega,Nat.le_refl _,by go_num,by rw [HS1.out],by rw [HS1.out],by show Cel _ _ _;rw [HS1.out];exact HBC.out.go HB9.out,HBW.out.st HB9.out⟩
      ·have h2b:(fv==st2)=false:=by simpa using h2
       have HS1:=Lib.hid (HSQ.out.trans (if_neg (fun h=>by
        rcases h.2 with h|h
        ·exact h1 h
        ·exact h2 h.1)))
       clear HSQ h1 h2
       go_wp2
       go_roundg (N-(i+1))
       case measure=>omega
       case rel=>exact ⟨i+1,ba,bc,by omega,Nat.le_refl _,by go_num,by rw [HS1.out],by rw [HS1.out],by show Cel _ _ _;rw [HS1.out];exact HBC.out,HBW.out⟩
  ·obtain rfl:i=N:=by omega
   obtain ⟨a9,ac,e9,h9⟩:=Cel.of_owns HRM.out.own
   rw [←HNN.out] at e9
   subst e9
   clear h9
   by_cases hf:(F i).2<4611686018427387904
   ·have hfb:decide (4611686018427387904≤(F i).2)=false:=by simpa using hf
    go_wp2
    refine bodyPost_ret (v:=.tuple #[.slice ba (F i).1.length bc,.int .u64 (F i).2,.int .i64 0]) (by simp [results,Tryz.results26,go_sem];try rfl) rfl ?_
    exact ⟨.inl ⟨hf,ba,bc,rfl,HBC.out⟩,HB.out.st (HB3.out.st HBR.out)⟩
   ·have hfb:decide (4611686018427387904≤(F i).2)=true:=by simpa using hf
    go_wp2
    refine bodyPost_ret (v:=.tuple #[.slice none 0 0,.int .u64 0,.int .i64 9]) (by simp [results,Tryz.results26,go_sem];try rfl) rfl ?_
    exact ⟨.inr ⟨by omega,rfl⟩,HB.out.st (HB3.out.st HBR.out)⟩
end Go.Proofs.YteaaapdjplbljaaGreat
end
section
namespace Go.Proofs.YteaaapdjplbljaaGreat
open Go Go.Proofs Go.RowKit Go.Shelf Go.Proofs.YteaaapdjplbljaaGreat.Hp Go.Proofs.YteaaapdjplbljaaGreat.Ch Go.Proofs.YteaaapdjplbljaaGreat.To
theorem dist_bnd {A:Int→Int→Int→Prop} {n:Nat} {M s:Int} (hM:0≤M) (hA:∀u v w,A u v w→nodeN n u∧nodeN n v∧1≤w∧w≤M):∀(k:Nat) (t d:Int) (L:List Int),nodeN n t→Dist A s t d→(∀v∈L,nodeN n v∧∃e,Dist A s v e∧d<e)→L.Nodup→n≤L.length+k→d≤M*(k:Int)
 |k,t,d,L,ht,hd,hL,hN,hk=>by
  have hin:t∉L:=fun h=>by
   obtain ⟨-,e,h1,h2⟩:=hL t h
   have:=h1.2 _ hd.1
   omega
  have hlen:=nodes_le (n:=n) (out:=t::L) (fun u hu=>by
   rcases List.mem_cons.1 hu with rfl|hu
   ·exact ht
   ·exact (hL u hu).1) (List.nodup_cons.2 ⟨hin,hN⟩)
  rw [List.length_cons] at hlen
  cases k with
  |zero=>omega
  |succ k=>
   by_cases hst:s=t
   ·have:=hd.2 0 (.inl ⟨hst,rfl⟩)
    have:=Int.mul_nonneg hM (show (0:Int)≤((k+1:Nat):Int) by omega)
    omega
   ·obtain ⟨m,w,h1,h2⟩:=hd.pred hst
    have h3:=hA _ _ _ h1
    have h4:=dist_bnd hM hA k m (d-w) (t::L) h3.1 h2 (fun v hv=>by
     rcases List.mem_cons.1 hv with rfl|hv
     ·exact ⟨ht,d,hd,by omega⟩
     ·obtain ⟨h5,e,h6,h7⟩:=hL v hv
      exact ⟨h5,e,h6,by omega⟩) (List.nodup_cons.2 ⟨hin,hN⟩) (by rw [List.length_cons];omega)
    have e:((k+1:Nat):Int)=(k:Int)+1:=by omega
    rw [e,Int.mul_add,Int.mul_one]
    omega
theorem far_T {n:Nat} {es:List EdgeD} {s t:Int} (hn:n≤12) (hA:∀u v w,arcG es u v w→nodeN n u∧nodeN n v∧1≤w∧w≤4294967296) (ht:nodeN n t) (h:FarV (arcG es) s t (distV es s t)):DistT es s t:=by
 refine ⟨h,?_⟩
 rcases h with ⟨h1,-,-⟩|⟨h1,-⟩
 ·have:=dist_bnd (by decide) hA n t _ [] ht h1 (by simp) List.nodup_nil (by simp)
  right
  omega
 ·exact .inl h1
set_option maxRecDepth 100000 in
set_option maxHeartbeats 4000000 in
theorem refNear34_any (n:Nat) (es:List EdgeD) (ao:Option Addr) (cap:Nat) (s:Int) (lo:Option Addr) (lc:Nat) (l:List Int) (w:World) (hg:rightG ⟨(n:Int),es⟩=0) (hn:n≤12) (hes:es.length≤40) (hc:Cel w ao (flat es)) (hlc:Cel w lo (l.map encI)) (hl:l.length≤20) (hno:∀v∈s::l,nodeN n v)
  (hA:∀u v w,arcG es u v w→nodeN n u∧nodeN n v∧1≤w∧w≤4294967296):
  Calls Tryz.prog 24 #[.agg #[.int .i64 (n:Int),.slice ao es.length cap],.int .i64 s,.slice lo l.length lc] w (TrNearPost es s l w):=by
 obtain ⟨W,hW⟩:∃W,W=w.alloc (Obj.cells #[.int .i64 (n:Int),.slice ao es.length cap] 24):=⟨_,rfl⟩
 have hbw:Below w.heap.size w W:=by rw [hW];exact Below.of_al _ _
 have c0:W.cell? ⟨w.heap.size,0,none⟩=some (.int .i64 (n:Int)):=by rw [hW];go_simp
 have c1:W.cell? ⟨w.heap.size,1,none⟩=some (.slice ao es.length cap):=by rw [hW];go_simp
 have HW:=Lib.hid hW
 have HB:=Lib.hid hbw
 have HC:=Lib.hid (hlc.go hbw)
 have HNO:=Lib.hid hno
 have HRR:=Lib.hid (fun (U:World) (z:Nat) (hz:Below W.heap.size W U) (hs:z<n)=>refRow_any n z es ao cap lo lc l U hg hn hes hs (hc.go (hbw.st hz)) (hlc.go (hbw.st hz)) (by omega) (fun t ht=>hno t (List.mem_cons_of_mem _ ht)) (fun u v w h=>(hA u v w h).2.2.1))
 have HFT:=Lib.hid (fun (z:Int) (t:Int) (ht:t∈l) (h:FarV (arcG es) z t (distV es z t))=>far_T hn hA (hno t (List.mem_cons_of_mem _ ht)) h)
 have hl2:(l.length:Int)≤20:=by omega
 clear hW hbw hc hlc hno hA hg hes
 go_enter Tryz.func24,Tryz.ntmps24
 go_upto_region 3 with (fail)
 rw [←HW.out]
 obtain ⟨m,hm⟩:∃m,m=l.length:=⟨_,rfl⟩
 have HM:=Lib.hid hm
 clear hm
 go_loopg [1,9,10] l.length (fun gg v1 v9 v10 wr=>∃(k u:Nat) (so:List Nat) (sum x1:Int),k≤l.length∧l.length-k≤gg∧v1=.int .i64 x1∧v10=.int .u64 sum∧Aside (so.length=k∧nodeN n x1∧(s::s::l).getD u 0=x1)∧Aside (0≤sum∧sum≤422212465065984*(k:Int))∧Aside (tnearF (cmat es (s::s::l)) l.length (l.length-k) u so sum=tnearF (cmat es (s::s::l)) l.length l.length 0 [] 0)∧Aside (wr.ownsRow W.heap.size 3 1 v9 k (so.map encN))∧Aside (Below W.heap.size W wr))
 case atStart=>exact ⟨0,0,[],0,s,Nat.zero_le _,by omega,rfl,rfl,⟨rfl,HNO.out s (List.mem_cons_self ..),rfl⟩,⟨Int.le_refl _,by simp⟩,rfl,World.ownsRow_nil _ _ _ _,Below.refl _ _⟩
 case round=>
  obtain ⟨k,u,so,sum,x1,hk,hgg,rfl,rfl,h1,h2,h3,h4,h5⟩:=hrel
  have HSO:=Lib.hid h1.out
  have HSM:=Lib.hid h2.out
  have HNX:=Lib.hid h3.out
  have HOW:=Lib.hid h4.out
  have HB5:=Lib.hid h5.out
  clear h1 h2 h3 h4 h5
  obtain ⟨a6,c6,e6,h6⟩:=Cel.of_owns HOW.out
  subst e6
  have HC6:=Lib.hid h6
  clear h6
  by_cases hlt:k<l.length
  ·have hlt2:(k:Int)<(l.length:Int):=by omega
   have hk0:(0:Int)≤(k:Int):=by omega
   have y0:=cell_later HB5.out c0
   have y1:=cell_later HB5.out c1
   obtain ⟨z,hz⟩:∃z:Nat,x1=(z:Int):=⟨x1.toNat,by have:=HSO.out.2.1.1;omega⟩
   have HRW:=Lib.hid (HRR.out wr z HB5.out (by have:=HSO.out.2.1.2;omega))
   rw [←hz] at HRW
   clear hz
   go_upto_region 5 with (go_at_call 30;refine HRW.out.mono ?_;rintro e w6 ⟨ra,rc,rfl,k1,k2,k3⟩;(have HRC:=Lib.hid k1);(have HFV:=Lib.hid k2);(have HB6:=Lib.hid k3);clear k1 k2 k3)
   obtain ⟨rb,ro,hra,-⟩:=HRC.out 0 (.int .u64 (distV es x1 l[0])) (by rw [List.map_map,List.getElem?_map,List.getElem?_eq_getElem (show 0<l.length by omega)];rfl)
   subst hra
   have HDC:=Lib.hid (show ∀i,i<l.length→w6.cell? ⟨rb,ro+i,none⟩=some (.int .u64 (cmat es (s::s::l) u (i+2)))∧0≤cmat es (s::s::l) u (i+2)∧(cmat es (s::s::l) u (i+2)=4611686018427387904∨cmat es (s::s::l) u (i+2)≤422212465065984) from fun i hi=>by
    have h9:=HFT.out x1 l[i] (List.getElem_mem hi) (HFV.out l[i] (List.getElem_mem hi))
    obtain ⟨b,o,e,h8⟩:=HRC.out i (.int .u64 (distV es x1 l[i])) (by rw [List.map_map,List.getElem?_map,List.getElem?_eq_getElem hi];rfl)
    cases e
    unfold cmat
    rw [HSO.out.2.2,show (s::s::l).getD (i+2) 0=l[i] by simp [List.getD_eq_getElem?_getD,List.getElem?_eq_getElem hi]]
    exact ⟨h8,h9.in.1,h9.2⟩)
   have HC6:=Lib.hid (HC6.out.go HB6.out)
   have HOW6:=Lib.hid (hp_owns_go HOW.out HB6.out)
   have HB56:=Lib.hid (HB5.out.st HB6.out)
   have hsl:=HSO.out.1
   clear y0 y1 HRC HFV HRW HOW HB5 HB6
   go_wp2
   go_loopg [12,13] l.length (fun gi v12 v13 wr=>∃i:Nat,i≤l.length∧l.length-i≤gi∧v13=.int .i64 (i:Int)∧v12=.int .i64 (bestV (tpickF (fun i=>cmat es (s::s::l) u (i+2)) so i))∧Aside (Below w6.heap.size w6 wr))
   case atStart=>exact ⟨0,Nat.zero_le _,by omega,rfl,rfl,Below.refl _ _⟩
   case round=>
    obtain ⟨i,hi,hgi,rfl,rfl,hbr⟩:=hrel
    have HBR:=Lib.hid hbr.out
    clear hbr
    by_cases hli:i<l.length
    ·have hli2:(i:Int)<(l.length:Int):=by omega
     have hi0:(0:Int)≤(i:Int):=by omega
     have HPK:=Lib.hid (pick_ref (fun i=>cmat es (s::s::l) u (i+2)) so i)
     have HPS:=Lib.hid (pick_spec (fun i=>cmat es (s::s::l) u (i+2)) so i)
     have HAS:=Lib.hid (fun (U:World) (hz:Below wr.heap.size wr U)=>refHas_any a6 c6 (so.map Int.ofNat) (i:Int) U (by rw [List.length_map];omega) (by rw [encN_map];exact HC6.out.go (HBR.out.st hz)))
     rw [List.length_map,mem_cast,hsl] at HAS
     have HX:=Lib.hid (fun p=>below_ext wr p)
     have f0:=fun p=>cell_ext p (cell_later HBR.out (HDC.out i hli).1)
     generalize tpickF (fun i=>cmat es (s::s::l) u (i+2)) so i=p at*
     obtain ⟨p1,p2⟩:=p
     obtain ⟨d,hd⟩:∃d,d=cmat es (s::s::l) u (i+2):=⟨_,rfl⟩
     simp only [←hd] at HPK f0
     by_cases hin:i∈so
     ·rw [decide_eq_true hin] at HAS
      have HQ:=Lib.hid (HPK.out.trans (if_neg (fun h=>h.1 hin)))
      clear hin hd
      go_wp2
      refine wp_region_ext (by kernel_rfl) (by kernel_rfl) ?_
      repeat (go_big_quiet_step ((go_at_call 44;exact Calls.ext_of_same (HAS.out _ (HX.out _)))))
      refine wpQuiet_nil ?_
      rintro _ ⟨ps,rfl⟩
      have HBs:=Lib.hid (below_ext wr ps)
      generalize ext wr ps=ws at HBs ⊢
      go_wp2
      go_roundg (l.length-(i+1))
      case measure=>omega
      case rel=>exact ⟨i+1,by omega,Nat.le_refl _,by go_num,by rw [HQ.out],HBR.out.st HBs.out⟩
     ·rw [decide_eq_false hin] at HAS
      by_cases hx:d<4611686018427387904
      ·have hxg:decide (d<4611686018427387904)=true:=by simpa using hx
       cases p1 with
       |none=>
        have HQ:=Lib.hid (HPK.out.trans (if_pos ⟨hin,hx,.inl rfl⟩))
        have hbv:bestV (none,p2)= -1:=rfl
        rw [hbv]
        clear hin hx hd hbv
        go_wp2
        refine wp_region_ext (by kernel_rfl) (by kernel_rfl) ?_
        repeat (go_big_quiet_step ((go_at_call 44;exact Calls.ext_of_same (HAS.out _ (HX.out _)))))
        refine wpQuiet_nil ?_
        rintro _ ⟨ps,rfl⟩
        have HBs:=Lib.hid (below_ext wr ps)
        generalize ext wr ps=ws at HBs ⊢
        go_wp2
        go_roundg (l.length-(i+1))
        case measure=>omega
        case rel=>exact ⟨i+1,by omega,Nat.le_refl _,by go_num,by rw [HQ.out];rfl,HBR.out.st HBs.out⟩
       |some b=>
        obtain ⟨-,hb1,hb2,hb3,hb4⟩:=HPS.out
        have hbl:b<l.length:=by omega
        have f1:=fun p=>cell_ext p (cell_later HBR.out (HDC.out b hbl).1)
        have hbv:bestV (some b,p2)=(b:Int):=rfl
        rw [hbv]
        obtain ⟨y,hy⟩:∃y,y=cmat es (s::s::l) u (b+2):=⟨_,rfl⟩
        simp only [←hy] at f1
        have hbg:decide ((b:Int)<0)=false:=by simp
        have hb0:(0:Int)≤(b:Int):=by omega
        have hb9:(b:Int)<(l.length:Int):=by omega
        by_cases hz:d<y
        ·have hzg:decide (d<y)=true:=by simpa using hz
         have HQ:=Lib.hid (HPK.out.trans (if_pos ⟨hin,hx,.inr ⟨b,rfl,by rw [←hy];exact hz⟩⟩))
         clear hin hx hz hd hy hb1 hb2 hb3 hb4 hbl HPS hbv
         go_wp2
         refine wp_region_ext (by kernel_rfl) (by kernel_rfl) ?_
         repeat (go_big_quiet_step ((go_at_call 44;exact Calls.ext_of_same (HAS.out _ (HX.out _)))))
         refine wpQuiet_nil ?_
         rintro _ ⟨ps,rfl⟩
         have HBs:=Lib.hid (below_ext wr ps)
         generalize ext wr ps=ws at HBs ⊢
         go_wp2
         go_roundg (l.length-(i+1))
         case measure=>omega
         case rel=>exact ⟨i+1,by omega,Nat.le_refl _,by go_num,by rw [HQ.out];rfl,HBR.out.st HBs.out⟩
        ·have hzg:decide (d<y)=false:=by simpa using hz
         have HQ:=Lib.hid (HPK.out.trans (if_neg (fun h=>by
          rcases h.2.2 with h|⟨b',h,h9⟩
          ·cases h
          ·cases h
           exact hz (by rw [hy];exact h9))))
         clear hin hx hz hd hy hb1 hb2 hb3 hb4 hbl HPS hbv
         go_wp2
         refine wp_region_ext (by kernel_rfl) (by kernel_rfl) ?_
         repeat (go_big_quiet_step ((go_at_call 44;exact Calls.ext_of_same (HAS.out _ (HX.out _)))))
         refine wpQuiet_nil ?_
         rintro _ ⟨ps,rfl⟩
         have HBs:=Lib.hid (below_ext wr ps)
         generalize ext wr ps=ws at HBs ⊢
         go_wp2
         go_roundg (l.length-(i+1))
         case measure=>omega
         case rel=>exact ⟨i+1,by omega,Nat.le_refl _,by go_num,by rw [HQ.out];rfl,HBR.out.st HBs.out⟩
      ·have hxg:decide (d<4611686018427387904)=false:=by simpa using hx
       have HQ:=Lib.hid (HPK.out.trans (if_neg (fun h=>hx h.2.1)))
       clear hin hx hd
       go_wp2
       refine wp_region_ext (by kernel_rfl) (by kernel_rfl) ?_
       repeat (go_big_quiet_step ((go_at_call 44;exact Calls.ext_of_same (HAS.out _ (HX.out _)))))
       refine wpQuiet_nil ?_
       rintro _ ⟨ps,rfl⟩
       have HBs:=Lib.hid (below_ext wr ps)
       generalize ext wr ps=ws at HBs ⊢
       go_wp2
       go_roundg (l.length-(i+1))
       case measure=>omega
       case rel=>exact ⟨i+1,by omega,Nat.le_refl _,by go_num,by rw [HQ.out],HBR.out.st HBs.out⟩
    ·obtain rfl:i=l.length:=by omega
     have HPS:=Lib.hid (pick_spec (fun i=>cmat es (s::s::l) u (i+2)) so l.length)
     have HST:=Lib.hid (show tnearF (cmat es (s::s::l)) l.length l.length 0 [] 0=(match (tpickF (fun i=>cmat es (s::s::l) u (i+2)) so l.length).1 with
      |some b=>tnearF (cmat es (s::s::l)) l.length (l.length-(k+1)) (b+2) (so++[b]) (sum+cmat es (s::s::l) u (b+2))
      |none=>none) from HNX.out.symm.trans (by rw [show l.length-k=l.length-(k+1)+1 by omega];rfl))
     generalize tpickF (fun i=>cmat es (s::s::l) u (i+2)) so l.length=p at*
     obtain ⟨p1,p2⟩:=p
     cases p1 with
     |none=>
      have HQ:=Lib.hid (show tnearF (cmat es (s::s::l)) l.length l.length 0 [] 0=none from HST.out)
      have hbe:decide (bestV (none,p2)<0)=true:=rfl
      clear HST HPS
      go_wp2
      refine bodyPost_ret (v:=.tuple #[.slice none 0 0,.int .u64 0,.int .i64 9]) (by simp [results,Tryz.results24,go_sem];try rfl) rfl ?_
      unfold TrNearPost
      rw [HQ.out]
      exact ⟨rfl,HB.out.st (HB56.out.st HBR.out)⟩
     |some b=>
      obtain ⟨-,hb1,hb2,hb3,hb4⟩:=HPS.out
      have hbv:bestV (some b,p2)=(b:Int):=rfl
      rw [hbv]
      have hbg:decide ((b:Int)<0)=false:=by simp
      have hb0:(0:Int)≤(b:Int):=by omega
      have hb9:(b:Int)<(l.length:Int):=by omega
      have y0:=cell_later HBR.out (HDC.out b hb1).1
      have hyb:=(HDC.out b hb1).2
      have HS3:=Lib.hid (show tnearF (cmat es (s::s::l)) l.length l.length 0 [] 0=tnearF (cmat es (s::s::l)) l.length (l.length-(k+1)) (b+2) (so++[b]) (sum+cmat es (s::s::l) u (b+2)) from HST.out)
      generalize cmat es (s::s::l) u (b+2)=y at*
      have hy2:y≤422212465065984:=by omega
      have hw3:IntKind.u64.wrap (sum+y)=sum+y:=by have:=HSM.out;have:=hyb.1;rw [IntKind.wrap_u64];omega
      obtain ⟨lb,lof,le,lc8⟩:=(HC.out.go (HB56.out.st HBR.out)).at hb1
      obtain ⟨x,hx⟩:∃x,x=l[b]:=⟨_,rfl⟩
      rw [←hx] at lc8
      obtain ⟨g6,c7,w7,r6,o6,p6,g7,t6,l6⟩:=run_appK (P:=Tryz.prog) 25 25 W.heap.size 3 _ 8 elem_int Tryz.underlying25 (.slice a6 k c6) k (so.map encN) (hp_owns_go (hp_owns_go HOW6.out HBR.out) (Below.of_al wr (Obj.cells #[.int .i64 (b:Int)] 3))) ⟨wr.heap.size,0,none⟩ 1 (.int .i64 (b:Int)) (gr_one (by go_simp)) rfl ⟨by omega,by omega,by have:=(HB56.out.st HBR.out).size;simp;omega⟩
      have HR6:=Lib.hid r6
      have HO6:=Lib.hid o6
      have HBW:=Lib.hid (show Below W.heap.size W w7 from by
       have h1:=HB56.out.st HBR.out
       refine h1.trans (((Below.of_al wr (Obj.cells #[.int .i64 (b:Int)] 3)).mono h1.size).trans ((gr_off g7).below (by have:=h1.size;simp;omega) (fun k h=>(own_lt (hp_owns_go HOW6.out HBR.out) k h).1)))
       )
      have HXS:=Lib.hid (show x∈l∧(s::s::l).getD (b+2) 0=x by rw [hx];exact ⟨List.getElem_mem _,by simp [List.getD_eq_getElem?_getD,List.getElem?_eq_getElem hb1]⟩)
      have HSU:=Lib.hid (show 0≤sum+y∧sum+y≤422212465065984*((k+1:Nat):Int) by have:=HSM.out;have:=hyb.1;omega)
      have lc7:w7.cell? ⟨lb,lof+b,none⟩=some (.int .i64 x):=by
       have h1:=HB56.out.st HBR.out
       have h2:=HC.out.at hb1
       obtain ⟨b',o',e',h3⟩:=h2
       rw [le] at e'
       cases e'
       rw [←hx] at h3
       exact cell_later HBW.out h3
      clear r6 o6 p6 g7 t6 l6 hx hb1 hb2 hb3 hb4 HPS HST hbv hyb lc8 hy2 HOW6
      subst le
      go_wp2_with (at_builtin;refine Lib.wpList_append_run _ rfl _ _ _ _ rfl _ _ rfl rfl _ _ HR6.out ?_)
      go_roundg (l.length-(k+1))
      case measure=>omega
      case rel=>exact ⟨k+1,b+2,so++[b],sum+y,x,by omega,Nat.le_refl _,rfl,rfl,⟨by rw [List.length_append,List.length_singleton,HSO.out.1],HNO.out x (List.mem_cons_of_mem _ HXS.out.1),HXS.out.2⟩,HSU.out,HS3.out.symm,by rw [List.map_append];exact HO6.out,HBW.out⟩
  ·obtain rfl:k=l.length:=by omega
   have HQ:=Lib.hid (show tnearF (cmat es (s::s::l)) l.length l.length 0 [] 0=some (so,sum) by
    rw [←HNX.out,Nat.sub_self]
    rfl)
   have HSL:=Lib.hid HSO.out.1
   go_wp2
   refine bodyPost_ret (v:=.tuple #[.slice a6 l.length c6,.int .u64 sum,.int .i64 0]) (by simp [results,Tryz.results24,go_sem];try rfl) rfl ?_
   unfold TrNearPost
   rw [HQ.out]
   exact ⟨⟨a6,c6,by rw [HSL.out],HC6.out⟩,HB.out.st HB5.out⟩
end Go.Proofs.YteaaapdjplbljaaGreat
end
section
namespace Go.Proofs.YteaaapdjplbljaaGreat
open Go Go.Proofs Go.RowKit Go.Shelf Go.Proofs.YteaaapdjplbljaaGreat.Hp Go.Proofs.YteaaapdjplbljaaGreat.Ch Go.Proofs.YteaaapdjplbljaaGreat.Ro
def WhPost (P:List RtD→Int→Int→Prop) (w:World) (e:Ending) (w':World):Prop:=
 ∃(a:Option Addr) (c:Nat) (out:List RtD) (x f:Int),e=.returned (.tuple #[.agg #[.slice a (wholeE out).length c,.int .u64 (wholeW out)],.int .i64 x,.int .i64 f])∧Cel w' a ((wholeE out).map encI)∧Below w.heap.size w w'∧P out x f
structure WhS (W0:World) (Z:Nat) (E:List Int) (x:Int) (wr:World):Prop where
 c:∃(ra:Option Addr) (rc:Nat),wr.cell? ⟨Z,0,none⟩=some (.slice ra E.length rc)∧Cel wr ra (E.map encI)∧∀y,ra=some y→Z<y.block
 x:wr.cell? ⟨Z,1,none⟩=some (.int .u64 x)
 f:wr.frozen? ⟨Z,0,none⟩=false∧wr.frozen? ⟨Z,1,none⟩=false
 below:Below Z W0 wr
theorem take_wE {out:List RtD} {k:Nat} (h:k<out.length):wholeE (out.take (k+1))=wholeE (out.take k)++out[k].es:=by
 rw [List.take_succ_eq_append_getElem h,wholeE_snoc]
theorem take_wW {out:List RtD} {k:Nat} (h:k<out.length):wholeW (out.take (k+1))=wholeW (out.take k)+out[k].w:=by
 rw [List.take_succ_eq_append_getElem h,wholeW_snoc]
set_option maxRecDepth 100000 in
set_option maxHeartbeats 4000000 in
theorem whole_of (P:List RtD→Int→Int→Prop) (hv:Value) (l:List Int) (ao:Option Addr) (cap:Nat) (w:World) (hP:∀out x f,P out x f→out.length≤15∧∀r∈out,r.es.length≤12∧0≤r.w∧r.w≤1152921504606846976)
  (hL:∀W,Below w.heap.size w W→Calls Tryz.prog 14 #[hv,.slice ao l.length cap] W fun e w'=>∃(v:Value) (out:List RtD) (x f:Int),e=.returned (.tuple #[v,.int .i64 x,.int .i64 f])∧RtsV W.heap.size out v w'∧Below W.heap.size W w'∧P out x f):
  Calls Tryz.prog 15 #[hv,.slice ao l.length cap] w (WhPost P w):=by
 obtain ⟨W,hW⟩:∃W,W=w.alloc (Obj.cells #[.slice none 0 0,.int .u64 0] 39):=⟨_,rfl⟩
 have hbw:Below w.heap.size w W:=by rw [hW];exact Below.of_al _ _
 have c0:W.cell? ⟨w.heap.size,0,none⟩=some (.slice none 0 0):=by rw [hW];go_simp
 have c1:W.cell? ⟨w.heap.size,1,none⟩=some (.int .u64 0):=by rw [hW];go_simp
 have z0:W.frozen? ⟨w.heap.size,0,none⟩=false:=by rw [hW];go_simp
 have z1:W.frozen? ⟨w.heap.size,1,none⟩=false:=by rw [hW];go_simp
 have HSZ:=Lib.hid (show W.heap.size=w.heap.size+1 by rw [hW];simp)
 have HLE:=Lib.hid (hL W hbw)
 have HP:=Lib.hid hP
 have HB:=Lib.hid hbw
 have HW:=Lib.hid hW
 have HS0:=Lib.hid (show WhS w w.heap.size [] 0 W from ⟨⟨none,0,c0,Cel.nil _ _,(fun y h=>nomatch h)⟩,c1,⟨z0,z1⟩,hbw⟩)
 clear hW hbw hP hL c0 c1 z0 z1
 go_enter Tryz.func15,Tryz.ntmps15
 go_upto_region 1 with (fail)
 rw [←HW.out]
 go_upto_region 2 with (go_at_call 14;refine HLE.out.mono ?_;rintro e w1 ⟨v,out,x,f,rfl,h1,h2,h3⟩;(have HRV:=Lib.hid h1);(have HB1:=Lib.hid h2);(have HPO:=Lib.hid h3);clear h1 h2 h3)
 obtain ⟨va,vc,ts,rfl,hts,hfl,hli,hva,hta⟩:=HRV.out
 obtain ⟨hb1,hb2⟩:=HP.out _ _ _ HPO.out
 have hsl:ts.length=out.length:=by rw [←hts,List.length_map]
 have HTS:=Lib.hid hts
 have HFL:=Lib.hid hfl
 have HLI:=Lib.hid hli
 have HVA:=Lib.hid hva
 have HTA:=Lib.hid hta
 have HBN:=Lib.hid hb2
 have hs15:(ts.length:Int)≤15:=by omega
 have HS1:=Lib.hid (show WhS w w.heap.size [] 0 w1 from by
  obtain ⟨⟨ra,rc,d0,d1,d2⟩,d3,d4,d5⟩:=HS0.out
  have hlt:=World.block_lt_of_cell? _ _ d3
  exact ⟨⟨ra,rc,cell_later HB1.out d0,d1.go HB1.out,d2⟩,cell_later HB1.out d3,⟨(HB1.out.frozen (p:=⟨w.heap.size,0,none⟩) hlt).trans d4.1,(HB1.out.frozen (p:=⟨w.heap.size,1,none⟩) hlt).trans d4.2⟩,d5.st HB1.out⟩)
 have HSL:=Lib.hid hsl
 clear HRV hts hfl hli hva hta hb2 HLE HP hsl hb1
 go_wp2
 go_loopg [19] ts.length (fun gg v19 wr=>∃k:Nat,k≤ts.length∧ts.length-k≤gg∧v19=.int .i64 k∧Aside (WhS w w.heap.size (wholeE (out.take k)) (wholeW (out.take k)) wr)∧Aside (OffX (· =w.heap.size) w1 wr))
 case atStart=>exact ⟨0,Nat.zero_le _,by omega,rfl,HS1.out,.refl _ _⟩
 case round=>
  obtain ⟨k,hk,hgg,rfl,hS,hO⟩:=hrel
  have HS:=Lib.hid hS.out
  have HO:=Lib.hid hO.out
  clear hS hO
  obtain ⟨⟨ra,rc,c0,hce,hnr⟩,c1,⟨z0,z1⟩,hbl⟩:=HS.out
  by_cases hlt:k<ts.length
  ·have hlt2:(k:Int)<(ts.length:Int):=by omega
   have hko:k<out.length:=by have:=HSL.out;omega
   obtain ⟨vb,vo,e,y0,y1⟩:=HFL.out.rt hlt
   subst e
   have hne:vb≠w.heap.size:=fun e=>by have h:W.heap.size≤vb:=HVA.out _ rfl;have:=HSZ.out;omega
   have y0:=HO.out.cell (p:=⟨vb,vo+k*2,none⟩) y0 hne
   have y1:=HO.out.cell (p:=⟨vb,vo+k*2+1,none⟩) y1 hne
   have HTK:=Lib.hid (show ts[k].r=out[k] by have:=HTS.out;subst this;simp)
   have HLK:=Lib.hid (HLI.out _ (List.getElem_mem hlt))
   have HTN:=Lib.hid (HTA.out _ (List.getElem_mem hlt))
   have hbk:=HBN.out _ (List.getElem_mem hko)
   have HBK:=Lib.hid hbk
   have HE:=Lib.hid (take_wE hko)
   have HWW:=Lib.hid (take_wW hko)
   have hwb:=whole_bnd (n:=12) (out:=out.take k) (fun r hr=>HBN.out r (List.mem_of_mem_take hr))
   rw [List.length_take] at hwb
   have HWB:=Lib.hid (show (wholeE (out.take k)).length≤180∧0≤wholeW (out.take k)∧wholeW (out.take k)≤16140901064495857664 by
    obtain ⟨h1,h2,h3⟩:=hwb
    have:12*min k out.length≤12*15:=Nat.mul_le_mul_left _ (by omega)
    have h4:((min k out.length:Nat):Int)≤14:=by have:=HSL.out;omega
    exact ⟨by omega,h2,by omega⟩)
   rw [HTK.out] at y0 y1 HLK
   generalize ts[k]=t at*
   generalize out[k]=r at*
   obtain ⟨ta,tc,tr⟩:=t
   simp only at y0 y1 HTK HLK HTN
   obtain rfl:=HTK.out
   obtain ⟨re,rw'⟩:=tr
   simp only at y0 y1 HLK HE HWW HBK
   generalize wholeE (out.take k)=E at*
   obtain ⟨E',hE'⟩:∃E',E'=wholeE (out.take (k+1)):=⟨_,rfl⟩
   rw [←hE'] at HE
   have HE':=Lib.hid hE'
   generalize wholeW (out.take k)=X at*
   obtain ⟨X',hX'⟩:∃X',X'=wholeW (out.take (k+1)):=⟨_,rfl⟩
   rw [←hX'] at HWW
   have HX':=Lib.hid hX'
   clear hE' hX'
   clear hbk hwb
   go_upto_region 5 with (fail)
   obtain ⟨W4,hW4⟩:∃W4,W4=wr.alloc (Obj.cells #[.slice ta re.length tc,.int .u64 rw'] 39):=⟨_,rfl⟩
   rw [←hW4]
   have hb4:Below wr.heap.size wr W4:=by rw [hW4];exact Below.of_al _ _
   have u0:W4.cell? ⟨wr.heap.size,0,none⟩=some (.slice ta re.length tc):=by rw [hW4];go_simp
   have u1:W4.cell? ⟨wr.heap.size,1,none⟩=some (.int .u64 rw'):=by rw [hW4];go_simp
   have d0:=cell_later hb4 c0
   have d1:=cell_later hb4 c1
   have hzlt:=World.block_lt_of_cell? _ _ c1
   have f0:=(hb4.frozen (p:=⟨w.heap.size,0,none⟩) hzlt).trans z0
   have f1:=(hb4.frozen (p:=⟨w.heap.size,1,none⟩) hzlt).trans z1
   have HJ:=Lib.hid (Join_any ra ta rc tc E re X rw' W4 (by have:=HWB.out.1;omega) (by have:=HBK.out.1;omega) (hce.go hb4) ((cel_off (n:=0) (c:=0) HLK.out.1 HO.out (fun j hj e=>by
    cases ta with
    |none=>cases hj
    |some y=>obtain rfl:y.block=j:=Option.some.inj hj;have:=HTN.out y rfl;have:=HSZ.out;omega)).go hb4))
   have HO4:=Lib.hid (HO.out.trans (.of_below hb4))
   have HB4:=Lib.hid (hbl.trans (hb4.mono (by have:=hbl.size;have:=hzlt;omega)))
   have HZL:=Lib.hid hzlt
   have HSZ4:=Lib.hid hb4.size
   have hwx:IntKind.u64.wrap (X+rw')=X':=by
    rw [HWW.out,IntKind.wrap_u64]
    have:=HWB.out
    have:=HBK.out
    omega
   have HXX:=Lib.hid hwx
   clear hW4 hb4 c0 c1 z0 z1 hce hnr hbl y0 y1 hzlt hwx
   go_wp2_with (go_at_call 62;refine HJ.out.mono ?_;rintro e w5 ⟨a5,c5,rfl,h1,h2,h3⟩;(have HC5:=Lib.hid h1);(have HB5:=Lib.hid h2);(have HN5:=Lib.hid h3);(have x0:=cell_later h2 d0);(have x1:=cell_later h2 d1);(have g0:=(h2.frozen (p:=⟨w.heap.size,0,none⟩) (World.block_lt_of_cell? _ _ d0)).trans f0);(have g1:=(h2.frozen (p:=⟨w.heap.size,1,none⟩) (World.block_lt_of_cell? _ _ d1)).trans f1);clear h1 h2 h3)
   obtain ⟨m0,m1⟩:=h2_read (.slice a5 (E.length+re.length) c5) (.int .u64 (IntKind.u64.wrap (X+rw'))) x0 x1
   obtain ⟨W6,hW6⟩:∃W6,W6=(w5.setCell ⟨w.heap.size,0,none⟩ (.slice a5 (E.length+re.length) c5)).setCell ⟨w.heap.size,1,none⟩ (.int .u64 (IntKind.u64.wrap (X+rw'))):=⟨_,rfl⟩
   have hof:OffX (· =w.heap.size) w5 W6:=by rw [hW6];exact (show OffX (· =w.heap.size) w5 (w5.setCell ⟨w.heap.size,0,none⟩ (.slice a5 (E.length+re.length) c5)) from .set _ rfl).trans (.set _ rfl)
   rw [←hW6] at m0 m1
   rw [HXX.out] at m1
   rw [show E.length+re.length=E'.length by rw [HE.out,List.length_append]] at m0
   go_roundg (ts.length-(k+1))
   case measure=>omega
   case rel=>
    rw [←hW6]
    have hcel:Cel W6 a5 (E'.map encI):=by
     rw [HE.out]
     exact cel_off (n:=0) (c:=0) HC5.out hof (fun j hj e=>by
      cases a5 with
      |none=>cases hj
      |some y=>obtain rfl:y.block=j:=Option.some.inj hj;have:=HN5.out y rfl;have:=HSZ4.out;have:=HZL.out;omega)
    have hfr:W6.frozen? ⟨w.heap.size,0,none⟩=false∧W6.frozen? ⟨w.heap.size,1,none⟩=false:=by
     rw [hW6]
     constructor<;>simp [g0,g1]
    have hbl6:Below w.heap.size w W6:=by
     rw [hW6]
     exact ((HB4.out.trans (HB5.out.mono (by have:=HSZ4.out;have:=HZL.out;omega))).setCell (Nat.le_refl _) _).setCell (Nat.le_refl _) _
    exact ⟨k+1,by omega,Nat.le_refl _,by go_num,by rw [←HE'.out,←HX'.out];exact ⟨⟨a5,c5,m0,hcel,fun y hy=>by have:=HN5.out y hy;have:=HSZ4.out;have:=HZL.out;omega⟩,m1,hfr,hbl6⟩,HO4.out.trans ((OffX.of_below HB5.out).trans hof)⟩
  ·obtain rfl:k=ts.length:=by omega
   have HTE:=Lib.hid (show out.take ts.length=out by rw [HSL.out];exact List.take_length)
   rw [HTE.out] at c0 hce c1
   have HCE:=Lib.hid hce
   have HBL:=Lib.hid hbl
   have HNR:=Lib.hid hnr
   clear hce hbl hnr
   obtain ⟨E,hE⟩:∃E,E=wholeE out:=⟨_,rfl⟩
   obtain ⟨X,hX⟩:∃X,X=wholeW out:=⟨_,rfl⟩
   rw [←hE] at c0 HCE
   rw [←hX] at c1
   have HEE:=Lib.hid (show wholeE out=E∧wholeW out=X from ⟨hE.symm,hX.symm⟩)
   clear hE hX
   go_wp2
   obtain ⟨r0,r1⟩:=h2_read (.slice ra E.length rc) (.int .u64 X) c0 c1
   refine bodyPost_ret (v:=.tuple #[.agg #[.slice ra E.length rc,.int .u64 X],.int .i64 x,.int .i64 f]) (by simp [results,Tryz.results15,go_sem,r0,r1];try rfl) rfl ?_
   have ho:OffX (· =w.heap.size) wr ((wr.setCell ⟨w.heap.size,0,none⟩ (.slice ra E.length rc)).setCell ⟨w.heap.size,1,none⟩ (.int .u64 X)):=
    (show OffX (· =w.heap.size) wr (wr.setCell ⟨w.heap.size,0,none⟩ (.slice ra E.length rc)) from .set _ rfl).trans (.set _ rfl)
   exact ⟨ra,rc,out,x,f,by rw [HEE.out.1,HEE.out.2],by rw [HEE.out.1];exact cel_off (n:=0) (c:=0) HCE.out ho (fun j hj e=>by
    cases ra with
    |none=>cases hj
    |some y=>obtain rfl:y.block=j:=Option.some.inj hj;have:=HNR.out y rfl;omega),(HBL.out.setCell (Nat.le_refl _) _).setCell (Nat.le_refl _) _,HPO.out⟩
theorem legIs_bnd {n:Nat} {es:List EdgeD} (hA:∀u v w,arcG es u v w→nodeN n u∧nodeN n v∧1≤w) (hn:n≤12) {l:List Int} (hl:l.length≤15) {out:List RtD} {x f:Int} (h:LegIs n es l out x f):out.length≤15∧∀r∈out,r.es.length≤12∧0≤r.w∧r.w≤1152921504606846976:=by
 rcases h with ⟨_,_,h⟩|⟨_,rfl,_⟩
 ·refine ⟨by have:=h.1;omega,fun r hr=>?_⟩
  obtain ⟨h1,h2,h3⟩:=h.mem hA r hr
  exact ⟨by omega,h2,h3⟩
 ·exact ⟨Nat.zero_le _,fun r hr=>nomatch hr⟩
theorem whole_any (hb n:Nat) (es:List EdgeD) (R:List Int) (S:List SC) (ro:List Int) (l:List Int) (ao:Option Addr) (cap:Nat) (w:World) (h:BH w hb n es R S ro) (hc:Cel w ao (l.map encI)) (hl:l.length≤15) (hno:∀v∈l,nodeN n v)
  (hg:rightG ⟨(n:Int),es⟩=0) (hel:es.length≤40) (hA:∀u v w,arcG es u v w→nodeN n u∧nodeN n v∧1≤w∧w≤4294967296):
  Calls Tryz.prog 15 #[.pointer (some ⟨hb,0,none⟩),.slice ao l.length cap] w (WhPost (LegIs n es l) w):=
 whole_of (LegIs n es l) (.pointer (some ⟨hb,0,none⟩)) l ao cap w (fun out x f k=>legIs_bnd (fun u v w h=>⟨(hA u v w h).1,(hA u v w h).2.1,(hA u v w h).2.2.1⟩) h.le hl k)
  (fun W hz=>legs_any hb n es R S ro l ao cap W (h.go hz) (hc.go hz) (by omega) hno hg hel hA)
end Go.Proofs.YteaaapdjplbljaaGreat
end
section
namespace Go.Proofs.YteaaapdjplbljaaGreat
open Go Go.Proofs Go.RowKit Go.Shelf Go.Proofs.YteaaapdjplbljaaGreat.Hp Go.Proofs.YteaaapdjplbljaaGreat.Ch Go.Proofs.YteaaapdjplbljaaGreat.To Go.Proofs.YteaaapdjplbljaaGreat.Ro
theorem why34_bad (gv1 gv2 lv:Value) (k:Int) (w:World) (hk:k≠0):Calls Tryz.prog 16 #[.agg #[gv1,gv2],.int .i64 k,lv] w fun e w'=>e=.returned (.int .i64 1)∧Below w.heap.size w w':=by
 have hne:(k != 0)=true:=by simpa using hk
 clear hk
 go_enter Tryz.func16,Tryz.ntmps16
 go_wp2
 go_ret
 exact ⟨rfl,Below.of_al _ _⟩
set_option maxHeartbeats 1000000 in
theorem why34_ok (n:Nat) (ao:Option Addr) (m cap:Nat) (lo:Option Addr) (lc:Nat) (l:List Int) (w:World) (hc:Cel w lo (l.map encI)) (hl:l.length≤1000000):
  Calls Tryz.prog 16 #[.agg #[.int .i64 (n:Int),.slice ao m cap],.int .i64 0,.slice lo l.length lc] w fun e w'=>e=.returned (.int .i64 (if l.any (outB n) then 7 else 0))∧Below w.heap.size w w':=by
 obtain ⟨W,hW⟩:∃W,W=w.alloc (Obj.cells #[.int .i64 (n:Int),.slice ao m cap] 24):=⟨_,rfl⟩
 have hbw:Below w.heap.size w W:=by rw [hW];exact Below.of_al _ _
 have c0:W.cell? ⟨w.heap.size,0,none⟩=some (.int .i64 (n:Int)):=by rw [hW];go_simp
 have c1:W.cell? ⟨w.heap.size,1,none⟩=some (.slice ao m cap):=by rw [hW];go_simp
 have HN:=Lib.hid (refNodes_any n (.slice ao m cap) lo lc l W (hc.go hbw) hl)
 have HW:=Lib.hid hW
 have HB:=Lib.hid hbw
 clear hW hbw hc
 generalize l.any (outB n)=r at*
 go_enter Tryz.func16,Tryz.ntmps16
 go_upto_region 1 with (fail)
 rw [←HW.out]
 cases r with
 |true=>
  go_wp2_with (go_at_call 27;refine HN.out.mono ?_;rintro e w1 ⟨rfl,hb1⟩;(have HB1:=Lib.hid hb1);clear hb1)
  go_ret
  exact ⟨rfl,HB.out.st HB1.out⟩
 |false=>
  go_wp2_with (go_at_call 27;refine HN.out.mono ?_;rintro e w1 ⟨rfl,hb1⟩;(have HB1:=Lib.hid hb1);clear hb1)
  go_ret
  exact ⟨rfl,HB.out.st HB1.out⟩
theorem cel_lit2i (W:World) (T:TypeId):Cel (W.alloc (Obj.cells #[.int .i64 0,.int .i64 1] T)) (some ⟨W.heap.size,0,none⟩) (([0,1]:List Int).map encI):=by
 intro j u hj
 exact ⟨_,_,rfl,(World.cell?_alloc_mark W #[.int .i64 0,.int .i64 1] T (0,0) (0+j)).trans (by simpa [encI] using hj)⟩
theorem ex_nodes:∀v∈([0,1]:List Int),nodeN 2 v:=by
 intro v hv
 have h:v=0∨v=1:=by simpa using hv
 rcases h with rfl|rfl
 ·exact ⟨by decide,by decide⟩
 ·exact ⟨by decide,by decide⟩
theorem ex_arcs:∀u v w,arcG exE u v w→nodeN 2 u∧nodeN 2 v∧1≤w∧w≤4294967296:=by
 rintro u v w ⟨x,hx,rfl,rfl,rfl⟩
 obtain rfl:x=⟨0,1,3⟩:=by simpa [exE] using hx
 exact ⟨⟨by decide,by decide⟩,⟨by decide,by decide⟩,by decide,by decide⟩
theorem ex_distV (h:DistT exE 0 1):distV exE 0 1=3:=by
 rcases h.1 with ⟨h2,h4⟩|⟨-,h3⟩
 ·exact (ex_dist (.inl ⟨rfl,⟨by decide,by decide⟩,⟨by decide,by decide⟩,h2,by rcases h.2 with h5|h5<;>omega⟩)).1
 ·have:=(ex_dist (.inr (.inl ⟨rfl,rfl,⟨by decide,by decide⟩,⟨by decide,by decide⟩,h3⟩))).2
  cases this
theorem ex_order {w w':World} {e:Ending} (h:TrOrdPost exE [0,1] 0 w e w'):(∃(a:Option Addr) (c:Nat),e=.returned (.tuple #[.slice a 0 c,.int .u64 3,.int .i64 0]))∧Below w.heap.size w w':=by
 obtain ⟨h1,h2,h3⟩:=h
 have hc:cmat exE [0,1] 0 1=3:=ex_distV (h1 0 1 (by decide) (by decide))
 have hr:growF (cmat exE [0,1]) 0 0 0 [] 0 ([],4611686018427387904)=([],3):=by
  rw [grow_zero (by decide),hc]
  rfl
 rw [hr] at h2
 rcases h2 with ⟨-,a,c,rfl,-⟩|⟨h2,-⟩
 ·exact ⟨⟨a,c,rfl⟩,h3⟩
 ·exact absurd h2 (by decide)
theorem ex_whole {w w':World} {e:Ending} (h:WhPost (LegIs 2 exE [0,1]) w e w'):∃(a:Option Addr) (m c:Nat),e=.returned (.tuple #[.agg #[.slice a m c,.int .u64 3],.int .i64 0,.int .i64 0])∧Below w.heap.size w w':=by
 obtain ⟨a,c,out,x,f,rfl,-,hb,h⟩:=h
 rcases h with ⟨rfl,rfl,hl,hr⟩|⟨hf,_,i,_,hi,_,l,y,hr⟩
 ·match out,hl,hr with
  |[r],hl,hr=>
   have h9:=ex_dist (routeIs_dist (hr 0 (by decide)))
   have:wholeW [r]=3:=by
    have h8:r.w=3:=h9.1
    simp [wholeW,h8]
   rw [this]
   exact ⟨a,_,c,rfl,hb⟩
 ·obtain rfl:i=0:=by
   have:i+1<2:=hi
   omega
  exact absurd (ex_dist (routeIs_dist hr)).2 hf
set_option maxRecDepth 100000 in
set_option maxHeartbeats 2000000 in
theorem alive34_any (w:World):Calls Tryz.prog 12 #[] w fun e w'=>e=.returned (.bool true)∧Below w.heap.size w w':=by
 have HBU:=Lib.hid (fun W ao (hc:Cel W ao (flat exE))=>built_any ⟨2,exE⟩ ao none 1 0 1 1 [] W hc (Cel.nil _ _) (fun _=>by decide) (by decide) (by decide))
 have HOR:=Lib.hid (fun W hb R S ro (h:BH W hb 2 exE R S ro)=>trOrder_any hb 2 exE R S ro 0 1 [] none 0 W h (Cel.nil _ _) (by decide) ex_nodes)
 have HWH:=Lib.hid (fun W hb R S ro a (h:BH W hb 2 exE R S ro) (hc:Cel W a (([0,1]:List Int).map encI))=>whole_any hb 2 exE R S ro [0,1] a 2 W h hc (by decide) ex_nodes (by decide) (by decide) ex_arcs)
 go_enter Tryz.func12,Tryz.ntmps12
 go_upto_region 2 with (go_at_call 13;refine (HBU.out _ (some ⟨w.heap.size,0,none⟩) (cel_lit3 _ _ _ _ _)).mono ?_;rintro e w1 hp;obtain ⟨hb,R,S,ro,rfl,hbh,hb1⟩:=hp.good (by decide) (by decide) (by decide);(have HBH:=Lib.hid hbh);(have HB1:=Lib.hid hb1);clear hp hbh hb1)
 go_upto_region 3 with (go_at_call 21;refine (HOR.out _ _ _ _ _ HBH.out).mono ?_;intro e w2 hp;obtain ⟨⟨a2,c2,rfl⟩,hb2⟩:=ex_order hp;(have HB2:=Lib.hid hb2);clear hp hb2)
 go_upto_region 4 with (go_at_call 15;refine (HWH.out _ _ _ _ _ (some ⟨w2.heap.size,0,none⟩) ((HBH.out.go HB2.out).go (Below.of_al _ _)) (cel_lit2i w2 _)).mono ?_;intro e w3 hp;obtain ⟨a3,m3,c3,rfl,hb3⟩:=ex_whole hp;(have HB3:=Lib.hid hb3);clear hp hb3)
 go_wp2
 go_ret
 exact ⟨rfl,(((((Below.of_al _ _).st HB1.out).st HB2.out).al _).st HB3.out).al _⟩
end Go.Proofs.YteaaapdjplbljaaGreat
end
section
namespace Go.Proofs.YteaaapdjplbljaaGreat
open Go Go.Proofs Go.RowKit Go.Shelf Go.Proofs.YteaaapdjplbljaaGreat.Hp Go.Proofs.YteaaapdjplbljaaGreat.Ch
def lightG (n:Int) (es:List EdgeD):Bool:=(decide (n≤100)||decide (4096<n))&&decide ((es.length:Int)≤300)
set_option maxHeartbeats 1000000 in
theorem light05_any (n:Int) (es:List EdgeD) (ao:Option Addr) (cap:Nat) (w:World):
  Calls Tryz.prog 31 #[.agg #[.int .i64 n,.slice ao es.length cap]] w fun e w'=>e=.returned (.bool (lightG n es))∧Below w.heap.size w w':=by
 unfold lightG
 by_cases h1:n≤100
 ·rw [decide_eq_true h1,Bool.true_or,Bool.true_and]
  have g1:decide (n≤100)=true:=decide_eq_true h1
  go_enter Tryz.func31,Tryz.ntmps31
  go_wp2
  go_ret
  exact ⟨rfl,Below.of_al _ _⟩
 ·rw [decide_eq_false h1,Bool.false_or]
  have g1:decide (n≤100)=false:=decide_eq_false h1
  by_cases h2:4096<n
  ·rw [decide_eq_true h2,Bool.true_and]
   have g2:decide (n>4096)=true:=decide_eq_true h2
   go_enter Tryz.func31,Tryz.ntmps31
   go_wp2
   go_ret
   exact ⟨rfl,Below.of_al _ _⟩
  ·rw [decide_eq_false h2,Bool.false_and]
   have g2:decide (n>4096)=false:=decide_eq_false h2
   go_enter Tryz.func31,Tryz.ntmps31
   go_wp2
   go_ret
   exact ⟨rfl,Below.of_al _ _⟩
def light20 (n:Int) (es:List EdgeD):Bool:=lightG n es&&(decide (n≤12)||decide (4096<n))&&decide ((es.length:Int)≤40)
theorem light20_small {g:GD} (h:light20 g.n g.es=true):(rightG g=0→g.n≤12)∧g.es.length≤40:=by
 unfold light20 at h
 simp only [Bool.and_eq_true,Bool.or_eq_true,decide_eq_true_eq] at h
 refine ⟨fun hr=>?_,by omega⟩
 have:=right_n hr
 omega
set_option maxHeartbeats 1000000 in
theorem light20_any (n:Int) (es:List EdgeD) (ao:Option Addr) (cap:Nat) (w:World):
  Calls Tryz.prog 11 #[.agg #[.int .i64 n,.slice ao es.length cap]] w fun e w'=>e=.returned (.bool (light20 n es))∧Below w.heap.size w w':=by
 have HL:=Lib.hid (light05_any n es ao cap)
 unfold light20
 obtain ⟨W,hW⟩:∃W,W=w.alloc (Obj.cells #[.int .i64 n,.slice ao es.length cap] 24):=⟨_,rfl⟩
 have hbw:Below w.heap.size w W:=by rw [hW];exact Below.of_al _ _
 have c0:W.cell? ⟨w.heap.size,0,none⟩=some (.int .i64 n):=by rw [hW];go_simp
 have c1:W.cell? ⟨w.heap.size,1,none⟩=some (.slice ao es.length cap):=by rw [hW];go_simp
 have HB:=Lib.hid hbw
 have HW:=Lib.hid hW
 clear hbw hW
 cases hb:lightG n es with
 |false=>
  rw [hb] at HL
  clear hb
  go_enter Tryz.func11,Tryz.ntmps11
  go_upto_region 1 with (fail)
  rw [←HW.out]
  go_wp2_with (go_at_call 31;refine (HL.out _).mono ?_;rintro e w1 ⟨rfl,hb1⟩;(have HB1:=Lib.hid hb1);clear hb1)
  go_ret
  exact ⟨by simp,HB.out.st HB1.out⟩
 |true=>
  rw [hb] at HL
  clear hb
  by_cases h1:n≤12
  ·go_enter Tryz.func11,Tryz.ntmps11
   go_upto_region 1 with (fail)
   rw [←HW.out]
   go_wp2_with (go_at_call 31;refine (HL.out _).mono ?_;rintro e w1 ⟨rfl,hb1⟩;(have d0:=cell_later hb1 c0);(have d1:=cell_later hb1 c1);(have HB1:=Lib.hid hb1);clear hb1)
   go_ret
   exact ⟨by simp [h1],HB.out.st HB1.out⟩
  ·by_cases h2:4096<n
   ·go_enter Tryz.func11,Tryz.ntmps11
    go_upto_region 1 with (fail)
    rw [←HW.out]
    go_wp2_with (go_at_call 31;refine (HL.out _).mono ?_;rintro e w1 ⟨rfl,hb1⟩;(have d0:=cell_later hb1 c0);(have d1:=cell_later hb1 c1);(have HB1:=Lib.hid hb1);clear hb1)
    go_ret
    exact ⟨by simp [h1,h2],HB.out.st HB1.out⟩
   ·go_enter Tryz.func11,Tryz.ntmps11
    go_upto_region 1 with (fail)
    rw [←HW.out]
    go_wp2_with (go_at_call 31;refine (HL.out _).mono ?_;rintro e w1 ⟨rfl,hb1⟩;(have d0:=cell_later hb1 c0);(have d1:=cell_later hb1 c1);(have HB1:=Lib.hid hb1);clear hb1)
    go_ret
    exact ⟨by simp [h1,h2];intro h;omega,HB.out.st HB1.out⟩
theorem BltPost.two {g:GD} {k:Int} {w w':World} {e:Ending} (h:BltPost g k w e w'):∃p,e=.returned (.tuple #[.pointer p,.int .i64 k])∧Below w.heap.size w w'∧(k=0→rightG g=0→g.n≤12→∃hb R S ro,p=some ⟨hb,0,none⟩∧BH w' hb g.n.toNat g.es R S ro):=by
 have h0:=h
 obtain ⟨h1|h1,h2⟩:=h
 ·obtain ⟨rfl,hb,R,S,ro,e,hm,ho⟩:=h1
  exact ⟨_,e,h2,fun _ hg hn=>by
   have:=right_n hg
   exact ⟨hb,R,S,ro,rfl,⟨hm,ho,by omega,by omega⟩⟩⟩
 ·exact ⟨none,h1.2,h2,fun hk=>absurd hk h1.1⟩
end Go.Proofs.YteaaapdjplbljaaGreat
end
section
namespace Go.Proofs.YteaaapdjplbljaaGreat
open Go Go.Proofs Go.RowKit Go.Shelf Go.Proofs.YteaaapdjplbljaaGreat.Hp Go.Proofs.YteaaapdjplbljaaGreat.Ch
end Go.Proofs.YteaaapdjplbljaaGreat
end
section
namespace Go.Proofs.YteaaapdjplbljaaGreat
open Go Go.Proofs Go.RowKit Go.Shelf Go.Proofs.YteaaapdjplbljaaGreat.Hp Go.Proofs.YteaaapdjplbljaaGreat.Ch
end Go.Proofs.YteaaapdjplbljaaGreat
end
section
namespace Go.Proofs.YteaaapdjplbljaaGreat
open Go.Proofs Go.RowKit Go.Shelf
set_option maxHeartbeats 400000 in
theorem sameInts_any (ao bo:Option Addr) (ca cb:Nat) (la lb:List Int) (w:World) (hla:la.length≤9223372036854775807) (hlb:lb.length≤9223372036854775807)
  (ha:Cel w ao (la.map encI)) (hb:Cel w bo (lb.map encI)):
  Calls Tryz.prog 25 #[.slice ao la.length ca,.slice bo lb.length cb] w fun e w'=>e=.returned (.bool (decide (la=lb)))∧∃n,w'=w.drewN n:=by
 have HA:=Lib.hid ha
 have HB:=Lib.hid hb
 clear ha hb
 by_cases hl:la.length=lb.length
 ·have hn2:((la.length:Int) != (lb.length:Int))=false:=by simp;omega
  have HN:=Lib.hid hl
  clear hl
  have HD:=Lib.hid (fun k (h1:k<la.length) (h2:la[k]≠lb[k]'(by have:=HN.out;omega))=>(decide_eq_false (fun e=>h2 (by subst e;rfl)):decide (la=lb)=false))
  have HE:=Lib.hid (fun h:(∀j (h:j<la.length),la[j]=lb[j]'(by have:=HN.out;omega))=>(decide_eq_true (List.ext_getElem HN.out (fun i h1 h2=>h i h1)):decide (la=lb)=true))
  generalize decide (la=lb)=r at*
  go_enter Tryz.func25,Tryz.ntmps25
  go_wp2
  go_loopg [5] la.length (fun g i wr=>∃k q:Nat,k≤la.length∧la.length-k≤g∧i=.int .i64 k∧wr=w.drewN q∧Aside (∀j (h:j<la.length),j<k→la[j]=lb[j]'(by have:=HN.out;omega)))
  case atStart=>exact ⟨0,0,Nat.zero_le _,by omega,rfl,rfl,fun j _ h=>absurd h (Nat.not_lt_zero _)⟩
  case round=>
   obtain ⟨k,q,hk,hg,rfl,rfl,HF⟩:=hrel
   by_cases hlt:k<la.length
   ·have hlt2:k<lb.length:=by have:=HN.out;omega
    have hlt3:(k:Int)<(la.length:Int):=by omega
    have hlt4:(k:Int)<(lb.length:Int):=by omega
    have hk0:(0:Int)≤(k:Int):=by omega
    obtain ⟨b1,o1,hao,hc1⟩:=HA.out.at hlt
    obtain ⟨b2,o2,hbo,hc2⟩:=HB.out.at hlt2
    subst hao hbo
    have HD2:=Lib.hid (HD.out k hlt)
    have HM:=Lib.hid (fun h:la[k]=lb[k]=>(fun j (h1:j<la.length) (h2:j<k+1)=>(by
     by_cases e:j=k
     ·subst e;exact h
     ·exact HF.out j h1 (by omega):la[j]=lb[j]'(by have:=HN.out;omega))))
    generalize la[k]=x at*
    generalize lb[k]=y at*
    go_wp2
    go_quiet (fail)
    go_wp2
    ·have ht:=ne_i (by assumption)
     go_ret
     exact ⟨by rw [HD2.out ht];rfl,q+nq,World.drewN_drewN _ _ _⟩
    ·have ht:=eq_i (by assumption)
     go_roundg (la.length-(k+1))
     case measure=>omega
     case rel=>exact ⟨k+1,q+nq,by omega,by omega,by go_num,rfl,HM.out ht⟩
   ·obtain rfl:k=la.length:=by omega
    go_wp2
    go_ret
    exact ⟨by rw [HE.out (fun j h=>HF.out j h h)];rfl,q,rfl⟩
 ·have hn2:((la.length:Int) != (lb.length:Int))=true:=by simp;omega
  have HN:=Lib.hid (decide_eq_false (fun e=>hl (by subst e;rfl)):decide (la=lb)=false)
  clear hl
  go_enter Tryz.func25,Tryz.ntmps25
  go_wp2
  go_ret
  exact ⟨by rw [HN.out];rfl,0,rfl⟩
end Go.Proofs.YteaaapdjplbljaaGreat
end
section
namespace Go.Proofs.YteaaapdjplbljaaGreat
open Go Go.Proofs Go.RowKit Go.Shelf Go.Proofs.YteaaapdjplbljaaGreat.Hp Go.Proofs.YteaaapdjplbljaaGreat.Ch
theorem BltPost.nil {g:GD} {k:Int} {w w':World} {e:Ending} (h:BltPost g k w e w') (hk:k≠0):e=.returned (.tuple #[.pointer none,.int .i64 k])∧Below w.heap.size w w':=by
 obtain ⟨h1|h1,h2⟩:=h
 ·exact absurd h1.1 hk
 ·exact ⟨h1.2,h2⟩
theorem build_right {g:GD} {h s:Int} {r:List Int} (k:buildB g h s r=0):rightG g=0:=by
 unfold buildB at k
 split at k
 ·cases k
 ·rename_i hn
  exact Decidable.byContradiction fun e=>hn (.inl e)
structure QB1 (W:World) (b:Nat) (g:GD) (ao:Option Addr) (cap:Nat) (h1 s1:Int) (ro:Option Addr) (r:List Int) (rc:Nat):Prop where
 g0:W.cell? ⟨b,0,none⟩=some (.int .i64 g.n)
 g1:W.cell? ⟨b,1,none⟩=some (.slice ao g.es.length cap)
 a0:W.cell? ⟨b+1,0,none⟩=some (.int .i64 h1)
 a1:W.cell? ⟨b+1,1,none⟩=some (.int .i64 s1)
 a2:W.cell? ⟨b+1,2,none⟩=some (.slice ro r.length rc)
theorem QB1.go {W W':World} {b:Nat} {g:GD} {ao:Option Addr} {cap:Nat} {h1 s1:Int} {ro:Option Addr} {r:List Int} {rc:Nat} (h:QB1 W b g ao cap h1 s1 ro r rc) (hz:Below W.heap.size W W'):QB1 W' b g ao cap h1 s1 ro r rc:=
 ⟨cell_later hz h.g0,cell_later hz h.g1,cell_later hz h.a0,cell_later hz h.a1,cell_later hz h.a2⟩
def MeetIs (A:Int→Int→Int→Prop) (r:Int→Int) (s t d:Int) (l:List Int):Prop:=l.Pairwise (· <·)∧∀v,v∈l↔MeetAt A r s t d v
theorem MeetRow.is {es:List EdgeD} {n:Nat} {r:Int→Int} {s t d:Int} {l:List Int} (hN:∀u v w,arcG es u v w→nodeN n u∧nodeN n v) (hs:nodeN n s) (h:MeetRow (arcG es) r s t d n l):MeetIs (arcG es) r s t d l:=
 ⟨h.1,fun v=>(h.2 v).trans ⟨fun k=>k.2,fun k=>⟨by
  obtain ⟨p,q,_,h1,_⟩:=k
  rcases h1.2.1.1 with ⟨e,_⟩|hw
  ·rw [←e];exact hs
  ·exact (hw.nodes hN).2,k⟩⟩⟩
end Go.Proofs.YteaaapdjplbljaaGreat
end
