/- Walk of package query: Peaks, Meet. Walk of package query: Meet; what must come at any rate. What must come at any rate, for the laws of query. Walk of package table: Of where it is refused, Tour. What must come at any rate. The reference's Nodes. A region within a round of a range over a function: operations that only grow memory, in any order, and a last one that waits for all of them. A region whose operations only grow memory, in any order, the frame unseen: what is asked of each operation is what its operands are. Walk over the reference of searches: how far all nodes are. -/
import Derived.Test.YteaaapdjplbljaaGreatProg
import Derived.Test.YteaaapdjplbljaaGreatLw33
import Derived.Test.YteaaapdjplbljaaGreatLw35
import Derived.Test.YteaaapdjplbljaaGreatLw28
import Derived.Test.YteaaapdjplbljaaGreatLw14
import Derived.Test.YteaaapdjplbljaaGreatLw34
import Derived.Test.YteaaapdjplbljaaGreatLw24
import Derived.Deep.Cut
set_option linter.unusedVariables false
set_option linter.unusedSimpArgs false
set_option linter.unnecessarySimpa false
section
namespace Go.Proofs.YteaaapdjplbljaaGreat
open Go Go.Proofs Go.RowKit Go.Shelf Go.Proofs.YteaaapdjplbljaaGreat.Hp Go.Proofs.YteaaapdjplbljaaGreat.Ch
end Go.Proofs.YteaaapdjplbljaaGreat
end
section
namespace Go.Proofs.YteaaapdjplbljaaGreat
open Go Go.Proofs Go.RowKit Go.Shelf Go.Proofs.YteaaapdjplbljaaGreat.Hp Go.Proofs.YteaaapdjplbljaaGreat.Ch
end Go.Proofs.YteaaapdjplbljaaGreat
end
section
namespace Go.Proofs.YteaaapdjplbljaaGreat
open Go Go.Proofs Go.RowKit Go.Shelf Go.Proofs.YteaaapdjplbljaaGreat.Hp Go.Proofs.YteaaapdjplbljaaGreat.Ch
theorem cel_lit3 (W:World) (x y z:Value) (T:TypeId):Cel (W.alloc (Obj.cells #[x,y,z] T)) (some ⟨W.heap.size,0,none⟩) [x,y,z]:=by
 intro j u hj
 have h:=cells3_new W x y z T j u hj
 rw [Addr.add_lit] at h
 exact ⟨_,_,rfl,h⟩
abbrev exE:List EdgeD:=[⟨0,1,3⟩]
theorem ex_arc {u v w:Int}:arcG exE u v w↔u=0∧v=1∧w=3:=by
 unfold arcG exE
 constructor
 ·rintro ⟨x,hx,h1,h2,h3⟩
  rw [List.mem_singleton] at hx
  subst hx
  exact ⟨h1.symm,h2.symm,h3.symm⟩
 ·rintro ⟨rfl,rfl,rfl⟩
  exact ⟨_,List.mem_singleton.2 rfl,rfl,rfl,rfl⟩
theorem ex_way {p:Int→Prop} {u v d:Int} (h:Ch.Way (arcG exE) p u v d):u=0∧v=1∧d=3:=by
 induction h with
 |one h=>exact ex_arc.1 h
 |cons h1 _ _ ih=>
  obtain ⟨_,h2,_⟩:=ex_arc.1 h1
  obtain ⟨h3,_⟩:=ih
  rw [h2] at h3
  cases h3
theorem ex_dist {d k:Int} (h:DistIs 2 (arcG exE) 0 1 d k):d=3∧k=0:=by
 have hw:Way0 (arcG exE) Any 0 1 3:=.inr (.one (ex_arc.2 ⟨rfl,rfl,rfl⟩))
 rcases h with ⟨hk,_,_,h,_⟩|⟨_,_,_,_,h⟩|⟨_,_,h⟩
 ·refine ⟨?_,hk⟩
  rcases h.1 with ⟨e,_⟩|h
  ·cases e
  ·exact (ex_way h).2.2
 ·exact absurd hw (h _)
 ·exact absurd ⟨⟨by decide,by decide⟩,⟨by decide,by decide⟩⟩ h
theorem BltPost.good {g:GD} {k:Int} {w w':World} {e:Ending} (h:BltPost g k w e w') (hk:k=0) (hg:rightG g=0) (hn:g.n≤12):∃hb R S ro,e=.returned (.tuple #[.pointer (some ⟨hb,0,none⟩),.int .i64 0])∧BH w' hb g.n.toNat g.es R S ro∧Below w.heap.size w w':=by
 obtain ⟨h1|h1,h2⟩:=h
 ·obtain ⟨_,hb,R,S,ro,e,hm,ho⟩:=h1
  have:=right_n hg
  exact ⟨hb,R,S,ro,e,⟨hm,ho,by omega,by omega⟩,h2⟩
 ·exact absurd hk h1.1
end Go.Proofs.YteaaapdjplbljaaGreat
end
section
namespace Go.Proofs.YteaaapdjplbljaaGreat
open Go Go.Proofs Go.RowKit Go.Shelf Go.Proofs.YteaaapdjplbljaaGreat.Hp Go.Proofs.YteaaapdjplbljaaGreat.Ch
theorem of_nil (fr tl:List Int) (fo too:Option Addr) (fc tc:Nat) (w:World) (hf:Cel w fo (fr.map encI)) (ht:Cel w too (tl.map encI)) (hfl:fr.length≤60) (htl:tl.length≤60):
  Calls Tryz.prog 65 #[.pointer none,.slice fo fr.length fc,.slice too tl.length tc] w fun e w'=>e=.returned (.tuple #[.slice none 0 0,.int .i64 1])∧Below w.heap.size w w':=by
 have HCC:=Lib.hid (fun W bk h0 h1 (hz:Below w.heap.size w W)=>Concat2_any bk fo too fc tc 2 fr tl W (by omega) (by omega) h0 h1 (hf.go hz) (ht.go hz))
 have HRT:=Lib.hid (fun v W=>tright_nil v W)
 obtain ⟨al,hal⟩:∃al,al=fr++tl:=⟨_,rfl⟩
 rw [←hal] at HCC
 clear hf ht hal hfl htl
 go_enter Tryz.func65,Tryz.ntmps65
 go_wp2_with (first
  |(go_at_call 117;refine (HCC.out _ _ (by go_simp) (by go_simp) (Below.of_al _ _)).mono ?_;rintro e w1 ⟨ao,cap,rfl,hc1,hb1,-⟩;(have HB1:=Lib.hid ((Below.of_al w _).st hb1));clear hc1 hb1)
  |(go_at_call 122;refine (HRT.out _ _).mono ?_;rintro e w2 ⟨rfl,hb2⟩;(have HB2:=Lib.hid (HB1.out.st hb2));clear hb2))
 refine bodyPost_ret (v:=.tuple #[.slice none 0 0,.int .i64 1]) (by simp [results,Tryz.results65,go_sem];try rfl) rfl ?_
 exact ⟨rfl,HB2.out⟩
theorem of_off (hb n:Nat) (es:List EdgeD) (R:List Int) (S:List SC) (O I:List (List Int)) (fr tl:List Int) (fo too:Option Addr) (fc tc:Nat) (w:World) (h:HierM w hb n es R S O I) (hf:Cel w fo (fr.map encI)) (ht:Cel w too (tl.map encI)) (hfl:fr.length≤60) (htl:tl.length≤60) (hno:((fr++tl).any (outB n))=true):
  Calls Tryz.prog 65 #[.pointer (some ⟨hb,0,none⟩),.slice fo fr.length fc,.slice too tl.length tc] w fun e w'=>e=.returned (.tuple #[.slice none 0 0,.int .i64 7])∧Below w.heap.size w w':=by
 have HCC:=Lib.hid (fun W bk h0 h1 (hz:Below w.heap.size w W)=>Concat2_any bk fo too fc tc 2 fr tl W (by omega) (by omega) h0 h1 (hf.go hz) (ht.go hz))
 have HRT:=Lib.hid (fun ao cap W (hz:Below w.heap.size w W) (hc:Cel W ao ((fr++tl).map encI))=>tright_any hb n es R S _ _ ao cap (fr++tl) W (h.go hz) (by simp;omega) hc)
 obtain ⟨al,hal⟩:∃al,al=fr++tl:=⟨_,rfl⟩
 rw [←hal] at HRT HCC hno
 rw [hno] at HRT
 simp only [if_true] at HRT
 clear h hf ht hno hal hfl htl
 go_enter Tryz.func65,Tryz.ntmps65
 go_wp2_with (first
  |(go_at_call 117;refine (HCC.out _ _ (by go_simp) (by go_simp) (Below.of_al _ _)).mono ?_;rintro e w1 ⟨ao,cap,rfl,hc1,hb1,-⟩;(have HC1:=Lib.hid hc1);(have HB1:=Lib.hid ((Below.of_al w _).st hb1));clear hc1 hb1)
  |(go_at_call 122;refine (HRT.out _ _ _ HB1.out HC1.out).mono ?_;rintro e w2 ⟨rfl,hb2⟩;(have HB2:=Lib.hid (HB1.out.st hb2));clear hb2))
 refine bodyPost_ret (v:=.tuple #[.slice none 0 0,.int .i64 7]) (by simp [results,Tryz.results65,go_sem];try rfl) rfl ?_
 exact ⟨rfl,HB2.out⟩
theorem of_rows {n:Nat} {es:List EdgeD} {fr tl:List Int} {w w':World} {e:Ending} (h:OfPost n es fr tl w e w'):
  ∃(ao:Option Addr) (cap:Nat),e=.returned (.tuple #[.slice ao fr.length cap,.int .i64 0])∧(∀i (hi:i<fr.length),∃b o D:Nat,ao=some ⟨b,o,none⟩∧w'.cell? ⟨b,o+i,none⟩=some (.slice (some ⟨D,0,none⟩) tl.length tl.length)∧
   ∀j (hj:j<tl.length),w'.cell? ⟨D,j,none⟩=some (.int .u64 (distV es fr[i] tl[j]))∧DistT es fr[i] tl[j])∧Below w.heap.size w w':=by
 obtain ⟨ao,cap,rows,rfl,h1,h2,h3,h4⟩:=h
 refine ⟨ao,cap,rfl,fun i hi=>?_,h4⟩
 have hi2:i<rows.length:=by rw [h1];exact hi
 obtain ⟨k1,k2⟩:=h3 i rows[i] fr[i] (List.getElem?_eq_getElem hi2) (List.getElem?_eq_getElem hi)
 obtain ⟨b,o,e,c0⟩:=h2 i (.slice (some ⟨rows[i].1,0,none⟩) tl.length tl.length) (by rw [List.getElem?_map,List.getElem?_eq_getElem hi2];rfl)
 refine ⟨b,o,rows[i].1,e,c0,fun j hj=>?_⟩
 obtain ⟨hd,hx⟩:=k2.at hj
 have hq:=k2.eq
 rw [hq] at k1
 obtain ⟨b',o',e',c1⟩:=k1 j (.int .u64 (distV es fr[i] tl[j])) (by simp [hj,encW])
 cases e'
 rw [Nat.zero_add] at c1
 exact ⟨c1,hd⟩
set_option maxRecDepth 100000 in
set_option maxHeartbeats 2000000 in
theorem refNodes_any (n:Nat) (gv:Value) (lo:Option Addr) (lc:Nat) (l:List Int) (w:World) (hc:Cel w lo (l.map encI)) (hl:l.length≤1000000):
  Calls Tryz.prog 27 #[.agg #[.int .i64 (n:Int),gv],.slice lo l.length lc] w fun e w'=>e=.returned (.bool (!(l.any (outB n))))∧Below w.heap.size w w':=by
 obtain ⟨W,hW⟩:∃W,W=w.alloc (Obj.cells #[.int .i64 (n:Int),gv] 24):=⟨_,rfl⟩
 have hbw:Below w.heap.size w W:=by rw [hW];exact Below.of_al _ _
 have c0:W.cell? ⟨w.heap.size,0,none⟩=some (.int .i64 (n:Int)):=by rw [hW];go_simp
 have HC:=Lib.hid (hc.go hbw)
 have HW:=Lib.hid hW
 have HB:=Lib.hid hbw
 have hl2:(l.length:Int)≤1000000:=by omega
 have HC0:=Lib.hid c0
 clear hc hW hbw c0
 go_enter Tryz.func27,Tryz.ntmps27
 go_upto_region 1 with (fail)
 rw [←HW.out]
 go_wp2
 go_loopg [5] l.length (fun gg v5 wr=>∃i:Nat,i≤l.length∧l.length-i≤gg∧v5=.int .i64 (i:Int)∧Aside (∀j (hj:j<l.length),j<i→outB n l[j]=false)∧Aside (Below W.heap.size W wr))
 case atStart=>exact ⟨0,Nat.zero_le _,by omega,rfl,(fun j _ h=>absurd h (Nat.not_lt_zero _)),Below.refl _ _⟩
 case round=>
  obtain ⟨i,hi,hgg,rfl,HA,HBW⟩:=hrel
  by_cases hlt:i<l.length
  ·have hlt3:(i:Int)<(l.length:Int):=by omega
   have hi0:(0:Int)≤(i:Int):=by omega
   obtain ⟨lb,lof,hao,y0⟩:=(HC.out.go HBW.out).at hlt
   subst hao
   have b0:=cell_later HBW.out HC0.out
   have HX:=Lib.hid (fun h:outB n l[i]=true=>(show l.any (outB n)=true from List.any_eq_true.2 ⟨_,List.getElem_mem hlt,h⟩))
   have HY:=Lib.hid (fun h:outB n l[i]=false=>(show ∀j (hj:j<l.length),j<i+1→outB n l[j]=false from fun j hj hji=>by
    by_cases e:j=i
    ·subst e;exact h
    ·exact HA.out j hj (by omega)))
   unfold outB at HX HY
   generalize l[i]=x at*
   have f0:=fun p=>cell_ext p y0
   have f1:=fun p=>cell_ext p b0
   by_cases h1:x<0
   ·have HX2:=Lib.hid (HX.out (by simp [h1]))
    clear HX HY y0 b0
    go_upto_region 4 with (fail)
    refine wp_region_ext (by kernel_rfl) (by kernel_rfl) ?_
    repeat (go_big_quiet_step (fail))
    refine wpQuiet_nil ?_
    rintro _ ⟨p7,rfl⟩
    have HB7:=Lib.hid (below_ext wr p7)
    generalize ext wr p7=w7 at HB7 ⊢
    go_wp2
    go_ret
    exact ⟨by rw [show l.any (outB n)=true from HX2.out];rfl,HB.out.st (HBW.out.st HB7.out)⟩
   ·by_cases h2:(n:Int)≤x
    ·have HX2:=Lib.hid (HX.out (by simp [h2]))
     have hg1:decide (x<0)=false:=by simp;omega
     clear HX HY y0 b0 h1
     go_upto_region 4 with (fail)
     refine wp_region_ext (by kernel_rfl) (by kernel_rfl) ?_
     repeat (go_big_quiet_step (fail))
     refine wpQuiet_nil ?_
     rintro _ ⟨p7,rfl⟩
     have HB7:=Lib.hid (below_ext wr p7)
     generalize ext wr p7=w7 at HB7 ⊢
     go_wp2
     go_ret
     exact ⟨by rw [show l.any (outB n)=true from HX2.out];rfl,HB.out.st (HBW.out.st HB7.out)⟩
    ·have HY2:=Lib.hid (HY.out (by simp;omega))
     have hg1:decide (x<0)=false:=by simp;omega
     have hg2:decide ((n:Int)≤x)=false:=by simp;omega
     clear HX HY y0 b0 h1 h2
     go_upto_region 4 with (fail)
     refine wp_region_ext (by kernel_rfl) (by kernel_rfl) ?_
     repeat (go_big_quiet_step (fail))
     refine wpQuiet_nil ?_
     rintro _ ⟨p7,rfl⟩
     have HB7:=Lib.hid (below_ext wr p7)
     generalize ext wr p7=w7 at HB7 ⊢
     go_wp2
     go_roundg (l.length-(i+1))
     case measure=>omega
     case rel=>exact ⟨i+1,by omega,Nat.le_refl _,by go_num,HY2.out,HBW.out.st HB7.out⟩
  ·obtain rfl:i=l.length:=by omega
   have HX2:=Lib.hid (show l.any (outB n)=false from List.any_eq_false.2 (fun x hx=>by
    obtain ⟨j,hj,rfl⟩:=List.getElem_of_mem hx
    rw [HA.out j hj hj]
    decide))
   go_wp2
   go_ret
   exact ⟨by rw [HX2.out];rfl,HB.out.st HBW.out⟩
end Go.Proofs.YteaaapdjplbljaaGreat
end
section
namespace Go.Proofs.YteaaapdjplbljaaGreat
open Go Go.Proofs Go.RowKit
def lastB (l:List Oper) (n:Nat) (st:Oper):Bool:=
 st.guard.isNone&&(st.after.all fun e=>!Region.binds .any e||decide (e.on<n))&&((List.range n).all fun i=>(List.range (n+1)).any fun j=>decide (i<j)&&Region.waitsFor .any l.toArray j i)
section
variable {a:Act} {P:Program} {Q:Exit→Act→World→Prop} {w:World}
def offB (l:List Oper) (n t:Nat):Bool:=(List.range n).all fun i=>dstAt l i != t
end
end Go.Proofs.YteaaapdjplbljaaGreat
end
section
namespace Go.Proofs.YteaaapdjplbljaaGreat
open Go Go.Proofs Go.RowKit
section
variable {a:Act} {P:Program} {Q:Exit→Act→World→Prop} {w:World}
theorem wp_region_grows_act {id:Nat} {l:List Oper} (n:Nat) (hln:l.length=n) (R:Nat→Value→World→Prop) (hm:P.follows .mixedOrders=true) (hB:growB l a.tmps.size=true)
  (hmono:∀i v w w',Below w.heap.size w w'→R i v w→R i v w')
  (hop:opsAll (fun i o=>∀(act:Act) w',Below w.heap.size w w'→(∀j,depB l i j=true→R j (act.tmps.getD (dstAt l j) undef) w')→(∀t,offB l n t=true→act.tmps.getD t undef=a.tmps.getD t undef)→
   ∀K:Act→World→Prop,(∀v w'',Below w'.heap.size w' w''→R i v w''→K (act.put o.dst v) w'')→o.wp P act w' K Q) 0 l)
  (hend:∀(vs:Nat→Value) w',Below w.heap.size w w'→(∀i,i<n→R i (vs i) w')→Q .normal (puts a (dstAt l) vs n) w'):(Code.region id l.toArray true).wp P Q a w:=by
 subst hln
 have hg:=fun i (hi:i<l.length)=>growB_at hB (List.getElem?_eq_getElem hi)
 have hD:∀i,i<l.length→dstAt l i<a.tmps.size:=fun i hi=>(hg i hi).2.2.1
 have hinj:∀i j,i<l.length→j<l.length→dstAt l i=dstAt l j→i=j:=fun i j hi hj e=>by
  rcases Nat.lt_trichotomy i j with k|k|k
  ·exact absurd e ((hg j hj).2.2.2.2 i k)
  ·exact k
  ·exact absurd e.symm ((hg i hi).2.2.2.2 j k)
 have hon:∀vs j,j<l.length→(puts a (dstAt l) vs l.length).tmps.getD (dstAt l j) undef=vs j:=fun vs j hj=>by
  rw [Array.getD_eq_getD_getElem?,puts_on hinj hj (hD j hj)]
  rfl
 have hoff:∀vs t,offB l l.length t=true→(puts a (dstAt l) vs l.length).tmps.getD t undef=a.tmps.getD t undef:=fun vs t ht=>by
  rw [Array.getD_eq_getD_getElem?,Array.getD_eq_getD_getElem?,puts_off (fun i hi e=>by
   have:=List.all_eq_true.1 ht i (List.mem_range.2 hi)
   simp [e] at this)]
 refine wp_region_grows (fun i v g _ w=>g=[]∧R i v w) hm hB (fun i v g vs w w' hb h=>⟨h.1,hmono i v w w' hb h.2⟩) (fun i v g vs vs' w _ h=>h) ?_ (fun vs gs w' hb hR _ _=>hend vs w' hb (fun i hi=>(hR i hi).2))
 have key:∀(k:Nat) (ll:List Oper),(∀i o,ll[i]? =some o→l[k+i]? =some o∧k+i<l.length)→opsAll (fun i o=>∀(act:Act) w',Below w.heap.size w w'→(∀j,depB l i j=true→R j (act.tmps.getD (dstAt l j) undef) w')→(∀t,offB l l.length t=true→act.tmps.getD t undef=a.tmps.getD t undef)→
   ∀K:Act→World→Prop,(∀v w'',Below w'.heap.size w' w''→R i v w''→K (act.put o.dst v) w'')→o.wp P act w' K Q) k ll→opsAll (fun i o=>∀(vs:Nat→Value) w',Below w.heap.size w w'→(∀j,depB l i j=true→∃g:List Nat,g=[]∧R j (vs j) w')→
   ∀K:Act→World→Prop,(∀v g w'',Below w'.heap.size w' w''→(g=[]∧R i v w'')→(∀k∈g,w'.heap.size≤k∧k<w''.heap.size)→K ((puts a (dstAt l) vs l.length).put o.dst v) w'')→o.wp P (puts a (dstAt l) vs l.length) w' K Q) k ll:=by
  intro k ll
  induction ll generalizing k with
  |nil=>intro _ _;trivial
  |cons o ll ih=>
   intro hll h
   refine ⟨fun vs w' hb hd K hK=>?_,ih (k+1) (fun i o' hi=>by
    have:=hll (i+1) o' (by simpa using hi)
    rw [show k+1+i=k+(i+1) by omega]
    exact this) h.2⟩
   obtain ⟨h0,h1⟩:=hll 0 o rfl
   rw [Nat.add_zero] at h0 h1
   refine h.1 _ w' hb (fun j hj=>?_) (fun t ht=>hoff vs t ht) K (fun v w'' hb2 hr=>hK v [] w'' hb2 ⟨rfl,hr⟩ (fun _ h=>nomatch h))
   have hj2:j<l.length:=by
    have h3:=(growB_at hB h0).2.2.2.1
    unfold depB at hj
    simp only [h0] at hj
    obtain ⟨e,he,k2⟩:=List.any_eq_true.1 hj
    simp only [Bool.and_eq_true,beq_iff_eq] at k2
    have:=h3 e (Array.mem_toList_iff.1 he) k2.1
    omega
   rw [hon vs j hj2]
   exact (hd j hj).choose_spec.2
 exact key 0 l (fun i o hi=>by
  have hl:=(List.getElem?_eq_some_iff.1 hi).1
  rw [Nat.zero_add]
  exact ⟨hi,hl⟩) hop
end
end Go.Proofs.YteaaapdjplbljaaGreat
end
section
namespace Go.Proofs.YteaaapdjplbljaaGreat
open Go Go.Proofs Go.RowKit Go.Shelf Go.Proofs.YteaaapdjplbljaaGreat.Ch
def fillF (n k:Nat):List Int:=(List.range n).map fun i=>if i<k then FAR else 0
theorem fillF_len (n k:Nat):(fillF n k).length=n:=by simp [fillF]
theorem fillF_zero (n:Nat):fillF n 0=List.replicate n 0:=by
 unfold fillF
 apply List.ext_getElem<;>simp
theorem fillF_end (n:Nat):fillF n n=List.replicate n FAR:=by
 unfold fillF
 apply List.ext_getElem
 ·simp
 ·intro i h1 h2
  simp at h1
  simp [h1]
theorem fillF_set {n k:Nat} (h:k<n):(fillF n k).set k FAR=fillF n (k+1):=by
 unfold fillF
 apply List.ext_getElem
 ·simp
 ·intro i h1 h2
  simp at h1
  rw [List.getElem_set]
  by_cases e:k=i
  ·subst e;simp
  ·rw [if_neg e]
   simp only [List.getElem_map,List.getElem_range]
   have:(i<k)↔(i<k+1):=by omega
   simp [this]
structure AllM (W:World) (D n:Nat) (aw:Option Addr) (es:List EdgeD) (d:List Int) (wr:World):Prop where
 row:wr.ownsRow D 37 1 (.slice (some ⟨D,0,none⟩) n n) n (d.map encW)
 bel:Below D W wr
 wts:Cel wr aw (wtsV es)
 awf:∀b o,aw=some ⟨b,o,none⟩→D<b
section
variable {W wr wr':World} {D n:Nat} {aw:Option Addr} {es:List EdgeD} {d:List Int}
theorem AllM.go (h:AllM W D n aw es d wr) (hb:Below wr.heap.size wr wr') (hD:D≤wr.heap.size):AllM W D n aw es d wr':=⟨hp_owns_go h.row hb,h.bel.trans (hb.mono hD),h.wts.go hb,h.awf⟩
theorem AllM.lt (h:AllM W D n aw es d wr):D<wr.heap.size:=(h.row.lt D rfl).2
theorem AllM.set (h:AllM W D n aw es d wr) (u:Nat) (x:Int):AllM W D n aw es (d.set u x) (wr.setCell ⟨D,u,none⟩ (.int .u64 x)):=by
 refine ⟨?_,h.bel.setCell (Nat.le_refl _) _,?_,h.awf⟩
 ·have:=(h.row.stored u (.int .u64 x)).1
  rw [List.map_set]
  exact this
 ·intro i v hi
  obtain ⟨b,o,e,h1⟩:=h.wts i v hi
  refine ⟨b,o,e,?_⟩
  rw [World.cell?_setCell_other]
  ·exact h1
  ·intro k
   have:=h.awf b o e
   cases k
   omega
theorem AllM.drew (h:AllM W D n aw es d wr):AllM W D n aw es d wr.drew:=h.go (Below.of_dr _ _) (Nat.le_of_lt h.lt)
theorem AllM.at (h:AllM W D n aw es d wr) (hl:d.length=n) {u:Nat} (hu:u<n):wr.cell? ⟨D,u,none⟩=some (.int .u64 (gD d u)):=by
 have h1:=h.row.cellAt u (by omega)
 rw [h1,List.getElem?_map,List.getElem?_eq_getElem (by omega)]
 unfold gD
 rw [Int.toNat_natCast,List.getD_eq_getElem?_getD,List.getElem?_eq_getElem (by omega)]
 rfl
theorem AllM.wt (h:AllM W D n aw es d wr) {k:Nat} (hk:k<es.length):∃b o,aw=some ⟨b,o,none⟩∧wr.cell? ⟨b,o+k,none⟩=some (.int .u64 es[k].w):=by
 have:(wtsV es)[k]? =some (.int .u64 es[k].w):=by unfold wtsV;rw [List.getElem?_map,List.getElem?_eq_getElem hk];rfl
 exact h.wts k _ this
end
def RdsAt (es:List EdgeD) (back:Bool) (no:List Int) (s:Int) (n:Nat) (aw:Option Addr) (W:World) (k:Nat) (v:Value) (wr:World):Prop:=
 ∃c d,v=.bool c∧Rds (arcsC es back no) s n k ((es.length:Int)*4294967296) d c∧AllM W W.heap.size n aw es d wr
theorem relax_no {back:Bool} {no:List Int} {p:List Int×Bool} {e:EdgeD} (h:countB no e=false):relaxE back no p e=p:=by unfold relaxE;rw [h];rfl
theorem relax_still {back:Bool} {no:List Int} {p:List Int×Bool} {e:EdgeD} {u v:Nat} (hu:(endsC back e).1=(u:Int)) (hv:(endsC back e).2=(v:Int)) (h:¬(gD p.1 u<4611686018427387904∧gD p.1 u+e.w<gD p.1 v)):relaxE back no p e=p:=by
 unfold relaxE relaxC fires arcOf
 simp only [hu,hv]
 split
 ·rw [if_neg]
  simp only [Bool.and_eq_true,decide_eq_true_eq]
  exact h
 ·rfl
theorem relax_fire {back:Bool} {no:List Int} {p:List Int×Bool} {e:EdgeD} {u v:Nat} (hc:countB no e=true) (hu:(endsC back e).1=(u:Int)) (hv:(endsC back e).2=(v:Int)) (h:gD p.1 u<4611686018427387904) (h2:gD p.1 u+e.w<gD p.1 v):relaxE back no p e=(p.1.set v (gD p.1 u+e.w),true):=by
 unfold relaxE relaxC fires arcOf
 simp only [hu,hv,hc,if_true]
 rw [if_pos]
 ·rw [Int.toNat_natCast]
 ·simp only [Bool.and_eq_true,decide_eq_true_eq]
  exact ⟨h,h2⟩
def AllPost (es:List EdgeD) (n:Nat) (s:Int) (back:Bool) (no:List Int) (w:World) (e:Ending) (w':World):Prop:=
 ∃(b:Nat) (d:List Int),e=.returned (.slice (some ⟨b,0,none⟩) n n)∧Cel w' (some ⟨b,0,none⟩) (d.map encW)∧Below w.heap.size w w'∧w.heap.size≤b∧AllIs es n s back no d
theorem AllM.post {W wr w:World} {D n:Nat} {aw:Option Addr} {es:List EdgeD} {d no:List Int} {s:Int} {back:Bool} (h:AllM W D n aw es d wr) (hb:Below w.heap.size w W) (hD:w.heap.size≤D) (hW:D=W.heap.size) (hi:AllIs es n s back no d):AllPost es n s back no w (.returned (.slice (some ⟨D,0,none⟩) n n)) wr:=by
 refine ⟨D,d,rfl,?_,hb.trans (h.bel.mono hD),hD,hi⟩
 obtain ⟨ao,cap,e,h1⟩:=Cel.of_owns h.row
 cases e
 exact h1
set_option maxRecDepth 100000 in
set_option maxHeartbeats 8000000 in
theorem refAll_any (n s:Nat) (es:List EdgeD) (ao no:Option Addr) (cap nc:Nat) (back:Bool) (l:List Int) (w:World) (hg:rightG ⟨(n:Int),es⟩=0) (hn:n≤12) (hes:es.length≤40) (hs:s<n) (hl:l.length≤1000000) (hc:Cel w ao (flat es)) (hno:Cel w no (l.map encI)):
  Calls Tryz.prog 71 #[.agg #[.int .i64 (n:Int),.slice ao es.length cap],.int .i64 (s:Int),optC back no l.length nc] w (AllPost es n s back l w):=by
 obtain ⟨W,hW⟩:∃W,W=(w.alloc (Obj.cells #[.int .i64 (n:Int),.slice ao es.length cap] 24)).alloc (Obj.cells #[.bool back,.slice no l.length nc,.slice none 0 0,.slice none 0 0,.int .u64 0] 119):=⟨_,rfl⟩
 have hbw:Below w.heap.size w W:=by rw [hW];exact (Below.of_al _ _).al _
 have c0:W.cell? ⟨w.heap.size,0,none⟩=some (.int .i64 (n:Int)):=by rw [hW];go_simp
 have c1:W.cell? ⟨w.heap.size,1,none⟩=some (.slice ao es.length cap):=by rw [hW];go_simp
 have o0:W.cell? ⟨w.heap.size+1,0,none⟩=some (.bool back):=by rw [hW];go_simp
 have o1:W.cell? ⟨w.heap.size+1,1,none⟩=some (.slice no l.length nc):=by rw [hW];go_simp
 have o2:W.cell? ⟨w.heap.size+1,2,none⟩=some (.slice none 0 0):=by rw [hW];go_simp
 have o3:W.cell? ⟨w.heap.size+1,3,none⟩=some (.slice none 0 0):=by rw [hW];go_simp
 have o4:W.cell? ⟨w.heap.size+1,4,none⟩=some (.int .u64 0):=by rw [hW];go_simp
 have HS:=Lib.hid (show W.heap.size=w.heap.size+2 by rw [hW];simp)
 have HB:=Lib.hid hbw
 have HW:=Lib.hid hW
 have HC:=Lib.hid (hc.go hbw)
 have HN:=Lib.hid (hno.go hbw)
 have hE:=edges_ok hg rfl
 have HG:=Lib.hid (arcs_good (es:=es) (n:=n) (back:=back) (no:=l) (fun u v x ⟨y,hy,e1,e2,e3⟩=>by
  have:=hE.ok y hy
  rw [e1,e2,e3] at this
  exact ⟨this.1,this.2.1,this.2.2.2.1,this.2.2.2.2⟩))
 have HED:=Lib.hid (fun j (hj:j<es.length)=>by
  have:=hE.ok es[j] (List.getElem_mem hj)
  exact (⟨this.1,this.2.1,this.2.2.2.1,this.2.2.2.2⟩:nodeN n es[j].f∧nodeN n es[j].t∧1≤es[j].w∧es[j].w≤4294967296))
 have X1:=Lib.hid (fun WX (hz:Below W.heap.size W WX)=>refHas_any no nc l (s:Int) WX (by omega) (HN.out.go hz))
 have X2:=Lib.hid (fun WX (hz:Below W.heap.size W WX)=>refWeights_any (n:Int) es ao no cap l.length nc back WX hg (by omega) (HC.out.go hz))
 have X4:=Lib.hid (fun WX (hz:Below W.heap.size W WX) k hk=>refCounts_any (n:Int) es ao no cap nc back l k hk WX hl (by omega) (HC.out.go hz) (HN.out.go hz))
 have hn0:0<n:=by omega
 have hs0:(0:Int)≤(s:Int):=by omega
 have hs1:(s:Int)<(n:Int):=by omega
 have hn12:(n:Int)≤12:=by omega
 have he40:(es.length:Int)≤40:=by omega
 unfold WtsPost at X2
 clear hW hbw hc hno hg hE
 go_enter Tryz.func71,Tryz.ntmps71
 go_upto_region 1 with (fail)
 rw [←HW.out]
 go_wp2_with (at_make;go_must ((with_reducible refine wpList_mk W.heap.size 37 _ 1 8 elem_u64 Tryz.underlying60 n ?_ ?_ ?_ ?_ ?_ ?_ ?_ ?_);rotate_left 4;(· rfl);(· rfl);(· exact ⟨by simp,by simp,by omega,by omega,by simp⟩);intro wm hown hbl hszm;(have Hmo:=Lib.hid hown;have Hmb:=Lib.hid hbl;clear hown hbl)))
 have HZ0:=Lib.hid (show (madeCells (Value.int .u64 0).cells (n*1)).toList=(fillF n 0).map encW by
  show (madeCells #[Value.int .u64 0] (n*1)).toList=_
  rw [Nat.mul_one,toList_madeCells_one,fillF_zero,List.map_replicate])
 go_loopg [8] n (fun gg i wr=>∃k:Nat,k≤n∧n-k≤gg∧i=.int .i64 k∧Aside (W.heap.size<wr.heap.size)∧Aside (wr.ownsRow W.heap.size 37 1 (.slice (some ⟨W.heap.size,0,none⟩) n n) n ((fillF n k).map encW))∧Aside (Below W.heap.size W wr))
 case atStart=>exact ⟨0,Nat.zero_le _,by omega,rfl,hszm,by have:=Hmo.out;rw [HZ0.out] at this;exact this,Hmb.out⟩
 case round=>
  obtain ⟨k,hk,hgg,rfl,HZ2,HO,HBr⟩:=hrel
  clear HZ0
  have p0:=cell_later HBr.out c0
  by_cases hlt:k<n
  ·have hlt3:(k:Int)<(n:Int):=by omega
   have hk0:(0:Int)≤(k:Int):=by omega
   obtain ⟨u,j4⟩:∃u,wr.cell? ⟨W.heap.size,k,none⟩=some u:=by
    rw [HO.out.cellAt k (by omega),List.getElem?_map,List.getElem?_eq_getElem (by rw [fillF_len];omega)]
    exact ⟨_,rfl⟩
   have j6:=HO.out.frozenAt k
   have HO2:=Lib.hid (show (wr.setCell ⟨W.heap.size,k,none⟩ (encW 4611686018427387904)).ownsRow W.heap.size 37 1 (.slice (some ⟨W.heap.size,0,none⟩) n n) n ((fillF n (k+1)).map encW) by
    have:=(HO.out.stored k (encW 4611686018427387904)).1
    rw [←fillF_set hlt,List.map_set]
    exact this)
   go_wp2
   go_roundg (n-(k+1))
   case measure=>omega
   case rel=>exact ⟨k+1,by omega,by omega,by go_num,(show W.heap.size<(wr.setCell ⟨W.heap.size,k,none⟩ (encW 4611686018427387904)).heap.size by have:=HZ2.out;simpa [World.setCell] using this),HO2.out,HBr.out.setCell (Nat.le_refl _) _⟩
  ·obtain rfl:n=k:=by omega
   have HR:=Lib.hid (show wr.ownsRow W.heap.size 37 1 (.slice (some ⟨W.heap.size,0,none⟩) n n) n ((List.replicate n FAR).map encW) by have:=HO.out;rwa [fillF_end] at this)
   clear HO
   obtain ⟨u,j4⟩:∃u,wr.cell? ⟨W.heap.size,s,none⟩=some u:=by
    rw [HR.out.cellAt s (by omega),List.getElem?_map,List.getElem?_eq_getElem (by simpa using hs)]
    exact ⟨_,rfl⟩
   have j6:=HR.out.frozenAt s
   have HB2:=Lib.hid (show Below W.heap.size W (wr.setCell ⟨W.heap.size,s,none⟩ (encW 0)) from HBr.out.setCell (Nat.le_refl _) _)
   have HR2:=Lib.hid (show (wr.setCell ⟨W.heap.size,s,none⟩ (encW 0)).ownsRow W.heap.size 37 1 (.slice (some ⟨W.heap.size,0,none⟩) n n) n (((List.replicate n FAR).set s 0).map encW) by
    have:=(HR.out.stored s (encW 0)).1
    rw [List.map_set]
    exact this)
   have HSZ:=Lib.hid (show (wr.setCell ⟨W.heap.size,s,none⟩ (encW 0)).heap.size=wr.heap.size by simp [World.setCell])
   have r0:=cell_later HB2.out c0
   have r1:=cell_later HB2.out c1
   have s0:=cell_later HB2.out o0
   have s1:=cell_later HB2.out o1
   have s2:=cell_later HB2.out o2
   have s3:=cell_later HB2.out o3
   have s4:=cell_later HB2.out o4
   have t1:=cell_later HBr.out o1
   have X1r:=Lib.hid (X1.out wr HBr.out)
   have X2r:=Lib.hid (X2.out _ HB2.out)
   by_cases hin:(s:Int)∈l
   ·rw [decide_eq_true hin] at X1r
    have HI:=Lib.hid hin
    clear hin r0 r1 s0 s1 s2 s3 s4 j4 j6 X2 X4
    go_wp2_with (go_at_call 44;refine X1r.out.mono ?_;rintro e w1 ⟨rfl,rfl⟩)
    go_ret
    obtain ⟨a9,k9,e9,h9⟩:=Cel.of_owns HR.out
    cases e9
    exact ⟨W.heap.size,_,rfl,h9,HB.out.st HBr.out,by have:=HS.out;omega,AllIs.out HI.out⟩
   ·rw [decide_eq_false hin] at X1r
    have HI:=Lib.hid hin
    clear hin
    go_wp2_with (first
     |(go_at_call 44;refine X1r.out.mono ?_;rintro e w1 ⟨rfl,rfl⟩)
     |(go_at_call 120;refine X2r.out.mono ?_;rintro e w3 ⟨aw,cw,rfl,hw1,hw2,hw3⟩;(have HM3:=Lib.hid (show AllM W W.heap.size n aw es ((List.replicate n FAR).set s 0) w3 from ⟨hp_owns_go HR2.out hw2,HB2.out.st hw2,hw1,fun b o e=>by (have h8:=hw3 b (by rw [e];rfl));(have:=HSZ.out);(have:=HZ2.out);omega⟩));clear hw1 hw2 hw3))
    clear r0 r1 s0 s1 s2 s3 s4 t1 j4 j6 p0 X1r X2r X1 X2 HR HR2 HB2 HSZ HZ2 HBr
    have HR0:=Lib.hid (show Rds (arcsC es back l) (s:Int) n 0 ((es.length:Int)*4294967296) ((List.replicate n FAR).set s 0) true by
     have:=Rds.start (arcsC es back l) ((es.length:Int)*4294967296) (show node n (s:Int) from ⟨hs0,hs1⟩)
     rwa [Int.toNat_natCast] at this)
    go_loopg [10,11] (n+1) (fun gg v10 v11 wr=>∃k:Nat,k≤n+1∧n+1-k≤gg∧v11=.int .i64 k∧Aside (RdsAt es back l (s:Int) n aw W k v10 wr))
    case atStart=>exact ⟨0,Nat.zero_le _,by omega,rfl,⟨true,_,rfl,HR0.out,HM3.out⟩⟩
    case round=>
     obtain ⟨k,hk,hgg,rfl,HA⟩:=hrel
     obtain ⟨c,d,rfl,hR,hM⟩:=HA.out
     have p0:=cell_later hM.bel c0
     have HM:=Lib.hid hM
     have HRd:=Lib.hid hR
     clear HA hM hR HM3 HR0
     by_cases hgo:k≤n∧c=true
     ·obtain ⟨hkn,rfl⟩:=hgo
      obtain ⟨f,hf⟩:∃f:Nat→List Int×Bool,f=fun j=>(es.take j).foldl (relaxE back l) (d,false):=⟨_,rfl⟩
      have HF0:=Lib.hid (show f 0=(d,false) by rw [hf];rfl)
      have HFS:=Lib.hid (fun j (hj:j<es.length)=>(by rw [hf];exact relaxE_take hj:f (j+1)=relaxE back l (f j) es[j]))
      have HFE:=Lib.hid (show f es.length=roundC d (arcsC es back l) by rw [hf];simp only [List.take_length];exact round_relaxE es back l d)
      have hB0:(0:Int)≤(k:Int)*((es.length:Int)*4294967296):=Int.mul_nonneg (by omega) (by omega)
      have hB1:(k:Int)*((es.length:Int)*4294967296)≤13*(40*4294967296):=Int.mul_le_mul (by omega) (by omega) (by omega) (by omega)
      have HBD:=Lib.hid (fun j=>(by rw [hf];exact part_bd HG.out ⟨hs0,hs1⟩ (by omega) HRd.out.so hB0 (by show _<(4611686018427387904:Int);omega) j:(f j).1.length=n∧∀v,node n v→0≤gD (f j).1 v∧gD (f j).1 v≤4611686018427387904))
      have HRN:=Lib.hid (HRd.out.go (W:=4294967296) HG.out (by omega) ⟨hs0,hs1⟩ (Int.mul_le_mul_of_nonneg_right (by have:=arcs_len (es:=es) (back:=back) (no:=l);omega) (by omega)) (by omega) (by show _<(4611686018427387904:Int);omega))
      have hkn3:(k:Int)≤(n:Int):=by omega
      clear hf hB0 hB1 HRd
      go_wp2
      go_loopg [10,12] es.length (fun gg v10 v12 wr=>∃j:Nat,j≤es.length∧es.length-j≤gg∧v12=.int .i64 j∧Aside (v10=.bool (f j).2∧AllM W W.heap.size n aw es (f j).1 wr))
      case atStart=>exact ⟨0,Nat.zero_le _,by omega,rfl,by rw [HF0.out];exact ⟨rfl,HM.out⟩⟩
      case round=>
       obtain ⟨j,hj,hgj,rfl,HA⟩:=hrel
       obtain ⟨rfl,hM⟩:=HA.out
       have q1:=cell_later hM.bel c1
       clear HM p0 HA
       have HM:=Lib.hid hM
       clear hM
       by_cases hlt:j<es.length
       ·have hlt3:(j:Int)<(es.length:Int):=by omega
        have hj0:(0:Int)≤(j:Int):=by omega
        have hbl:=HM.out.bel
        obtain ⟨qb,qo,rfl,y0,y1,y2⟩:=(HC.out.go hbl).edge hlt
        obtain ⟨wb,wo,rfl,y3⟩:=HM.out.wt hlt
        obtain ⟨e1,e2,e3,e4⟩:=HED.out j hlt
        have hends:nodeN n (endsC back es[j]).1∧nodeN n (endsC back es[j]).2:=by
         unfold endsC
         cases back
         ·exact ⟨e1,e2⟩
         ·exact ⟨e2,e1⟩
        obtain ⟨⟨u0,u1⟩,v0,v1⟩:=hends
        obtain ⟨u,hu⟩:∃u:Nat,(endsC back es[j]).1=u:=⟨(endsC back es[j]).1.toNat,by omega⟩
        obtain ⟨v,hv⟩:∃v:Nat,(endsC back es[j]).2=v:=⟨(endsC back es[j]).2.toNat,by omega⟩
        rw [hu] at u0 u1
        rw [hv] at v0 v1
        have hun:u<n:=by omega
        have hvn:v<n:=by omega
        have hdl:=(HBD.out j).1
        obtain ⟨x0,x1⟩:=(HBD.out j).2 (u:Int) ⟨u0,u1⟩
        obtain ⟨z0,z1⟩:=(HBD.out j).2 (v:Int) ⟨v0,v1⟩
        have HAT:=Lib.hid (fun WX (hz:Below wr.heap.size wr WX)=>(⟨(HM.out.go hz (Nat.le_of_lt HM.out.lt)).at hdl hun,(HM.out.go hz (Nat.le_of_lt HM.out.lt)).at hdl hvn,(HM.out.go hz (Nat.le_of_lt HM.out.lt)).row.frozenAt v⟩:WX.cell? ⟨W.heap.size,u,none⟩=some (.int .u64 (gD (f j).1 u))∧WX.cell? ⟨W.heap.size,v,none⟩=some (.int .u64 (gD (f j).1 v))∧WX.frozen? ⟨W.heap.size,v,none⟩=false))
        have X3:=Lib.hid (fun WX=>refEnds_any es[j] back WX)
        rw [hu,hv] at X3
        have X5:=Lib.hid (fun WX (hz:Below wr.heap.size wr WX)=>X4.out WX (hbl.trans (hz.mono (Nat.le_of_lt HM.out.lt))) j hlt)
        have HN1:=Lib.hid (fun (h:countB l es[j]=false)=>(HFS.out j hlt).trans (relax_no h))
        have HN2:=Lib.hid (fun h=>(HFS.out j hlt).trans (relax_still (no:=l) hu hv h))
        have HN3:=Lib.hid (fun hc h1 h2=>(HFS.out j hlt).trans (relax_fire (no:=l) hc hu hv h1 h2))
        clear hu hv hdl
        generalize hbv:countB l es[j]=cb at*
        clear hbv
        generalize es[j]=e at*
        obtain ⟨ef,et,ew⟩:=e
        simp only at y0 y1 y2 y3 e3 e4 HN2 HN3 X3
        generalize gD (f j).1 (u:Int)=x at*
        generalize gD (f j).1 (v:Int)=y at*
        have a0:=cell_later hbl c0
        have b0:=cell_later hbl o0
        have b1:=cell_later hbl o1
        have b2:=cell_later hbl o2
        have b3:=cell_later hbl o3
        have b4:=cell_later hbl o4
        have f1:=fun p=>cell_ext p q1
        have f2:=fun p=>cell_ext p y0
        have f3:=fun p=>cell_ext p y1
        have f4:=fun p=>cell_ext p y2
        have f5:=fun p=>cell_ext p b0
        clear e1 e2 hbl
        go_wp2
        refine wp_region_ext (by kernel_rfl) (by kernel_rfl) ?_
        repeat (go_big_quiet_step ((go_at_call 126;exact Calls.ext_of (X3.out _))))
        refine wpQuiet_nil ?_
        rintro _ ⟨pq,rfl⟩
        have HBq:=Lib.hid (below_ext wr pq)
        generalize ext wr pq=wq at HBq ⊢
        clear f1 f2 f3 f4 f5 y0 y1 y2
        obtain ⟨k1,k2,-⟩:=HAT.out wq HBq.out
        have g0:=cell_later HBq.out a0
        have g1:=cell_later HBq.out q1
        have g2:=cell_later HBq.out b0
        have g3:=cell_later HBq.out b1
        have g4:=cell_later HBq.out b2
        have g5:=cell_later HBq.out b3
        have g6:=cell_later HBq.out b4
        have g7:=cell_later HBq.out y3
        have f0:=fun p=>cell_ext p g0
        have f1:=fun p=>cell_ext p g1
        have f2:=fun p=>cell_ext p g2
        have f3:=fun p=>cell_ext p g3
        have f4:=fun p=>cell_ext p g4
        have f5:=fun p=>cell_ext p g5
        have f6:=fun p=>cell_ext p g6
        have f7:=fun p=>cell_ext p g7
        have f8:=fun p=>cell_ext p k1
        have f9:=fun p=>cell_ext p k2
        have X6:=Lib.hid (fun p=>X5.out (ext wq p) (HBq.out.st (below_ext wq p)))
        clear a0 b0 b1 b2 b3 b4 q1 y3 X4 X5 X3
        cases cb with
        |false=>
         have HST:=Lib.hid (HN1.out rfl)
         go_wp2
         refine wp_region_ext (by kernel_rfl) (by kernel_rfl) ?_
         repeat (go_big_quiet_step ((go_at_call 121;exact Calls.ext_of (X6.out _))))
         refine wpQuiet_nil ?_
         rintro _ ⟨ps,rfl⟩
         have HBs:=Lib.hid (below_ext wq ps)
         generalize ext wq ps=ws at HBs ⊢
         go_wp2
         go_roundg (es.length-(j+1))
         case measure=>omega
         case rel=>exact ⟨j+1,by omega,Nat.le_refl _,by go_num,by rw [HST.out];exact ⟨rfl,HM.out.go (HBq.out.st HBs.out) (Nat.le_of_lt HM.out.lt)⟩⟩
        |true=>
         by_cases hx:x<4611686018427387904
         ·by_cases hy:x+ew<y
          ·have HST:=Lib.hid (HN3.out rfl hx hy)
           go_wp2
           refine wp_region_ext (by kernel_rfl) (by kernel_rfl) ?_
           repeat (go_big_quiet_step ((go_at_call 121;exact Calls.ext_of (X6.out _))))
           refine wpQuiet_nil ?_
           rintro _ ⟨ps,rfl⟩
           have HBs:=Lib.hid (below_ext wq ps)
           generalize ext wq ps=ws at HBs ⊢
           clear f0 f1 f2 f3 f4 f5 f6 f7 f8 f9
           obtain ⟨k4,k5,k6⟩:=HAT.out ws (HBq.out.st HBs.out)
           have g8:=cell_later HBs.out g7
           go_wp2
           go_region
           go_wp2
           go_roundg (es.length-(j+1))
           case measure=>omega
           case rel=>exact ⟨j+1,by omega,Nat.le_refl _,by go_num,by rw [HST.out];exact ⟨rfl,((HM.out.go (HBq.out.st HBs.out) (Nat.le_of_lt HM.out.lt)).set v (x+ew)).drew⟩⟩
          ·have HST:=Lib.hid (HN2.out fun h=>hy h.2)
           go_wp2
           refine wp_region_ext (by kernel_rfl) (by kernel_rfl) ?_
           repeat (go_big_quiet_step ((go_at_call 121;exact Calls.ext_of (X6.out _))))
           refine wpQuiet_nil ?_
           rintro _ ⟨ps,rfl⟩
           have HBs:=Lib.hid (below_ext wq ps)
           generalize ext wq ps=ws at HBs ⊢
           go_wp2
           go_roundg (es.length-(j+1))
           case measure=>omega
           case rel=>exact ⟨j+1,by omega,Nat.le_refl _,by go_num,by rw [HST.out];exact ⟨rfl,HM.out.go (HBq.out.st HBs.out) (Nat.le_of_lt HM.out.lt)⟩⟩
         ·have HST:=Lib.hid (HN2.out fun h=>hx h.1)
          obtain rfl:x=4611686018427387904:=by omega
          go_wp2
          refine wp_region_ext (by kernel_rfl) (by kernel_rfl) ?_
          repeat (go_big_quiet_step ((go_at_call 121;exact Calls.ext_of (X6.out _))))
          refine wpQuiet_nil ?_
          rintro _ ⟨ps,rfl⟩
          have HBs:=Lib.hid (below_ext wq ps)
          generalize ext wq ps=ws at HBs ⊢
          go_wp2
          go_roundg (es.length-(j+1))
          case measure=>omega
          case rel=>exact ⟨j+1,by omega,Nat.le_refl _,by go_num,by rw [HST.out];exact ⟨rfl,HM.out.go (HBq.out.st HBs.out) (Nat.le_of_lt HM.out.lt)⟩⟩
       ·obtain rfl:j=es.length:=by omega
        have HFE2:=Lib.hid (show RdsAt es back l (s:Int) n aw W (k+1) (.bool (f es.length).2) wr by
         rw [HFE.out]
         refine ⟨_,_,rfl,HRN.out,?_⟩
         have:=HM.out
         rwa [HFE.out] at this)
        go_wp2
        go_roundg (n+1-(k+1))
        case measure=>omega
        case rel=>exact ⟨k+1,by omega,Nat.le_refl _,by go_num,HFE2.out⟩
     ·have hB1:(k:Int)*((es.length:Int)*4294967296)≤13*(40*4294967296):=Int.mul_le_mul (by omega) (by omega) (by omega) (by omega)
      have HX:=Lib.hid (show AllIs es n (s:Int) back l d from Exact.is (HRd.out.done HG.out (by cases c;exact .inl rfl;exact .inr (by have:¬k≤n:=fun h=>hgo ⟨h,rfl⟩;omega))) HRd.out.so HG.out HI.out (by omega))
      have hcase:((k:Int)≤(n:Int)∧c=false)∨¬((k:Int)≤(n:Int)):=by
       cases c
       ·by_cases h:(k:Int)≤(n:Int)
        ·exact .inl ⟨h,rfl⟩
        ·exact .inr h
       ·exact .inr (fun h=>hgo ⟨by omega,rfl⟩)
      clear hgo hB1 HRd
      rcases hcase with ⟨h1,rfl⟩|h1
      all_goals
       go_wp2
       go_loopg [15] n (fun gg v15 wr=>∃j:Nat,j≤n∧n-j≤gg∧v15=.int .i64 j∧Aside (AllM W W.heap.size n aw es d wr))
       case atStart=>exact ⟨0,Nat.zero_le _,by omega,rfl,HM.out⟩
       case round=>
        obtain ⟨j,hj,hgj,rfl,HA⟩:=hrel
        have p0:=cell_later HA.out.bel c0
        have b4:=cell_later HA.out.bel o4
        by_cases hlt:j<n
        ·have hlt3:(j:Int)<(n:Int):=by omega
         have hj0:(0:Int)≤(j:Int):=by omega
         have f1:=fun p=>cell_ext p b4
         go_wp2
         refine wp_region_ext (by kernel_rfl) (by kernel_rfl) ?_
         repeat (go_big_quiet_step (fail))
         refine wpQuiet_nil ?_
         rintro _ ⟨pq,rfl⟩
         have HBq:=Lib.hid (below_ext wr pq)
         generalize ext wr pq=wq at HBq ⊢
         go_wp2
         go_roundg (n-(j+1))
         case measure=>omega
         case rel=>exact ⟨j+1,by omega,Nat.le_refl _,by go_num,HA.out.go HBq.out (Nat.le_of_lt HA.out.lt)⟩
        ·obtain rfl:n=j:=by omega
         go_wp2
         go_ret
         exact HA.out.post HB.out (by have:=HS.out;omega) rfl HX.out
end Go.Proofs.YteaaapdjplbljaaGreat
end
