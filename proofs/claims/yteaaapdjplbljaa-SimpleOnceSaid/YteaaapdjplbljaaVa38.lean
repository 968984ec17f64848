/- Package simple's law: the small ones: what comes at any rate; a graph so small. Plain: what all simple ways are: ways, simple, of their weights; each is at its place among them. -/
import Derived.Test.YteaaapdjplbljaaProg
import Derived.Test.YteaaapdjplbljaaVa37
import Derived.Test.YteaaapdjplbljaaVa07
import Derived.Test.YteaaapdjplbljaaVa36
import Derived.Test.YteaaapdjplbljaaVa25
set_option linter.unusedVariables false
set_option linter.unusedSimpArgs false
set_option linter.unnecessarySimpa false
section
namespace Go.Proofs.Yteaaapdjplbljaa.Sm
open Go Go.Proofs Go.RowKit Go.Shelf Go.Proofs.Yteaaapdjplbljaa Go.Proofs.Yteaaapdjplbljaa.Ad Go.Proofs.Yteaaapdjplbljaa.Hp Go.Proofs.Yteaaapdjplbljaa.Ch
def es30:List EdgeD:=[⟨0,1,2⟩,⟨0,1,1⟩]
theorem all30:allS 2 es30 0 1=[⟨[0],2⟩,⟨[1],1⟩]:=by decide
theorem sort30:sortR (allS 2 es30 0 1)=[⟨[1],1⟩,⟨[0],2⟩]:=by rw [all30];decide
theorem why30:whyS ⟨2,es30⟩ 0 1=0:=by decide
theorem tells30 {ts:List RtC} {is:Bool} {k:Int} (h:AllSIs 2 es30 0 1 9 (ts.map (·.r)) is k):∃x y,ts=[x,y]∧is=true∧k=0∧x.r.w=1∧y.r.w=2:=by
 rcases h with ⟨h1,h2,-,-⟩|⟨-,h2,⟨-,h3,h4⟩|⟨h3,-,-⟩⟩
 ·exact absurd (h1.trans why30) h2
 ·rw [sort30] at h4
  obtain ⟨x,r,rfl,hx,h5⟩:=List.map_eq_cons_iff.1 h4
  obtain ⟨y,r',rfl,hy,h6⟩:=List.map_eq_cons_iff.1 h5
  obtain rfl:=List.map_eq_nil_iff.1 h6
  exact ⟨x,y,rfl,h3,h2,by rw [hx],by rw [hy]⟩
 ·rw [all30] at h3
  exact absurd h3 (by decide)
theorem two30 {W:World} {ta:Option Addr} {x y:RtC} (h:Cel W ta (flatR [x,y])):∃b o,ta=some ⟨b,o,none⟩∧W.cell? ⟨b,o,none⟩=some (.slice x.ao x.r.es.length x.cap)∧W.cell? ⟨b,o+1,none⟩=some (.int .u64 x.r.w)∧W.cell? ⟨b,o+2,none⟩=some (.slice y.ao y.r.es.length y.cap)∧W.cell? ⟨b,o+3,none⟩=some (.int .u64 y.r.w):=by
 obtain ⟨b,o,rfl,x0⟩:=h 0 _ rfl
 obtain ⟨b1,o1,e1,x1⟩:=h 1 _ rfl
 obtain ⟨b2,o2,e2,x2⟩:=h 2 _ rfl
 obtain ⟨b3,o3,e3,x3⟩:=h 3 _ rfl
 cases e1;cases e2;cases e3
 exact ⟨b,o,rfl,x0,x1,x2,x3⟩
set_option maxRecDepth 100000 in
set_option maxHeartbeats 4000000 in
theorem light30_any (g:GD) (ao:Option Addr) (cap:Nat) (w:World):
  Calls Try.prog 5 #[.agg #[.int .i64 g.n,.slice ao g.es.length cap]] w fun e w'=>e=.returned (.bool ((((decide (g.n≤100)||decide (4096<g.n))&&decide ((g.es.length:Int)≤300))&&(decide (g.n≤7)||decide (4096<g.n)))&&decide ((g.es.length:Int)≤22)))∧Below w.heap.size w w':=by
 have HL:=Lib.hid (fun W=>Light_any g ao cap W)
 obtain ⟨V,hV⟩:∃V,V=w.alloc (Obj.cells #[.int .i64 g.n,.slice ao g.es.length cap] 24):=⟨_,rfl⟩
 have HBV:=Lib.hid (show Below w.heap.size w V by rw [hV];exact Below.of_al _ _)
 have z0:V.cell? ⟨w.heap.size,0,none⟩=some (.int .i64 g.n):=by rw [hV];go_simp
 have z1:V.cell? ⟨w.heap.size,1,none⟩=some (.slice ao g.es.length cap):=by rw [hV];go_simp
 have HV:=Lib.hid hV
 clear hV
 generalize ((decide (g.n≤100)||decide (4096<g.n))&&decide ((g.es.length:Int)≤300))=b at*
 cases b with
 |false=>
  go_enter Try.func5,Try.ntmps5
  go_upto_region 1 with (fail)
  rw [←HV.out]
  go_wp2_with (go_at_call 14;refine (HL.out _).mono ?_;rintro e w1 ⟨rfl,hb1⟩;(have z0:=cell_later hb1 z0);(have z1:=cell_later hb1 z1);(have HB1:=Lib.hid (HBV.out.st hb1));clear hb1)
  go_ret
  exact ⟨rfl,HB1.out⟩
 |true=>
  by_cases h1:g.n≤7<;>by_cases h2:4096<g.n<;>by_cases h3:(g.es.length:Int)≤22
  all_goals
   first
    |(exfalso;omega)
    |(go_enter Try.func5,Try.ntmps5;go_upto_region 1 with (fail);rw [←HV.out];go_wp2_with (go_at_call 14;refine (HL.out _).mono ?_;rintro e w1 ⟨rfl,hb1⟩;(have z0:=cell_later hb1 z0);(have z1:=cell_later hb1 z1);(have HB1:=Lib.hid (HBV.out.st hb1));clear hb1);go_ret;exact ⟨by simp [h1,h2,h3]<;>omega,HB1.out⟩)
set_option maxRecDepth 100000 in
set_option maxHeartbeats 4000000 in
theorem alive30_any (w:World):Calls Try.prog 6 #[] w fun e w'=>e=.returned (.bool true)∧Below w.heap.size w w':=by
 have H4:=Lib.hid (fun W h=>all_anyS 2 es30 (some ⟨w.heap.size,0,none⟩) 2 0 1 9 W h (by decide) (by decide))
 obtain ⟨V,hV⟩:∃V,V=w.alloc (Obj.cells #[.int .i64 0,.int .i64 1,.int .u64 2,.int .i64 0,.int .i64 1,.int .u64 1] 45):=⟨_,rfl⟩
 have HBV:=Lib.hid (show Below w.heap.size w V by rw [hV];exact Below.of_al _ _)
 have HC:=Lib.hid (show Cel V (some ⟨w.heap.size,0,none⟩) (flat es30) from by
  intro i u hu
  rw [hV]
  match i with
  |0=>cases hu;exact ⟨_,_,rfl,by go_simp⟩
  |1=>cases hu;exact ⟨_,_,rfl,by go_simp⟩
  |2=>cases hu;exact ⟨_,_,rfl,by go_simp⟩
  |3=>cases hu;exact ⟨_,_,rfl,by go_simp⟩
  |4=>cases hu;exact ⟨_,_,rfl,by go_simp⟩
  |5=>cases hu;exact ⟨_,_,rfl,by go_simp⟩
  |i+6=>simp [flat,es30] at hu)
 have HV:=Lib.hid hV
 clear hV
 go_enter Try.func6,Try.ntmps6
 go_upto_region 2 with (rw [←HV.out];go_at_call 9;refine (H4.out V HC.out).mono ?_;rintro e w4 ⟨ta,tc,ts,is,k,rfl,q1,q2,q3,q4⟩;obtain ⟨x,y,rfl,rfl,rfl,g1,g2⟩:=tells30 q4;(have HB4:=Lib.hid (HBV.out.st q3));obtain ⟨b1,o1,rfl,x0,x1,y0,y1⟩:=two30 q1;rw [g1] at x1;rw [g2] at y1;clear q1 q2 q3 q4)
 go_wp2
 go_ret
 exact ⟨rfl,HB4.out⟩
end Go.Proofs.Yteaaapdjplbljaa.Sm
end
section
namespace Go.Proofs.Yteaaapdjplbljaa.Sm
open Go Go.Proofs Go.RowKit Go.Proofs.Yteaaapdjplbljaa Go.Proofs.Yteaaapdjplbljaa.Ad
theorem simF_walk {es:List EdgeD} {t:Int}:∀(n:Nat) (v:Int) (met r:List Int) (w:Int) (x:RtD),x∈simF es t n v met r w→met.Nodup→met.getLast? =some v→
  ∃k O,x.es=r++k∧walkGo es v met k=some O∧O.Nodup∧O.getLast? =some t∧(∀e∈k,0≤e∧e<(es.length:Int))∧(offF es w k)[k.length]? =some x.w
 |0,_,_,_,_,_,h=>by simp [simF] at h
 |n+1,v,met,r,w,x,h=>by
  intro hm hl
  by_cases e:v=t
  ·subst e
   rw [simF_end] at h
   obtain rfl:=List.mem_singleton.1 h
   exact ⟨[],met,by simp,rfl,hm,hl,fun e he=>(nomatch he),rfl⟩
  ·rw [simF_go e] at h
   obtain ⟨i,hi,h⟩:=List.mem_flatMap.1 h
   unfold outN at hi
   obtain ⟨hi1,hi2⟩:=List.mem_filter.1 hi
   have hi1:=List.mem_range.1 hi1
   have hi2:(eE es i).f=v:=of_decide_eq_true hi2
   unfold stF at h
   split at h
   ·rename_i hn
    obtain ⟨k,O,h1,h2,h3,h4,h5,h6⟩:=simF_walk n _ _ _ _ _ h (List.nodup_append.2 ⟨hm,by simp,fun a ha b hb e=>hn (by rw [List.mem_singleton] at hb;rw [←hb,←e];exact ha)⟩) (by simp)
    refine ⟨(i:Int)::k,O,by rw [h1];simp,?_,h3,h4,?_,?_⟩
    ·unfold walkGo
     rw [if_pos (by exact hi2)]
     exact h2
    ·intro e he
     rcases List.mem_cons.1 he with rfl|he
     ·omega
     ·exact h5 e he
    ·show (w::offF es _ k)[k.length+1]? =_
     rw [List.getElem?_cons_succ]
     rw [←h6]
     rfl
   ·cases h
theorem allS_way {n:Nat} {es:List EdgeD} {s t:Int} (hw:whyS ⟨(n:Int),es⟩ s t=0) {x:RtD} (hx:x∈allS n es s t):
  isB ⟨(n:Int),es⟩ s t x.es=true∧simpleB ⟨(n:Int),es⟩ s x.es=true∧weightG ⟨(n:Int),es⟩ x.es=some x.w:=by
 obtain ⟨hr,hs,ht⟩:=whyS_ok hw
 obtain ⟨k,O,h1,h2,h3,h4,h5,h6⟩:=simF_walk n s [s] [] 0 x hx (by simp) rfl
 rw [List.nil_append] at h1
 subst h1
 have he:edgesB ⟨(n:Int),es⟩ x.es=true:=by
  unfold edgesB
  rw [hr]
  simp only [beq_self_eq_true,Bool.true_and,Bool.not_eq_true',List.any_eq_false]
  intro e he
  have:=h5 e he
  unfold edgeB
  simp;omega
 have hn:nodesG ⟨(n:Int),es⟩ s x.es=some O:=by rw [nodesG_yes he hs];exact h2
 refine ⟨?_,?_,?_⟩
 ·unfold isB
  rw [hn]
  have:O[O.length-1]? =some t:=by rw [←List.getLast?_eq_getElem?];exact h4
  simp [this]
 ·unfold simpleB
  rw [hn]
  simp [h3]
 ·unfold weightG
  rw [offG_yes he]
  simp [h6]
theorem aheadR_at {L:List RtD} (h:L.Pairwise fun a b=>cmpR a.w a.es b.w b.es<0) {i:Nat} (hi:i<L.length):aheadR L L[i]=i:=by
 unfold aheadR
 refine countB _ L i (Nat.le_of_lt hi) (fun t ht h1=>?_) (fun t ht h1=>?_)
 ·exact decide_eq_true (List.pairwise_iff_getElem.1 h t i ht hi h1)
 ·refine decide_eq_false fun h2=>?_
  rcases Nat.lt_or_eq_of_le h1 with h3|h3
  ·have h4:=List.pairwise_iff_getElem.1 h i t hi ht h3
   have h5:=cmpR_neg L[t].w L[t].es L[i].w L[i].es
   omega
  ·subst h3
   rw [cmpR_self] at h2
   omega
structure OnceS (n:Nat) (es:List EdgeD) (s t most:Int) (L:List RtD):Prop where
 len:∀x∈L,x.es.length≤1000000
 is:∀x∈L,isB ⟨(n:Int),es⟩ s t x.es=true∧simpleB ⟨(n:Int),es⟩ s x.es=true∧weightG ⟨(n:Int),es⟩ x.es=some x.w
 rise:∀i (h:i+1<L.length),cmpR L[i].w L[i].es L[i+1].w L[i+1].es<0
 rank:∀i (h:i<L.length),rankS n es s t L[i].es most=((i:Int),0)
theorem once_ok {n:Nat} {es:List EdgeD} {s t most:Int} (hw:whyS ⟨(n:Int),es⟩ s t=0) (hm:((allS n es s t).length:Int)≤max most 0):OnceS n es s t most (sortR (allS n es s t)):=by
 have hp:=sortR_perm (allS n es s t)
 have hrise:(sortR (allS n es s t)).Pairwise fun a b=>cmpR a.w a.es b.w b.es<0:=sortR_rise (simF_apart (es:=es) (t:=t) n s [s] [] 0)
 have hn4:n≤4096:=by
  have:=rightG_bounds (whyS_ok hw).1
  simp only at this
  omega
 refine ⟨fun x hx=>?_,fun x hx=>allS_way hw (hp.mem_iff.1 hx),fun i h=>?_,fun i h=>?_⟩
 ·have:=simF_len _ _ _ _ _ _ (show x∈simF es t n s [s] [] 0 from hp.mem_iff.1 hx)
  simp only [List.length_nil] at this
  omega
 ·exact List.pairwise_iff_getElem.1 hrise i (i+1) (by omega) h (by omega)
 ·obtain ⟨h1,h2,h3⟩:=allS_way hw (hp.mem_iff.1 (List.getElem_mem h))
  unfold rankS
  rw [if_neg (by rw [hw];simp),if_neg (by rw [h1,h2];simp),if_pos hm,h3]
  have:=aheadR_at hrise h
  rw [show (⟨(sortR (allS n es s t))[i].es,(some (sortR (allS n es s t))[i].w).getD 0⟩:RtD)=(sortR (allS n es s t))[i] from rfl]
  show (((aheadR (sortR (allS n es s t)) _:Nat):Int),(0:Int))=_
  unfold allS at this ⊢
  rw [this]
end Go.Proofs.Yteaaapdjplbljaa.Sm
end
