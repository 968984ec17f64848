/- The library's sort at routes. -/
import Derived.Test.YteaaapdjplbljaaProg
import Derived.Test.YteaaapdjplbljaaVa07
import Derived.Test.YteaaapdjplbljaaVa08
import Derived.Test.YteaaapdjplbljaaVa31
import Derived.Shelf.SlSortCmp.WholeK
set_option linter.unusedVariables false
set_option linter.unusedSimpArgs false
set_option linter.unnecessarySimpa false
namespace Go.Proofs.Yteaaapdjplbljaa.Sm
open Go Go.Proofs Go.RowKit Go.Shelf Go.Proofs.Yteaaapdjplbljaa
open Go.Sort (flatK HoldsK get_flatK size_flatK putCells)
theorem grow_of {w w':World} (h:Below w.heap.size w w') (hd:w.drawn≤w'.drawn):∃q os,w'=Sort.grow (w.drewN q) os:=by
 refine ⟨w'.drawn-w.drawn,w'.heap.extract w.heap.size w'.heap.size,?_⟩
 have h1:=h.os
 have h2:=h.tape
 have h3:=h.output
 have h4:=h.size
 have h5:=h.block
 obtain ⟨hp,tp,dr,os,ou⟩:=w
 obtain ⟨hp',tp',dr',os',ou'⟩:=w'
 simp only at h1 h2 h3 h4 h5 hd
 subst h1 h2 h3
 have e:hp'=hp++hp'.extract hp.size hp'.size:=by
  apply Array.ext_getElem?
  intro i
  by_cases hi:i<hp.size
  ·rw [h5 i hi,Array.getElem?_append_left hi]
  ·rw [Array.getElem?_append_right (by omega)]
   by_cases h6:i<hp'.size
   ·rw [Array.getElem?_eq_getElem h6,Array.getElem?_eq_getElem (by simp;omega)]
    simp only [Array.getElem_extract]
    congr 2
    omega
   ·rw [Array.getElem?_eq_none (by omega),Array.getElem?_eq_none (by simp;omega)]
 have e2:dr'=dr+(dr'-dr):=by omega
 show (⟨hp',_,dr',_,_⟩:World)=⟨hp++hp'.extract hp.size hp'.size,_,dr+(dr'-dr),_,_⟩
 rw [←e,←e2]
 rfl
set_option maxHeartbeats 1000000 in
theorem CmpD_any (ao bo:Option Addr) (ca cb:Nat) (la lb:List Int) (wa wb:Int) (w:World) (hla:la.length≤9223372036854775807) (hlb:lb.length≤9223372036854775807)
  (ha:Cel w ao (la.map encI)) (hb:Cel w bo (lb.map encI)):
  Calls Try.prog 20 #[.agg #[.slice ao la.length ca,.int .u64 wa],.agg #[.slice bo lb.length cb,.int .u64 wb]] w fun e w'=>e=.returned (.int .i64 (cmpR wa la wb lb))∧∃q os,w'=Sort.grow (w.drewN q) os:=by
 have HA:=Lib.hid ha
 have HB:=Lib.hid hb
 clear ha hb
 unfold cmpR
 have HC:=Lib.hid (fun W h1 h2=>Less_any ao bo ca cb la lb W hla hlb h1 h2)
 have HD:=Lib.hid (fun W=>cmpU64_any wa wb W)
 generalize lexI la lb=y at*
 generalize cmpI wa wb=x at*
 generalize hr:(if x=0 then y else x)=r
 have HR:=Lib.hid hr
 clear hr
 go_enter Try.func20,Try.ntmps20
 go_wp2
 go_region_held3 (fun w'=>w'.cell? ⟨w.heap.size,0,none⟩=some (.slice ao la.length ca)∧w'.cell? ⟨w.heap.size,1,none⟩=some (.int .u64 wa)∧w'.cell? ⟨w.heap.size+1,0,none⟩=some (.slice bo lb.length cb)∧w'.cell? ⟨w.heap.size+1,1,none⟩=some (.int .u64 wb)) (go_keep) (first
  |(go_at_call 33;refine (HC.out _ (HA.out.go (by repeat (first|exact Below.refl _ _|refine Below.al ?_ _|refine Below.dr ?_ _|refine Below.drew ?_|assumption|(refine Below.st ?_ (by assumption))))) (HB.out.go (by repeat (first|exact Below.refl _ _|refine Below.al ?_ _|refine Below.dr ?_ _|refine Below.drew ?_|assumption|(refine Below.st ?_ (by assumption)))))).mono ?_;rintro e w1 ⟨rfl,rfl⟩)
  |(go_at_call 35;refine (HD.out _).mono ?_;rintro e w1 ⟨rfl,rfl⟩)
  |(go_at_call 34;refine (Or2_any _ _ _ x y r HR _ (by go_simp) (by go_simp)).mono ?_;rintro e w1 ⟨rfl,rfl⟩))
 go_wp2
 go_ret
 exact ⟨rfl,grow_of (by repeat (first|exact Below.refl _ _|refine Below.al ?_ _|refine Below.dr ?_ _|refine Below.drew ?_|assumption|(refine Below.st ?_ (by assumption)))) (by first|exact Nat.le_refl _|exact Nat.le_add_right w.drawn 1|exact Nat.le_add_right w.drawn 2|exact Nat.le_add_right w.drawn 3)⟩
def SoR (W:World) (g:Nat) (t:RtC):Prop:=Cel W t.ao (t.r.es.map encI)∧t.r.es.length≤1000000∧∀a,t.ao=some a→a.block<W.heap.size∧a.block≠g
def encX (W:World) (g:Nat) (x:{t:RtC // SoR W g t}):List Value:=encC x.1
theorem flatK_R (W:World) (g:Nat) (l:List {t:RtC // SoR W g t}) [Inhabited {t:RtC // SoR W g t}]:(flatK (encX W g) 2 l.toArray).toList=flatR (l.map (·.1)):=by
 apply List.ext_getElem?
 intro t
 rcases Nat.lt_or_ge t (l.length*2) with ht|ht
 ·have h1:=get_flatK (encX W g) 2 l.toArray t (by simpa using ht)
  have hk:t / 2<l.length:=by omega
  have hsz:t<(flatK (encX W g) 2 l.toArray).size:=by simpa using ht
  rw [getElem!_pos _ t hsz] at h1
  rw [Array.getElem?_toList,Array.getElem?_eq_getElem hsz,h1]
  have h2:l.toArray[t / 2]! =l[t / 2]:=by rw [getElem!_pos _ (t / 2) (by simpa using hk)];simp
  rw [h2]
  obtain ⟨g0,g1⟩:=flatR_at (l.map (·.1)) (t / 2) (by simpa using hk)
  simp only [List.getElem_map] at g0 g1
  have hm:t % 2=0∨t % 2=1:=by omega
  have hd:t=2*(t / 2)+t % 2:=by omega
  rcases hm with h|h
  ·rw [h] at hd ⊢
   conv=>rhs;rw [hd]
   exact g0.symm
  ·rw [h] at hd ⊢
   conv=>rhs;rw [hd]
   exact g1.symm
 ·rw [List.getElem?_eq_none (by simpa using ht),List.getElem?_eq_none (by rw [flatR_length];simpa using ht)]
def cfR (W:World) (g:Nat) (x y:{t:RtC // SoR W g t}):Int:=cmpR x.1.r.w x.1.r.es y.1.r.w y.1.r.es
theorem ltR_iff {W:World} {g:Nat} (x y:{t:RtC // SoR W g t}):ltOf (cfR W g) x y=decide (¬leR y.1.r x.1.r):=by
 unfold ltOf cfR leR
 have h:=cmpR_neg x.1.r.w x.1.r.es y.1.r.w y.1.r.es
 congr 1
 apply propext
 constructor<;>intro h1<;>omega
theorem swoR (W:World) (g:Nat):Sort.SWO (ltOf (cfR W g)):=by
 refine ⟨fun x=>?_,fun x y z h1 h2=>?_,fun x y z h1 h2=>?_⟩
 ·rw [ltR_iff]
  have:leR x.1.r x.1.r:=by unfold leR;rw [cmpR_self];omega
  simpa using this
 ·rw [ltR_iff] at*
  simp only [decide_eq_true_eq] at*
  exact fun h=>h1 (leR_trans (leR_not h2) h)
 ·rw [ltR_iff] at*
  simp only [decide_eq_false_iff_not,Decidable.not_not] at*
  exact leR_trans h2 h1
set_option maxRecDepth 100000 in
set_option maxHeartbeats 2000000 in
theorem sortR_any (W:World) (base g cap:Nat) (ts:List RtC) (hown:W.ownsRow base 39 2 (.slice (some ⟨g,0,none⟩) ts.length cap) ts.length (flatR ts)) (hlie:∀t∈ts,SoR W g t) (hl:ts.length≤1000000):
  Calls Try.prog 24 #[.slice (some ⟨g,0,none⟩) ts.length cap,.func (.func 20) #[] #[]] W fun e w'=>
   e=.returned (.tuple #[])∧∃ts',ts'.Perm ts∧(ts'.map (·.r)).Pairwise leR∧w'.ownsRow base 39 2 (.slice (some ⟨g,0,none⟩) ts.length cap) ts.length (flatR ts')∧OffX (· =g) W w':=by
 have hown0:=hown
 obtain ⟨hlen,h2⟩:=hown
 rcases h2 with ⟨h,_⟩|⟨g',cap',cur,he,hb,hg,hcap,hml,hsz,htk⟩
 ·cases h
 cases he
 obtain ⟨l,hlm⟩:∃l:List {t:RtC // SoR W g t},l.map (·.1)=ts:=⟨ts.attach.map (fun x=>⟨x.1,hlie x.1 x.2⟩),by rw [List.map_map];exact List.attach_map_subtype_val ts⟩
 haveI hin:Inhabited {t:RtC // SoR W g t}:=⟨⟨⟨none,0,⟨[],0⟩⟩,Cel.nil _ _,by simp,fun a ha=>nomatch ha⟩⟩
 have hll:l.length=ts.length:=by rw [←hlm,List.length_map]
 have hlt:g<W.heap.size:=(Array.getElem?_eq_some_iff.1 hg).1
 have hH:HoldsK (encX W g) 2 W g 0 l.toArray:=by
  intro j hj
  rw [size_flatK] at hj
  have hj2:j<ts.length*2:=by simpa [hll] using hj
  refine ⟨?_,by rw [Nat.zero_add];exact hown0.frozenAt j⟩
  rw [Nat.zero_add]
  refine (hown0.cellAt j hj2).trans ?_
  have h9:=flatK_R W g l
  rw [hlm] at h9
  rw [←h9,Array.getElem?_toList,getElem!_pos _ j (by rw [size_flatK];exact hj),Array.getElem?_eq_getElem (by rw [size_flatK];exact hj)]
  rfl
 have hcmp:∀(m:Nat) (os:Array Obj) (dk:Array {t:RtC // SoR W g t}),dk.size=l.toArray.size→∀x y:{t:RtC // SoR W g t},
   Calls Try.prog 20 (#[.agg (encX W g x).toArray,.agg (encX W g y).toArray]++#[]) (sortWorldK (encX W g) 2 W g 0 m dk os) fun e w'=>e=.returned (.int .i64 (cfR W g x y))∧∃q os',w'=Sort.grow ((sortWorldK (encX W g) 2 W g 0 m dk os).drewN q) os':=by
  intro m os dk _ x y
  have hk:∀{t:RtC},SoR W g t→Cel (sortWorldK (encX W g) 2 W g 0 m dk os) t.ao (t.r.es.map encI):=fun {t} ht i u hu=>by
   obtain ⟨b,o,e,h1⟩:=ht.1 i u hu
   obtain ⟨h3,h4⟩:=ht.2.2 _ e
   refine ⟨b,o,e,?_⟩
   rw [World.cell?_of_block (w:=W) (a:=⟨b,o+i,none⟩)]
   ·exact h1
   ·show ((W.heap.modify g _)++os)[b]? =_
    rw [Array.getElem?_append_left (by simpa using h3),Array.getElem?_modify,if_neg (fun e=>h4 e.symm)]
  exact CmpD_any x.1.ao y.1.ao x.1.cap y.1.cap x.1.r.es y.1.r.es x.1.r.w y.1.r.w _ (by have:=x.2.2.1;omega) (by have:=y.2.2.1;omega) (hk x.2) (hk y.2)
 have hc:=AnyQ.slices_SortFunc Try.laysSort 2 (fun _=>by kernel_rfl) (fun _=>by kernel_rfl) (encX W g) (fun _=>rfl) (fun x v hv=>by
  unfold encX encC at hv
  simp only [List.mem_cons,List.not_mem_nil,or_false] at hv
  rcases hv with rfl|rfl<;>rfl) (cfR W g) (swoR W g) 20 #[] g 0 cap l.toArray W (enters_of Try.func20 (by kernel_rfl) rfl) hcmp hH hlt (by simp;omega)
 have hsl:l.toArray.size=ts.length:=by simpa using hll
 rw [hsl] at hc
 refine hc.mono ?_
 rintro e w' ⟨rfl,d',n,os,⟨hs,-,hp⟩,hso,rfl⟩
 have hs2:d'.size=l.length:=by simpa using hs
 have hpl:d'.toList.Perm l:=by
  have e1:d'.extract 0 ts.length=d':=by rw [←hsl,←hs];simp
  have e2:l.toArray.extract 0 ts.length=l.toArray:=by rw [←hsl];simp
  rw [e1,e2] at hp
  simpa using hp
 have hdl:d'=d'.toList.toArray:=by simp
 have hsz9:W.heap.size≤(sortWorldK (encX W g) 2 W g 0 n d' os).heap.size:=size_sortWorldK_c (encX W g) 2 W g 0 n d' os
 have hoth:∀k,k<W.heap.size→k≠g→(sortWorldK (encX W g) 2 W g 0 n d' os).heap[k]? =W.heap[k]?:=by
  intro k hk hne2
  show ((W.heap.modify g _)++os)[k]? =_
  rw [Array.getElem?_append_left (by simpa using hk),Array.getElem?_modify,if_neg (fun e=>hne2 e.symm)]
 have hgg:(sortWorldK (encX W g) 2 W g 0 n d' os).heap[g]? =some (.cells (putCells id 0 (flatK (encX W g) 2 d') cur) 39 (0,0)):=by
  show ((W.heap.modify g _)++os)[g]? =_
  rw [Array.getElem?_append_left (by simpa using hlt),Array.getElem?_modify,if_pos rfl,hg]
  rfl
 refine ⟨rfl,d'.toList.map (·.1),by rw [←hlm];exact hpl.map _,?_,⟨by rw [flatR_length,List.length_map,Array.length_toList,hs2,hll],.inr ⟨g,cap,_,rfl,hb,hgg,hcap,hml,by unfold putCells;rw [Array.size_mapIdx];exact hsz,?_⟩⟩,⟨rfl,rfl,rfl,hsz9,fun k hk hn=>hoth k hk (fun e=>hn (by rw [e]))⟩⟩
 ·rw [List.pairwise_iff_getElem]
  intro i j hi hj hij
  rw [List.length_map,List.length_map,Array.length_toList] at hi hj
  have h9:=hso i j (Nat.zero_le _) hij (by rw [hs2,hll] at hj;exact hj)
  rw [ltR_iff,getElem!_pos _ j hj,getElem!_pos _ i hi] at h9
  simp only [decide_eq_false_iff_not,Decidable.not_not] at h9
  simpa using h9
 ·have hF:(flatK (encX W g) 2 d').toList=flatR (d'.toList.map (·.1)):=by have h9:=flatK_R W g d'.toList;simpa using h9
  have hFs:(flatK (encX W g) 2 d').size=ts.length*2:=by rw [size_flatK,hs2,hll]
  rw [←hF]
  apply List.ext_getElem?
  intro t
  rw [List.getElem?_take]
  by_cases ht:t<ts.length*2
  ·have h1:t<cur.size:=by rw [hsz];omega
   have h2:t<(flatK (encX W g) 2 d').size:=by rw [hFs];exact ht
   rw [if_pos ht,Array.getElem?_toList,Array.getElem?_toList,Array.getElem?_eq_getElem h2]
   unfold putCells
   rw [Array.getElem?_mapIdx,Array.getElem?_eq_getElem h1]
   simp only [Option.map_some]
   rw [if_pos ⟨Nat.zero_le _,by omega⟩,Nat.sub_zero,getElem!_pos _ t h2]
   rfl
  ·rw [if_neg ht,Array.getElem?_toList,Array.getElem?_eq_none (by rw [hFs];omega)]
end Go.Proofs.Yteaaapdjplbljaa.Sm
