/- Parts; no condition. -/
import Derived.Shelf.Small.Bits
import Derived.Shelf.Small.Wraps
import Derived.Shelf.Strconv.Itoa0
import Derived.Shelf.Bits.Mul64
import Derived.Ground.Names2Prog
import Derived.Shelf.Slices.Clone
import Derived.Shelf.Slices.SearchI
import Derived.Ground.SlgnProg
import Derived.Shelf.SlicesE.Clone
import Derived.Ground.SlsfProg
import Derived.Shelf.SlSortCmp.Insertion
import Derived.Shelf.SlSortCmp.SmallK
import Derived.Test.YteaaapdjplbljaaGreatVc22
set_option linter.unusedVariables false
set_option linter.unusedSimpArgs false
set_option linter.unnecessarySimpa false
set_option maxRecDepth 100000
set_option maxHeartbeats 8000000
section
namespace Go.Proofs
open Go.Shelf
def Tryz.lays125_ren:Go.Shelf.Ren:=⟨fun|125=>269|128=>286|129=>287|n=>n,fun|46=>237|3=>3|51=>329|53=>37|4=>4|5=>5|9=>9|n=>n,fun|n=>n⟩
theorem Tryz.lays125:Go.Proofs.Lays.n125 Tryz.prog Tryz.lays125_ren:={
 mixed:=by kernel_rfl
 f125:=Tryz.func269.trans (congrArg some (by kernel_rfl))
 f128:=Tryz.func286.trans (congrArg some (by kernel_rfl))
 f129:=Tryz.func287.trans (congrArg some (by kernel_rfl))
 t3:=Tryz.underlying3
 a3:=Tryz.isAgg3
 z3:=Tryz.sizeOf3
 v3:=Tryz.zeroValue3
 t4:=Tryz.underlying4
 a4:=Tryz.isAgg4
 z4:=Tryz.sizeOf4
 v4:=Tryz.zeroValue4
 t5:=Tryz.underlying5
 a5:=Tryz.isAgg5
 z5:=Tryz.sizeOf5
 v5:=Tryz.zeroValue5
 t9:=Tryz.underlying9
 a9:=Tryz.isAgg9
 z9:=Tryz.sizeOf9
 v9:=Tryz.zeroValue9
 t46:=Tryz.underlying237
 a46:=Tryz.isAgg237
 z46:=Tryz.sizeOf237
 v46:=Tryz.zeroValue237
 t51:=Tryz.underlying329
 a51:=Tryz.isAgg329
 z51:=Tryz.sizeOf329
 v51:=Tryz.zeroValue329
 t53:=Tryz.underlying37
 a53:=Tryz.isAgg37
 z53:=Tryz.sizeOf37
 v53:=Tryz.zeroValue37 }
theorem Tryz.bits_Len (x:Int) (w:World) (h0:0<=x) (h1:x<=18446744073709551615):
  Calls Tryz.prog 269 #[.int .u64 x] w fun e w'=>e=.returned (.int .i64 (Lib.bitLen x.toNat))/\w'=w:=Any.bits_Len Tryz.lays125 x w h0 h1
def Tryz.lays122_ren:Go.Shelf.Ren:=⟨fun|122=>239|215=>270|n=>n,fun|3=>3|4=>4|n=>n,fun|n=>n⟩
theorem Tryz.lays122:Go.Proofs.Lays.n122 Tryz.prog Tryz.lays122_ren:={
 mixed:=by kernel_rfl
 f122:=Tryz.func239.trans (congrArg some (by kernel_rfl))
 f215:=Tryz.func270.trans (congrArg some (by kernel_rfl))
 t3:=Tryz.underlying3
 a3:=Tryz.isAgg3
 z3:=Tryz.sizeOf3
 v3:=Tryz.zeroValue3
 t4:=Tryz.underlying4
 a4:=Tryz.isAgg4
 z4:=Tryz.sizeOf4
 v4:=Tryz.zeroValue4 }
open Go.RowKit in
theorem Tryz.cmp_Compare_int (x y:Int) (w:World):
  Calls Tryz.prog 239 #[.int .i64 x,.int .i64 y] w fun e w'=>e=.returned (.int .i64 (Lib.compareInt x y))/\w'=w:=Any.cmp_Compare_int Tryz.lays122 x y w
end Go.Proofs
end
section
namespace Go.Proofs
open Go.Shelf
def Tryz.laysSort_ren:Go.Shelf.Ren:=⟨fun|6=>237|15=>269|14=>268|28=>286|29=>287|20=>278|21=>279|22=>280|23=>281|24=>282|25=>283|26=>284|27=>285|46=>290|47=>291|48=>292|49=>293|50=>294|57=>295|n=>n,fun|22=>145|24=>150|25=>328|3=>3|39=>237|0=>0|53=>329|55=>37|4=>4|46=>358|45=>357|50=>183|5=>5|9=>9|66=>365|70=>369|76=>371|77=>70|n=>n,fun|n=>n⟩
theorem Tryz.laysSort:Go.Proofs.SlLaysF0.n6 Tryz.prog Tryz.laysSort_ren:={
 mixed:=by kernel_rfl
 f6:=⟨Tryz.f237.name,by decide,Tryz.func237.trans (congrArg some (by kernel_rfl))⟩
 f14:=⟨Tryz.f268.name,by decide,Tryz.func268.trans (congrArg some (by kernel_rfl))⟩
 f15:=Tryz.func269.trans (congrArg some (by kernel_rfl))
 f20:=⟨Tryz.f278.name,by decide,Tryz.func278.trans (congrArg some (by kernel_rfl))⟩
 f21:=⟨Tryz.f279.name,by decide,Tryz.func279.trans (congrArg some (by kernel_rfl))⟩
 f22:=⟨Tryz.f280.name,by decide,Tryz.func280.trans (congrArg some (by kernel_rfl))⟩
 f23:=⟨Tryz.f281.name,by decide,Tryz.func281.trans (congrArg some (by kernel_rfl))⟩
 f24:=⟨Tryz.f282.name,by decide,Tryz.func282.trans (congrArg some (by kernel_rfl))⟩
 f25:=⟨Tryz.f283.name,by decide,Tryz.func283.trans (congrArg some (by kernel_rfl))⟩
 f26:=⟨Tryz.f284.name,by decide,Tryz.func284.trans (congrArg some (by kernel_rfl))⟩
 f27:=⟨Tryz.f285.name,by decide,Tryz.func285.trans (congrArg some (by kernel_rfl))⟩
 f28:=Tryz.func286.trans (congrArg some (by kernel_rfl))
 f29:=Tryz.func287.trans (congrArg some (by kernel_rfl))
 f46:=⟨Tryz.f290.name,by decide,Tryz.func290.trans (congrArg some (by kernel_rfl))⟩
 f47:=Tryz.func291.trans (congrArg some (by kernel_rfl))
 f48:=Tryz.func292.trans (congrArg some (by kernel_rfl))
 f49:=⟨Tryz.f293.name,by decide,Tryz.func293.trans (congrArg some (by kernel_rfl))⟩
 f50:=⟨Tryz.f294.name,by decide,Tryz.func294.trans (congrArg some (by kernel_rfl))⟩
 f57:=⟨Tryz.f295.name,by decide,Tryz.func295.trans (congrArg some (by kernel_rfl))⟩
 t0:=Tryz.underlying0
 a0:=Tryz.isAgg0
 z0:=Tryz.sizeOf0
 v0:=Tryz.zeroValue0
 t3:=Tryz.underlying3
 a3:=Tryz.isAgg3
 z3:=Tryz.sizeOf3
 v3:=Tryz.zeroValue3
 t4:=Tryz.underlying4
 a4:=Tryz.isAgg4
 z4:=Tryz.sizeOf4
 v4:=Tryz.zeroValue4
 t5:=Tryz.underlying5
 a5:=Tryz.isAgg5
 z5:=Tryz.sizeOf5
 v5:=Tryz.zeroValue5
 t9:=Tryz.underlying9
 a9:=Tryz.isAgg9
 z9:=Tryz.sizeOf9
 v9:=Tryz.zeroValue9
 t22:=Tryz.underlying145
 a22:=Tryz.isAgg145
 z22:=Tryz.sizeOf145
 v22:=Tryz.zeroValue145
 t25:=Tryz.underlying328
 a25:=Tryz.isAgg328
 z25:=Tryz.sizeOf328
 v25:=Tryz.zeroValue328
 t39:=Tryz.underlying237
 a39:=Tryz.isAgg237
 z39:=Tryz.sizeOf237
 v39:=Tryz.zeroValue237
 t45:=Tryz.underlying357
 a45:=Tryz.isAgg357
 z45:=Tryz.sizeOf357
 v45:=Tryz.zeroValue357
 t46:=Tryz.underlying358
 a46:=Tryz.isAgg358
 z46:=Tryz.sizeOf358
 v46:=Tryz.zeroValue358
 t50:=Tryz.underlying183
 a50:=Tryz.isAgg183
 z50:=Tryz.sizeOf183
 v50:=Tryz.zeroValue183
 t53:=Tryz.underlying329
 a53:=Tryz.isAgg329
 z53:=Tryz.sizeOf329
 v53:=Tryz.zeroValue329
 t55:=Tryz.underlying37
 a55:=Tryz.isAgg37
 z55:=Tryz.sizeOf37
 v55:=Tryz.zeroValue37
 t66:=Tryz.underlying365
 a66:=Tryz.isAgg365
 z66:=Tryz.sizeOf365
 v66:=Tryz.zeroValue365
 t70:=Tryz.underlying369
 a70:=Tryz.isAgg369
 z70:=Tryz.sizeOf369
 v70:=Tryz.zeroValue369
 t76:=Tryz.underlying371
 a76:=Tryz.isAgg371
 z76:=Tryz.sizeOf371
 v76:=Tryz.zeroValue371
 t77:=Tryz.underlying70
 a77:=Tryz.isAgg70
 z77:=Tryz.sizeOf70
 v77:=Tryz.zeroValue70 }
end Go.Proofs
end
section
namespace Go.Proofs.YteaaapdjplbljaaGreat
open Go Go.Proofs Go.RowKit Go.Shelf Go.Lib Go.Sort Go.Proofs.YteaaapdjplbljaaGreat.Hp Go.Proofs.YteaaapdjplbljaaGreat.Ch
instance:Inhabited LB:=⟨⟨0,0,0⟩⟩
def Km (x:LB):List Value:=[.int .i64 x.v,.int .u64 x.d,.int .i64 x.b]
theorem Hd:∀l:List LB,(Ao l).length=l.length*3
 |[]=>rfl
 |x::l=>by rw [Ao];simp [Hd l];omega
theorem Ri (l:List LB):(flatK Km 3 l.toArray).toList=Ao l:=by
 apply List.ext_getElem?
 intro t
 rcases Nat.lt_or_ge t (l.length*3) with ht|ht
 ·have h1:=get_flatK Km 3 l.toArray t (by simpa using ht)
  have hk:t / 3<l.length:=by omega
  have hsz:t<(flatK Km 3 l.toArray).size:=by simpa using ht
  rw [getElem!_pos _ t hsz] at h1;rw [Array.getElem?_toList,Array.getElem?_eq_getElem hsz,h1];have h2:l.toArray[t / 3]! =l[t / 3]:=by rw [getElem!_pos _ (t / 3) (by simpa using hk)];simp
  rw [h2];obtain ⟨g0,g1,g2⟩:=Fs l (t / 3) hk;have hm:t % 3=0\/t % 3=1\/t % 3=2:=by omega
  have hd:t=t / 3*3+t % 3:=by omega
  rcases hm with h|h|h
  ·rw [h] at hd ⊢
   conv=>rhs;rw [hd]
   exact g0.symm
  ·rw [h] at hd ⊢
   conv=>rhs;rw [hd]
   exact g1.symm
  ·rw [h] at hd ⊢
   conv=>rhs;rw [hd]
   exact g2.symm
 ·rw [Bm2 (by simpa using ht),Bm2 (by rw [Hd];exact ht)]
def cfL (a b:LB):Int:=Lib.compareInt a.v b.v
theorem Ar2 (x y:LB) (W:World):Calls Tryz.prog 238 (#[.agg (Km x).toArray,.agg (Km y).toArray]++#[]) W fun e w'=>e=.returned (.int .i64 (cfL x y))/\∃q os,w'=grow (W.drewN q) os:=by
 have HC:=Bi5 (Tryz.cmp_Compare_int x.v y.v);unfold cfL;generalize Lib.compareInt x.v y.v=r at*
 show Calls Tryz.prog _ (#[.agg #[.int .i64 x.v,.int .u64 x.d,.int .i64 x.b],.agg #[.int .i64 y.v,.int .u64 y.d,.int .i64 y.b]]++#[]) W _
 go_enter Tryz.func238,Tryz.ntmps238
 go_wp2_with (go_at_call 239;refine (HC.out _).mono ?_;rintro e w1 ⟨rfl,rfl⟩)
 go_ret
 refine ⟨rfl,0,#[.cells #[.int .i64 x.v,.int .u64 x.d,.int .i64 x.b] 150,.cells #[.int .i64 y.v,.int .u64 y.d,.int .i64 y.b] 150],?_⟩;rw [alloc_eq_grow,alloc_eq_grow,grow_grow];rfl
theorem ltL (a b:LB):ltOf cfL a b=decide (a.v<b.v):=by
 unfold ltOf cfL Lib.compareInt
 by_cases h1:a.v<b.v
 ·simp [h1]
 ·by_cases h2:b.v<a.v
  ·simp [h1,h2]
  ·simp [h1,h2]
theorem swoL:SWO (ltOf cfL):=by
 refine ⟨fun x=>?_,fun x y z h1 h2=>?_,fun x y z h1 h2=>?_⟩
 ·rw [ltL];simp
 ·rw [ltL] at*;simp at*;omega
 ·rw [ltL] at*;simp at*;omega
theorem Be2:Ay2:=by
 intro W base v4 l hne h12 hown;have hown0:=hown;obtain ⟨hlen,h2⟩:=hown
 rcases h2 with ⟨_,h0⟩|⟨g,cap,cur,rfl,hb,hg,hcap,hml,hsz,htk⟩
 ·exact absurd (List.eq_nil_of_length_eq_zero h0) hne
 ·have hcell:=fun j (hj:j<l.length*3)=>hown0.cellAt j hj
  have hfroz:=hown0.frozenAt;have hlt:g<W.heap.size:=(Bj2.1 hg).1;have hH:HoldsK Km 3 W g 0 l.toArray:=by
   intro j hj;rw [size_flatK] at hj;have hj2:j<l.length*3:=by simpa using hj
   refine ⟨?_,by rw [Nat.zero_add];exact hfroz j⟩;rw [Nat.zero_add];refine (hcell j hj2).trans ?_;rw [<-Ri,Array.getElem?_toList,getElem!_pos _ j (by rw [size_flatK];exact hj),Array.getElem?_eq_getElem (by rw [size_flatK];exact hj)];rfl
  refine (AnyQ.slices_SortFunc_small_sorted Tryz.laysSort 3 (fun _=>by kernel_rfl) (fun _=>by kernel_rfl) Km (fun _=>rfl) ?_ cfL 238 #[] swoL g 0 cap l.toArray W (enters_of Tryz.func238 (by kernel_rfl) rfl) (fun m os dk _ x y=>Ar2 x y _) hH hlt (by simpa using h12) ?_).mono ?_
  ·intro x v hv
   unfold Km at hv;simp only [Bl7,List.not_mem_nil,or_false] at hv
   rcases hv with rfl|rfl|rfl<;>rfl
  ·intro n W hn
   exact (Tryz.bits_Len (n:Int) W (by omega) (by omega)).mono (fun e w' h=>⟨⟨_,h.1⟩,h.2⟩)
  ·rintro e w' ⟨rfl,d',n,os,⟨hs,-,hp⟩,hso,rfl⟩
   have hs2:d'.size=l.length:=by simpa using hs
   have hpl:d'.toList.Perm l:=by
    have e1:d'.extract 0 l.toArray.size=d':=by rw [<-hs];simp
    have e2:l.toArray.extract 0 l.toArray.size=l.toArray:=by simp
    rw [e1,e2] at hp
    simpa using hp
   have hdl:d'=d'.toList.toArray:=by simp
   have hsz9:W.heap.size<=(sortWorldK Km 3 W g 0 n d' os).heap.size:=size_sortWorldK_c Km 3 W g 0 n d' os;have hoth:∀k,k<W.heap.size->k≠g->(sortWorldK Km 3 W g 0 n d' os).heap[k]? =W.heap[k]?:=by
    intro k hk hne2
    show ((W.heap.modify g _)++os)[k]? =_
    rw [Array.getElem?_append_left (by simpa using hk),Array.getElem?_modify,if_neg (fun e=>hne2 e.symm)]
   have hgg:(sortWorldK Km 3 W g 0 n d' os).heap[g]? =some (.cells (putCells id 0 (flatK Km 3 d') cur) 150 (0,0)):=by
    show ((W.heap.modify g _)++os)[g]? =_
    rw [Array.getElem?_append_left (by simpa using hlt),Array.getElem?_modify,if_pos rfl,hg];rfl
   refine ⟨rfl,d'.toList,hpl,?_,⟨by rw [Hd,Array.length_toList,hs2],.inr ⟨g,cap,_,rfl,hb,hgg,hcap,hml,by unfold putCells;rw [Array.size_mapIdx];exact hsz,?_⟩⟩,⟨rfl,rfl,rfl,hsz9,fun k hk hn=>hoth k hk (fun e=>hn (by rw [e];rfl))⟩⟩
   ·rw [List.pairwise_iff_getElem]
    intro i j hi hj hij;rw [Array.length_toList] at hi hj;have h9:=hso i j (Bi8 _) hij (by simpa [hs2] using hj);rw [ltL,getElem!_pos _ j hj,getElem!_pos _ i hi] at h9;have h8:=of_decide_eq_false h9;rw [Array.getElem_toList,Array.getElem_toList];omega
   ·have hF:(flatK Km 3 d').toList=Ao d'.toList:=by have h9:=Ri d'.toList;simpa using h9
    have hFs:(flatK Km 3 d').size=l.length*3:=by rw [size_flatK,hs2]
    rw [<-hF]
    apply List.ext_getElem?
    intro t;rw [List.getElem?_take]
    by_cases ht:t<l.length*3
    ·have h1:t<cur.size:=by rw [hsz];omega
     have h2:t<(flatK Km 3 d').size:=by rw [hFs];exact ht
     rw [if_pos ht,Array.getElem?_toList,Array.getElem?_toList,Array.getElem?_eq_getElem h2];unfold putCells;rw [Array.getElem?_mapIdx,Array.getElem?_eq_getElem h1];simp only [Option.map_some];rw [if_pos ⟨Bi8 _,by omega⟩,Nat.sub_zero,getElem!_pos _ t h2];rfl
    ·rw [if_neg ht,Array.getElem?_toList,Array.getElem?_eq_none (by rw [hFs];omega)]
end Go.Proofs.YteaaapdjplbljaaGreat
end
section
namespace Go.Proofs.YteaaapdjplbljaaGreat
open Go Go.Proofs Go.RowKit Go.Shelf Go.Proofs.YteaaapdjplbljaaGreat.Hp Go.Proofs.YteaaapdjplbljaaGreat.Ch
def spR (n hb:Nat) (back:Bool):Nat->Value->List Nat->(Nat->Value)->World->Prop
 |0,v,_,_,_=>v=.pointer (some ⟨hb,0,none⟩)
 |1,v,_,_,_=>v=.bool back
 |2,v,_,_,_=>v=.agg #[.pointer (some ⟨hb,0,none⟩),.bool back]
 |3,v,_,_,_=>v=.int .i64 (n:Int)
 |4,v,g,_,W=>∃b rb,v=.pointer (some ⟨b,0,none⟩)/\g=[b,rb]/\StW W b rb (List.replicate n none)
 |5,v,_,_,_=>v=.int .i64 (n:Int)
 |6,v,g,_,W=>∃fb,v=.slice (some ⟨fb,0,none⟩) n n/\g=[fb]/\W.ownsRow 0 3 1 (.slice (some ⟨fb,0,none⟩) n n) n (List.replicate n (.int .i64 0))
 |7,v,_,_,_=>v=.int .i64 (n:Int)
 |8,v,g,_,W=>∃b a,v=.pointer (some ⟨b,0,none⟩)/\g=[b,a]/\HeapW W b (.slice none 0 0) (.slice (some ⟨a,0,none⟩) n n) [] (List.replicate n (-1))
 |9,v,_,vs,_=>v=.agg #[.pointer (some ⟨hb,0,none⟩),.bool back,vs 4,vs 6,vs 8]
 |10,v,g,vs,W=>∃xb x3 x4 x5,v=.pointer (some ⟨xb,0,none⟩)/\g=[xb]/\vs 9=.agg #[.pointer (some ⟨hb,0,none⟩),.bool back,x3,x4,x5]/\PB W xb [.pointer (some ⟨hb,0,none⟩),.bool back,x3,x4,x5]
 |11,v,_,vs,_=>v=vs 10
 |_,_,_,_,_=>True
theorem in2 {k a b:Nat} {p:Nat->Prop} (h:k∈[a,b]) (h1:p a) (h2:p b):p k:=by
 simp only [Bl7,List.not_mem_nil,or_false] at h
 rcases h with rfl|rfl
 ·exact h1
 ·exact h2
theorem PB.new5 (w:World) (T:TypeId) (x0 x1 x2 x3 x4:Value):PB (w.alloc (.cells #[x0,x1,x2,x3,x4] T)) w.heap.size [x0,x1,x2,x3,x4]:=by
 intro i x hx
 match i with
 |0=>cases hx;exact ⟨by go_simp,by go_simp⟩
 |1=>cases hx;exact ⟨by go_simp,by go_simp⟩
 |2=>cases hx;exact ⟨by go_simp,by go_simp⟩
 |3=>cases hx;exact ⟨by go_simp,by go_simp⟩
 |4=>cases hx;exact ⟨by go_simp,by go_simp⟩
 |i+5=>simp at hx
theorem Be0 {n hb:Nat} {back:Bool}:∀(i:Nat) (v:Value) (g:List Nat) (vs:Nat->Value) (w w':World),Below w.heap.size w w'->spR n hb back i v g vs w->spR n hb back i v g vs w'
 |0,_,_,_,_,_,_,h|1,_,_,_,_,_,_,h|2,_,_,_,_,_,_,h|3,_,_,_,_,_,_,h|5,_,_,_,_,_,_,h|7,_,_,_,_,_,_,h|9,_,_,_,_,_,_,h|11,_,_,_,_,_,_,h=>h
 |4,_,_,_,_,_,hb,h=>let ⟨b,rb,h1,h2,h3⟩:=h;⟨b,rb,h1,h2,h3.go hb⟩
 |6,_,_,_,_,_,hb,h=>let ⟨b,h1,h2,h3⟩:=h;⟨b,h1,h2,Af h3 hb⟩
 |8,_,_,_,_,_,hb,h=>let ⟨b,rb,h1,h2,h3⟩:=h;⟨b,rb,h1,h2,h3.go hb⟩
 |10,_,_,_,_,_,hb,h=>let ⟨b,x3,x4,x5,h1,h2,h3,h4⟩:=h;⟨b,x3,x4,x5,h1,h2,h3,h4.go hb⟩
 |_+12,_,_,_,_,_,_,_=>trivial
theorem Bg7 (n:Nat) (hn:n<=60000) (W:World):(W.alloc (.cells (madeCells #[.int .i64 0] n) 3)).ownsRow 0 3 1 (.slice (some ⟨W.heap.size,0,none⟩) n n) n (List.replicate n (.int .i64 0)):=Lf _ _ n hn W
def SpP (w:World) (hb n:Nat) (back:Bool) (v:Value) (W:World):Prop:=∃xb sb rb fb hp a,v=.pointer (some ⟨xb,0,none⟩)/\UpW w W xb hb back sb rb fb hp n (.slice (some ⟨a,0,none⟩) n n) (.slice none 0 0) ⟨List.replicate n none,List.replicate n 0,[],List.replicate n (-1)⟩
theorem Be1 {n hb:Nat} {back:Bool} {vs:Nat->Value} {gs:Nat->List Nat} {w W:World} (hb':Below w.heap.size w W)
  (h:∀i,i<12->spR n hb back i (vs i) (gs i) vs W) (hg:∀i k,i<12->k∈gs i->w.heap.size<=k/\k<W.heap.size) (hd:∀i j k,i<12->j<12->i≠j->k∈gs i->k∉gs j):SpP w hb n back (vs 11) W:=by
 obtain ⟨sb,rb,e4,g4,f4⟩:=h 4 (by decide);obtain ⟨fb,e6,g6,f6⟩:=h 6 (by decide);obtain ⟨hp,a,e8,g8,f8⟩:=h 8 (by decide);have e9:vs 9=_:=h 9 (by decide);obtain ⟨xb,x3,x4,x5,e10,g10,q10,f10⟩:=h 10 (by decide);have e11:vs 11=vs 10:=h 11 (by decide);rw [q10,e4,e6,e8] at e9
 cases e9
 have m4:sb∈gs 4:=by rw [g4];simp
 have m4':rb∈gs 4:=by rw [g4];simp
 have m6:fb∈gs 6:=by rw [g6];simp
 have m8:hp∈gs 8:=by rw [g8];simp
 have m8':a∈gs 8:=by rw [g8];simp
 have m10:xb∈gs 10:=by rw [g10];simp
 have hh:∀k,HX hp (.slice none 0 0) (.slice (some ⟨a,0,none⟩) n n) k->k∈gs 8:=by
  rintro k (e|e|e)
  ·rw [e];exact m8
  ·cases e
  ·cases e;exact m8'
 have hne:∀{i j x y},i<12->j<12->i≠j->x∈gs i->y∈gs j->x≠y:=fun hi hj hij hx hy e=>hd _ _ _ hi hj hij hx (by rw [e];exact hy);refine ⟨xb,sb,rb,fb,hp,a,by rw [e11,e10],f10,⟨f4,f8,?_,hb',⟨(hg 4 _ (by decide) m4).1,(hg 4 _ (by decide) m4').1,(hg 6 _ (by decide) m6).1,fun k hk=>(hg 8 _ (by decide) (hh k hk)).1⟩,fun k hk=>⟨hne (by decide) (by decide) (by decide) (hh k hk) m4,hne (by decide) (by decide) (by decide) (hh k hk) m4',hne (by decide) (by decide) (by decide) (hh k hk) m6⟩,⟨hne (by decide) (by decide) (by decide) m6 m4,hne (by decide) (by decide) (by decide) m6 m4'⟩⟩,Gb n,
  ⟨by simp,by simp,by simp⟩,(hg 10 _ (by decide) m10).1,hne (by decide) (by decide) (by decide) m10 m4,hne (by decide) (by decide) (by decide) m10 m4',hne (by decide) (by decide) (by decide) m10 m6,fun hk=>hd 10 8 xb (by decide) (by decide) (by decide) m10 (hh xb hk)⟩
 rw [List.map_replicate,Bl6];exact f6
def Hj (es:List EdgeD) (S:List SC) (back:Bool) (ro:List Int) (s n:Nat) (w:World) (e:Ending) (w':World):Prop:=
 ∃(ao:Option Addr) (cap:Nat) (l:List LB),e=.returned (.tuple #[.slice ao l.length cap,.int .i64 0])/\Cel w' ao (Ao l)/\Below w.heap.size w w'/\Space (Bw back (Am es)) (XN S back) (rk ro) (s:Int) (l.map Cn)/\l.length<=n/\l.Pairwise (fun a b=>a.v<=b.v)/\w'.ownsRow w.heap.size 150 3 (.slice ao l.length cap) l.length (Ao l)
theorem Jo (hb n:Nat) (es:List EdgeD) (R:List Int) (S:List SC) (ro:List Int) (s:Nat) (back:Bool) (w:World) (hh:HierM w hb n es R S (An R S n S.length).1 (An R S n S.length).2) (hok:HierOK es n R S ro) (hn:n<=12) (hsn:s<n):
  Calls Tryz.prog 123 #[.pointer (some ⟨hb,0,none⟩),.int .i64 (s:Int),.bool back] w (Hj es S back ro s n w):=by
 have hn0:0<n:=by omega
 have hs0:(0:Int)<=(s:Int):=by omega
 have hs1:(s:Int)<(n:Int):=by omega
 have HHN:=fun W=>Mj n (by omega) W;have HSN:=fun W=>Pz n (by omega) W;have HN:=Bi5 (Fr hb n es R S _ _ w hh);have HH:=Bi5 hh;have HOK:=Bi5 hok;have hn6:n<=60000:=by omega
 unfold Hj;clear hh hok
 go_enter Tryz.func123,Tryz.ntmps123
 go_upto_region 6 with (go_at_call 175;refine HN.out.mono ?_;rintro e w1 ⟨rfl,rfl⟩)
 go_cut [9] from 10 (fun v wc=>SpP w hb n back v wc)
 case first=>
  rename_i J K2 hJ hK2
  refine Ez (spR n hb back) (by kernel_rfl) (by kernel_rfl) ?_ ?_ ?_ ?_
  case refine_3=>
   refine ⟨?_,?_,?_,?_,?_,?_,?_,?_,?_,?_,?_,?_,trivial⟩
   ·intro vs w' hbe hd K hK
    have hm0:True:=trivial;simp only [Al,Ae,Bk7,Bk6,Bl1,Bl0,Act.put,Bk0,Bk1,Nat.reduceAdd,Bk5,Bk8,Bk9,true_and] at hK ⊢;simp [Oper.wp,execOp,Oper.upon,go_sem,Act.eval,Act.put,true_and];exact hK _ [] w' (Below.refl _ _) rfl (fun _ h=>nomatch h)
   ·intro vs w' hbe hd K hK
    have hm0:True:=trivial;simp only [Al,Ae,Bk7,Bk6,Bl1,Bl0,Act.put,Bk0,Bk1,Nat.reduceAdd,Bk5,Bk8,Bk9,true_and] at hK ⊢;simp [Oper.wp,execOp,Oper.upon,go_sem,Act.eval,Act.put,true_and];exact hK _ [] w' (Below.refl _ _) rfl (fun _ h=>nomatch h)
   ·intro vs w' hbe hd K hK
    have hm0:True:=trivial;have d0:=(hd 0 (by rfl)).choose_spec;have d1:=(hd 1 (by rfl)).choose_spec;have e0:vs 0=_:=d0;have e1:vs 1=_:=d1;simp only [Al,Ae,Bk7,Bk6,Bl1,Bl0,Act.put,Bk0,Bk1,Nat.reduceAdd,Bk5,Bk8,Bk9,e0,e1] at hK ⊢;simp [Oper.wp,execOp,Oper.upon,go_sem,Act.eval,Act.put,e0,e1];exact hK _ [] w' (Below.refl _ _) rfl (fun _ h=>nomatch h)
   ·intro vs w' hbe hd K hK
    have hm0:True:=trivial;simp only [Al,Ae,Bk7,Bk6,Bl1,Bl0,Act.put,Bk0,Bk1,Nat.reduceAdd,Bk5,Bk8,Bk9,true_and] at hK ⊢;simp [Oper.wp,execOp,Oper.upon,go_sem,Act.eval,Act.put,true_and];exact hK _ [] w' (Below.refl _ _) rfl (fun _ h=>nomatch h)
   ·intro vs w' hbe hd K hK
    have hm0:True:=trivial;have d3:=(hd 3 (by rfl)).choose_spec;have e3:vs 3=_:=d3;simp only [Al,Ae,Bk7,Bk6,Bl1,Bl0,Act.put,Bk0,Bk1,Nat.reduceAdd,Bk5,Bk8,Bk9,e3] at hK ⊢;simp [Oper.wp,execOp,Oper.upon,go_sem,Act.eval,Act.put,e3];refine (HSN w').mono ?_;rintro e w4 ⟨b,rb,rfl,h1,h2,h3,h4⟩;have hrr:=show spR n hb back 4 (.pointer (some ⟨b,0,none⟩)) [b,rb] vs w4 from ⟨b,rb,rfl,rfl,h1⟩;have hgg:=show Below w'.heap.size w' w4/\∀k∈[b,rb],w'.heap.size<=k/\k<w4.heap.size from ⟨h4,fun k hk=>in2 (p:=fun k=>w'.heap.size<=k/\k<w4.heap.size) hk ⟨h2,h1.lt.1⟩ ⟨h3,h1.lt.2⟩⟩
    dsimp only
    exact hK _ _ w4 hgg.1 hrr hgg.2
   ·intro vs w' hbe hd K hK
    have hm0:True:=trivial;simp only [Al,Ae,Bk7,Bk6,Bl1,Bl0,Act.put,Bk0,Bk1,Nat.reduceAdd,Bk5,Bk8,Bk9,true_and] at hK ⊢;simp [Oper.wp,execOp,Oper.upon,go_sem,Act.eval,Act.put,true_and];exact hK _ [] w' (Below.refl _ _) rfl (fun _ h=>nomatch h)
   ·intro vs w' hbe hd K hK
    have hm0:True:=trivial;have d5:=(hd 5 (by rfl)).choose_spec;have e5:vs 5=_:=d5;have hr:=Hm n hn6 w';simp only [Al,Ae,Bk7,Bk6,Bl1,Bl0,Act.put,Bk0,Bk1,Nat.reduceAdd,Bk5,Bk8,Bk9,true_and] at hK ⊢;simp [Oper.wp,execOp,Oper.upon,go_sem,Act.eval,Act.put,true_and];simp only [e5] at hK ⊢;rw [hr];simp only [Result.andThen];obtain ⟨w4,hw4⟩:∃w4,w4=w'.alloc (.cells (madeCells #[.int .i64 0] n) 3):=⟨_,rfl⟩;have hsz:w4.heap.size=w'.heap.size+1:=by rw [hw4];simp
    have hsp:w4.ownsRow 0 3 1 (.slice (some ⟨w'.heap.size,0,none⟩) n n) n (List.replicate n (.int .i64 0)):=by rw [hw4];exact Bg7 n hn6 w'
    have hb4:Below w'.heap.size w' w4:=by rw [hw4];exact Below.of_al _ _
    rw [<-hw4];exact hK _ [w'.heap.size] w4 hb4 (show spR n hb back 6 (.slice (some ⟨w'.heap.size,0,none⟩) n n) [w'.heap.size] vs w4 from ⟨w'.heap.size,rfl,rfl,hsp⟩) (fun k hk=>by simp at hk;subst hk;omega)
   ·intro vs w' hbe hd K hK
    have hm0:True:=trivial;simp only [Al,Ae,Bk7,Bk6,Bl1,Bl0,Act.put,Bk0,Bk1,Nat.reduceAdd,Bk5,Bk8,Bk9,true_and] at hK ⊢;simp [Oper.wp,execOp,Oper.upon,go_sem,Act.eval,Act.put,true_and];exact hK _ [] w' (Below.refl _ _) rfl (fun _ h=>nomatch h)
   ·intro vs w' hbe hd K hK
    have hm0:True:=trivial;have d7:=(hd 7 (by rfl)).choose_spec;have e7:vs 7=_:=d7;simp only [Al,Ae,Bk7,Bk6,Bl1,Bl0,Act.put,Bk0,Bk1,Nat.reduceAdd,Bk5,Bk8,Bk9,e7] at hK ⊢;simp [Oper.wp,execOp,Oper.upon,go_sem,Act.eval,Act.put,e7];refine (HHN w').mono ?_;rintro e w4 ⟨b,a,rfl,h1,h2,h3,h4⟩;have hrr:=show spR n hb back 8 (.pointer (some ⟨b,0,none⟩)) [b,a] vs w4 from ⟨b,a,rfl,rfl,h1⟩;have hgg:=show Below w'.heap.size w' w4/\∀k∈[b,a],w'.heap.size<=k/\k<w4.heap.size from ⟨h4,fun k hk=>in2 (p:=fun k=>w'.heap.size<=k/\k<w4.heap.size) hk ⟨h2,h1.pb.lt⟩ ⟨h3,(h1.oa.lt _ rfl).2⟩⟩
    dsimp only
    exact hK _ _ w4 hgg.1 hrr hgg.2
   ·intro vs w' hbe hd K hK
    have hm0:True:=trivial;have d2:=(hd 2 (by rfl)).choose_spec;have d4:=(hd 4 (by rfl)).choose_spec;have d6:=(hd 6 (by rfl)).choose_spec;have d8:=(hd 8 (by rfl)).choose_spec;have e2:vs 2=_:=d2;obtain ⟨b4,rb4,e4,-⟩:=d4;obtain ⟨fb,e6,-⟩:=d6;obtain ⟨b8,a8,e8,-⟩:=d8;simp only [Al,Ae,Bk7,Bk6,Bl1,Bl0,Act.put,Bk0,Bk1,Nat.reduceAdd,Bk5,Bk8,Bk9,e2,e4,e6,e8] at hK ⊢;simp [Oper.wp,execOp,Oper.upon,go_sem,Act.eval,Act.put,e2,e4,e6,e8];exact hK _ [] w' (Below.refl _ _) (by show _=_;rw [e4,e6,e8]) (fun _ h=>nomatch h)
   ·intro vs w' hbe hd K hK
    have hm0:True:=trivial;have d9:=(hd 9 (by rfl)).choose_spec;have e9:vs 9=_:=d9;simp only [Al,Ae,Bk7,Bk6,Bl1,Bl0,Act.put,Bk0,Bk1,Nat.reduceAdd,Bk5,Bk8,Bk9,true_and] at hK ⊢;simp [Oper.wp,execOp,Oper.upon,go_sem,Act.eval,Act.put,true_and];simp only [e9] at hK ⊢;exact hK _ [w'.heap.size] _ (Below.of_al _ _) (show spR n hb back 10 (.pointer (some ⟨w'.heap.size,0,none⟩)) [w'.heap.size] vs _ from ⟨w'.heap.size,_,_,_,rfl,rfl,e9,PB.new5 _ _ _ _ _ _ _⟩) (fun k hk=>by simp at hk;subst hk;simp)
   ·intro vs w' hbe hd K hK
    have hm0:True:=trivial;simp only [Al,Ae,Bk7,Bk6,Bl1,Bl0,Act.put,Bk0,Bk1,Nat.reduceAdd,Bk5,Bk8,Bk9,true_and] at hK ⊢;simp [Oper.wp,execOp,Oper.upon,go_sem,Act.eval,Act.put,true_and];exact hK _ [] w' (Below.refl _ _) rfl (fun _ h=>nomatch h)
  case refine_1=>exact Be0
  case refine_2=>
   intro i v g vs vs' w1 h hr
   match i with
   |0|1|2|3|4|5|6|7|8=>exact hr
   |9=>(have h4:=h 4 (by rfl));(have h6:=h 6 (by rfl));(have h8:=h 8 (by rfl));(show v=_;rw [h4,h6,h8];exact hr)
   |10=>(have h9:=h 9 (by rfl));(show ∃_,_;rw [h9];exact hr)
   |11=>(have h9:=h 10 (by rfl));(show v=_;rw [h9];exact hr)
   |i+12=>trivial
  case refine_4=>
   intro vs gs w' hb1 hR hG hN;simp only [Al,Ae,Bk7,Bk6,Bl1,Bl0,Act.put,Bk0,Bk1,Nat.reduceAdd,Bk5,Bk8,Bk9];refine hK2 _ _ ?_
   go_meet
   exact Be1 hb1 hR hG hN
 case rest=>
  obtain ⟨xb,sb,rb,fb,hp,a,rfl,hU⟩:=hcut;have HU:=Bi5 hU;have HR:=Bi5 (Az4 w wc xb hb back sb rb fb hp n _ _ es R S ro s hU HH.out HOK.out hsn hn Be2);unfold Ai2 at HR;clear hU
  go_wp2_with (go_at_call 182;refine HR.out.mono ?_;rintro e w2 ⟨ao,cap,l,rfl,h1,h2,h3,h4⟩;(have HQ:=Bi5 (And.intro h1 (And.intro h2 (And.intro h3 h4))));clear h1 h2 h3 h4)
  refine bodyPost_ret (v:=.tuple #[.slice ao l.length cap,.int .i64 0]) (by simp [results,Tryz.results123,go_sem];try rfl) rfl ?_;exact ⟨ao,cap,l,rfl,HQ.out⟩
theorem Td (hb n:Nat) (es:List EdgeD) (R:List Int) (S:List SC) (O I:List (List Int)) (s:Int) (back:Bool) (w:World) (hh:HierM w hb n es R S O I) (hn:0<n) (hs:s<0\/(n:Int)<=s):
  Calls Tryz.prog 123 #[.pointer (some ⟨hb,0,none⟩),.int .i64 s,.bool back] w fun e w'=>e=.returned (.tuple #[.slice none 0 0,.int .i64 7])/\Below w.heap.size w w':=by
 have HN:=Bi5 (Fr hb n es R S _ _ w hh);have hn1:¬(n:Int)=0:=by omega
 clear hh
 by_cases h0:s<0
 ·go_enter Tryz.func123,Tryz.ntmps123
  go_wp2_with (go_at_call 175;refine HN.out.mono ?_;rintro e w1 ⟨rfl,rfl⟩)
  refine bodyPost_ret (v:=.tuple #[.slice none 0 0,.int .i64 7]) (by simp [results,Tryz.results123,go_sem];try rfl) rfl ?_;exact ⟨rfl,Below.refl _ _⟩
 ·have h1:(n:Int)<=s:=by omega
  go_enter Tryz.func123,Tryz.ntmps123
  go_wp2_with (go_at_call 175;refine HN.out.mono ?_;rintro e w1 ⟨rfl,rfl⟩)
  refine bodyPost_ret (v:=.tuple #[.slice none 0 0,.int .i64 7]) (by simp [results,Tryz.results123,go_sem];try rfl) rfl ?_;exact ⟨rfl,Below.refl _ _⟩
end Go.Proofs.YteaaapdjplbljaaGreat
end
