/- Walk over the reference of upward: Far, Peak. Walk of package query: an oracle. Walk of the law QueryThirds. Walk of package query where nothing was built: Dist, Peaks, Meet of none. The peaks at which both ends meet, told in two ways, in plain Lean. Walk over the reference of query: Peaks. Walk of package hier: Hierarchy. Walks: are two rows the same (numbers, wide numbers, texts). Walk of the law QueryDists. Walk of the law QueryOracles. The library's contracts that the proof uses, laid at this program by the kit's own command; no condition. Walk of the library's slices.Repeat at one weight. Walks: one row behind another (slices.Grow, slices.Concat of two). Walks: two rows, one behind the other, by the reference; a route behind another. Walk: unpack.Route: the memory at the head of its loop. -/
import Derived.Test.YtkdomobedfhhgaaGreatProg
import Derived.Test.YtkdomobedfhhgaaGreatRm04
import Derived.Test.YtkdomobedfhhgaaGreatQm36
import Derived.Maps.Views
import Derived.Test.YtkdomobedfhhgaaGreatRm01
import Derived.Test.YtkdomobedfhhgaaGreatQm26
import Derived.Test.YtkdomobedfhhgaaGreatQm01
import Derived.Shelf.Small.Bits
import Derived.Shelf.Small.Wraps
import Derived.Shelf.Strconv.Itoa0
import Derived.Shelf.Bits.Mul64
import Derived.Shelf.Slices.Reverse
import Derived.Ground.Names2Prog
import Derived.Shelf.Slices.Clone
import Derived.Shelf.Slices.SearchI
import Derived.Shelf.Slices.Cells
import Derived.Ground.SlgnProg
import Derived.Shelf.SlicesE.Clone
import Derived.Ground.SlsfProg
import Derived.Shelf.SlSortCmp.Insertion
import Derived.Test.YtkdomobedfhhgaaGreatQm31
import Derived.Laws.CopyOwn
import Derived.Deep.RegionLaw
import Derived.Test.YtkdomobedfhhgaaGreatQm22
import Derived.Lib.AppendZeros
import Derived.Laws.OwnMore
import Derived.Test.YtkdomobedfhhgaaGreatQm13
import Derived.Test.YtkdomobedfhhgaaGreatRm02
import Derived.Test.YtkdomobedfhhgaaGreatQm32
set_option linter.unusedVariables false
set_option linter.unusedSimpArgs false
set_option linter.unnecessarySimpa false
section
namespace Go.Proofs.YtkdomobedfhhgaaGreat
open Go Go.Proofs Go.RowKit Go.Shelf Go.Proofs.YtkdomobedfhhgaaGreat.Ch
theorem AllPost.st {es:List EdgeD} {n:Nat} {s:Int} {back:Bool} {no:List Int} {w W w':World} {e:Ending} (hb:Below w.heap.size w W) (h:AllPost es n s back no W e w'):AllPost es n s back no w e w':=by
 obtain ⟨b,d,h1,h2,h3,h4,h5⟩:=h
 have:=hb.size
 exact ⟨b,d,h1,h2,hb.st h3,by omega,h5⟩
end Go.Proofs.YtkdomobedfhhgaaGreat
end
section
namespace Go.Proofs.YtkdomobedfhhgaaGreat
open Go Go.Proofs Go.RowKit Go.Shelf Go.Proofs.YtkdomobedfhhgaaGreat.Hp Go.Proofs.YtkdomobedfhhgaaGreat.Ch
def MapC (w:World) (b n:Nat) (f:Int→Option Int):Prop:=
 ∃D:DataW Unit,w.ownsMap Tryz.prog 3 (plainElem Tryz.prog 34) b n D∧(∀u,In6 u→Maps.has D (i64K u)=(f u).isSome∧D.atKey (i64K u) (.lit (.int .u64 0))=.lit (.int .u64 ((f u).getD 0)))∧Maps.size D=n
section
variable {w w':World} {b n:Nat} {f:Int→Option Int}
theorem MapC.toW (h:MapC w b n f):MapW w b n f:=let ⟨D,k,q,_⟩:=h;⟨D,k,q⟩
theorem MapC.eq (h:MapC w b n f) (he:w'.heap[b]? =w.heap[b]?):MapC w' b n f:=by
 obtain ⟨D,⟨es,clock,hb,r⟩,q⟩:=h
 exact ⟨D,⟨es,clock,he.trans hb,r⟩,q⟩
theorem MapC.go (h:MapC w b n f) (hb:Below w.heap.size w w'):MapC w' b n f:=h.eq (hb.block b h.toW.lt)
theorem MapC.off {X:Nat→Prop} (h:MapC w b n f) (ho:OffX X w w') (hn:¬X b):MapC w' b n f:=h.eq (ho.block b h.toW.lt hn)
theorem MapC.new (w:World):MapC (w.alloc (.map #[] 0)) w.heap.size 0 (fun _=>none):=
 ⟨.map [],World.ownsMap_made w _ _ _,fun u _=>⟨rfl,rfl⟩,rfl⟩
theorem MapC.len (h:MapC w b n f) (ty:TypeId):(Builtin.len_ #[125] ty #[.map (some b)]).run Tryz.prog w=.ok (.int .i64 (n:Int)) w:=by
 obtain ⟨D,k,q,hs⟩:=h
 have:=k.len mp_under ty
 rw [hs] at this
 exact this
theorem MapC.put (h:MapC w b n f) (hn:n<1000000000000000000) {u x:Int} (hu:In6 u) (hx:0≤x∧x≤18446744073709551615) (hf:f u=none):
  ∃w',(Instr.mapUpdate 125 (.map (some b)) (.int .i64 u) (.int .u64 x)).run Tryz.prog w=.ok () w'∧MapC w' b (n+1) (updM f u x)∧OffX (· =b) w w':=by
 obtain ⟨D,k,q,hs⟩:=h
 obtain ⟨w',h1,h2,h3⟩:=k.store (H:=Unit) mp_keyed mp_under (by unfold maxLen;omega) (key:=.int .i64 u) (val:=.int .u64 x) (kl:=i64K u) (d:=.lit (.int .u64 x)) (ps:=[]) (Maps.keyOf_int_mk Tryz.underlying3 (in6_wf hu)) (plainElem_int Tryz.underlying34 (u64_wf hx))
 have hg:=h3.grown
 refine ⟨w',h1,⟨_,h2,fun v hv=>?_,?_⟩,⟨hg.os,hg.tape,hg.output,hg.size,fun j hj hjb=>hg.block j hj (fun e=>hjb (Option.some.inj e))⟩⟩
 ·obtain ⟨q1,q2⟩:=q v hv
  unfold updM
  by_cases e:v=u
  ·subst e
   rw [if_pos rfl,Maps.has_put_same k.isMap (k:=i64K v) trivial,Maps.atKey_put_same k.isMap (k:=i64K v) trivial]
   exact ⟨rfl,rfl⟩
  ·rw [if_neg e,Maps.has_put_other (fun h=>e (by cases h;rfl)),Maps.atKey_put_other (fun h=>e (by cases h;rfl))]
   exact ⟨q1,q2⟩
 ·rw [Maps.size_put (k.tidy mp_keyed),(q u hu).1,hf,hs]
  rfl
end
structure OrW (w:World) (ob hb sb kb n t:Nat) (A:Int→Int→Int→Prop) (lb:List LB) (asked:List Int):Prop where
 c0:w.cell? ⟨ob,0,none⟩=some (.pointer (some ⟨hb,0,none⟩))
 c1:w.cell? ⟨ob,1,none⟩=some (.map (some sb))
 c2:w.cell? ⟨ob,2,none⟩=some (.map (some kb))
 sp:MapW w sb lb.length (byF lb)
 kn:∃f,MapC w kb asked.length f∧(∀u,(f u).isSome=true↔u∈asked)∧∀u x,f u=some x→FarV A u t x
 ne:kb≠ob∧kb≠sb
theorem OrW.go {w w':World} {ob hb sb kb n t:Nat} {A:Int→Int→Int→Prop} {lb:List LB} {asked:List Int} (h:OrW w ob hb sb kb n t A lb asked) (hz:Below w.heap.size w w'):OrW w' ob hb sb kb n t A lb asked:=by
 obtain ⟨f,k1,k2,k3⟩:=h.kn
 exact ⟨cell_later hz h.c0,cell_later hz h.c1,cell_later hz h.c2,h.sp.go hz,⟨f,k1.go hz,k2,k3⟩,h.ne⟩
def ToSp (es:List EdgeD) (S:List SC) (ro:List Int) (t n:Nat) (lb:List LB):Prop:=Space (relB true (arcG es)) (XN S true) (rk ro) (t:Int) (lb.map labOf)∧lb.length≤n
theorem near_far {es:List EdgeD} {n:Nat} {R:List Int} {S:List SC} {ro:List Int} {s t:Nat} {la lb:List LB} (hok:HierOK es n R S ro) (hn:n≤12) (hs:s<n) (ht:t<n) (ha:Space (relB false (arcG es)) (XN S false) (rk ro) (s:Int) (la.map labOf)) (hb:Space (relB true (arcG es)) (XN S true) (rk ro) (t:Int) (lb.map labOf)):
  FarV (arcG es) (s:Int) (t:Int) (nearF (byF lb) la):=by
 have h3:=(nearF_spec (byF lb) la).2.2
 rcases near_dist hok hn hs ht ha hb with ⟨h1,h2⟩|⟨h1,h2⟩
 ·rcases h2 with ⟨h,_⟩|⟨_,_,_,_,h⟩|⟨h,_⟩
  ·cases h
  ·exact .inr ⟨by unfold FAR;omega,h⟩
  ·cases h
 ·rcases h2 with ⟨_,_,_,h,h4⟩|⟨h,_⟩|⟨h,_⟩
  ·exact .inl ⟨h,h.1.nonneg (hok.hierB false).pos,h4⟩
  ·cases h
  ·cases h
set_option maxRecDepth 100000 in
set_option maxHeartbeats 2000000 in
theorem qfind_any (ob hb sb kb n t s:Nat) (es:List EdgeD) (R:List Int) (S:List SC) (ro:List Int) (lb:List LB) (asked:List Int) (w:World) (h:OrW w ob hb sb kb n t (arcG es) lb asked) (hh:BH w hb n es R S ro) (hlb:ToSp es S ro t n lb) (hs:s<n) (ht:t<n):
  Calls Tryz.prog 77 #[.pointer (some ⟨ob,0,none⟩),.int .i64 (s:Int)] w fun e w'=>(∃x,e=.returned (.int .u64 x)∧FarV (arcG es) (s:Int) (t:Int) x)∧Below w.heap.size w w':=by
 have c0:=h.c0
 have c1:=h.c1
 have HSP:=Lib.hid h.sp
 have HOK:=Lib.hid hh.ok
 have HLE:=Lib.hid hh.le
 have HSA:=Lib.hid (space_any hb n es R S ro s false w hh.mem hh.ok hh.le hs)
 have hpw:lb.Pairwise (fun a b=>a.v≠b.v):=by
  have h9:=hlb.1.once
  rw [List.pairwise_map] at h9
  exact h9
 have hlbs:=labsOK hh.ok hlb.1 ht hh.le
 have HF:=Lib.hid (fun (u x:Int) (hy:byF lb u=some x)=>show 0≤x∧x≤1152921504606846976 by
  obtain ⟨z,hz,_,rfl⟩:=(byF_spec lb hpw _ _).1 hy
  have:=hlbs z hz
  exact ⟨by omega,by omega⟩)
 have HLB:=Lib.hid hlb
 unfold SpacePost at HSA
 clear h hh hlb hpw hlbs
 go_enter Tryz.func77,Tryz.ntmps77
 go_upto_region 2 with (go_at_call 29;refine HSA.out.mono ?_;rintro e w1 ⟨ao,ca,la,rfl,h1,h2,h3,h4,h5⟩;(have H1:=Lib.hid h2);(have HC:=Lib.hid h1);(have HS:=Lib.hid (And.intro h3 h4));(have d1:=cell_later h2 c1);clear h1 h2 h3 h4 h5)
 have hla:=labsOK HOK.out HS.out.1 hs HLE.out
 have HL:=Lib.hid (least_any la (byF lb) ao ca sb lb.length w1 HC.out (HSP.out.go H1.out) (by have:=HS.out.2;have:=HLE.out;omega) (fun x hx=>⟨in6_of (hla x hx).1 HLE.out,(hla x hx).2.1,by have:=(hla x hx).2.2;omega⟩) HF.out)
 have HN:=Lib.hid (near_far HOK.out HLE.out hs ht HS.out.1 HLB.out.1)
 generalize nearF (byF lb) la=x at*
 clear hla
 go_wp2_with (go_at_call 72;refine HL.out.mono ?_;rintro e w2 ⟨rfl,hb2⟩;(have H2:=Lib.hid hb2);clear hb2)
 refine bodyPost_ret (v:=.int .u64 x) (by simp [results,Tryz.results77,go_sem];try rfl) rfl ?_
 exact ⟨⟨x,rfl,HN.out⟩,H1.out.st H2.out⟩
def FromPost (w:World) (ob hb sb kb n t:Nat) (A:Int→Int→Int→Prop) (lb:List LB) (asked:List Int) (s:Int) (e:Ending) (w':World):Prop:=
 ∃x,FarV A s t x∧((x<4611686018427387904∧e=.returned (.tuple #[.int .u64 x,.bool true]))∨(4611686018427387904≤x∧e=.returned (.tuple #[.int .u64 0,.bool false])))∧
  OrW w' ob hb sb kb n t A lb (if s∈asked then asked else asked++[s])∧OffX (· =kb) w w'
theorem offX_below {X:Nat→Prop} {w w1 w2:World} (hb:Below w.heap.size w w1) (ho:OffX X w1 w2):OffX X w w2:=(OffX.of_below hb).trans ho
set_option maxRecDepth 100000 in
set_option maxHeartbeats 2000000 in
theorem from_any (ob hb sb kb n t s:Nat) (es:List EdgeD) (R:List Int) (S:List SC) (ro:List Int) (lb:List LB) (asked:List Int) (w:World) (h:OrW w ob hb sb kb n t (arcG es) lb asked) (hh:BH w hb n es R S ro) (hlb:ToSp es S ro t n lb) (hs:s<n) (ht:t<n) (hask:asked.length≤1000000):
  Calls Tryz.prog 25 #[.pointer (some ⟨ob,0,none⟩),.int .i64 (s:Int)] w (FromPost w ob hb sb kb n t (arcG es) lb asked s):=by
 have hmf:∀(fn:Fn) (first cap:Array Value) (w:World),(Instr.makeFunc fn first cap).run Tryz.prog w=.ok (.func fn first cap) w:=fun _ _ _ _=>rfl
 have HFI:=Lib.hid (qfind_any ob hb sb kb n t s es R S ro lb asked w h hh hlb hs ht)
 have HN:=Lib.hid (nodes_any hb n es R S _ _ w hh.mem)
 have c0:=h.c0
 have c2:=h.c2
 have hn12:=hh.le
 have hs0:(0:Int)≤(s:Int):=by omega
 have hs1:(s:Int)<(n:Int):=by omega
 have i6:In6 (s:Int):=⟨by omega,by omega⟩
 obtain ⟨f,k1,k2,k3⟩:=h.kn
 have HO:=Lib.hid h
 have HK:=Lib.hid (And.intro k1 (And.intro k2 k3))
 have lk:=k1.toW.look i6
 clear h hh hlb k1 k2 k3
 cases hf:f (s:Int) with
 |some x=>
  have HX:=Lib.hid (HK.out.2.2 _ _ hf)
  have HM:=Lib.hid (show (s:Int)∈asked from (HK.out.2.1 _).1 (by rw [hf];rfl))
  rw [hf] at lk
  simp only [Option.isSome,Option.getD] at lk
  clear hf i6
  by_cases hx:x<4611686018427387904
  ·have hng:¬4611686018427387904≤x:=by omega
   go_enter Tryz.func25,Tryz.ntmps25
   go_wp2_with (go_at_call 76;refine HN.out.mono ?_;rintro e w1 ⟨rfl,rfl⟩)
   refine bodyPost_ret (v:=.tuple #[.int .u64 x,.bool true]) (by simp [results,Tryz.results25,go_sem];try rfl) rfl ?_
   unfold FromPost
   exact ⟨x,HX.out,.inl ⟨hx,rfl⟩,by rw [if_pos HM.out];exact HO.out,.refl _ _⟩
  ·have hge:4611686018427387904≤x:=by omega
   go_enter Tryz.func25,Tryz.ntmps25
   go_wp2_with (go_at_call 76;refine HN.out.mono ?_;rintro e w1 ⟨rfl,rfl⟩)
   refine bodyPost_ret (v:=.tuple #[.int .u64 0,.bool false]) (by simp [results,Tryz.results25,go_sem];try rfl) rfl ?_
   unfold FromPost
   exact ⟨x,HX.out,.inr ⟨hge,rfl⟩,by rw [if_pos HM.out];exact HO.out,.refl _ _⟩
 |none=>
  have HM:=Lib.hid (show (s:Int)∉asked from fun k=>by have h9:=(HK.out.2.1 _).2 k;rw [hf] at h9;cases h9)
  have HF:=Lib.hid hf
  have I6:=Lib.hid i6
  rw [hf] at lk
  simp only [Option.isSome,Option.getD] at lk
  clear hf i6
  go_enter Tryz.func25,Tryz.ntmps25
  go_upto_region 7 with (first
   |(go_at_call 76;refine HN.out.mono ?_;rintro e w1 ⟨rfl,rfl⟩)
   |(go_at_call 77;refine HFI.out.mono ?_;rintro e w1 ⟨⟨x,rfl,hx⟩,hb1⟩;(have HX:=Lib.hid hx);(have HB1:=Lib.hid hb1);clear hx hb1))
  have d0:=cell_later HB1.out c0
  have d2:=cell_later HB1.out c2
  have hx0:=HX.out.in
  obtain ⟨w2,hup,hm2,ho2⟩:=(HK.out.1.go HB1.out).put (by omega) I6.out (u:=(s:Int)) (x:=x) ⟨hx0.1,by omega⟩ HF.out
  have HO1:=HO.out.go HB1.out
  have HOR:=Lib.hid (show OrW w2 ob hb sb kb n t (arcG es) lb (if (s:Int)∈asked then asked else asked++[(s:Int)]) from by
   rw [if_neg HM.out]
   refine ⟨ho2.cell HO1.c0 (fun e=>HO1.ne.1 e.symm),ho2.cell HO1.c1 (fun e=>HO1.ne.1 e.symm),ho2.cell HO1.c2 (fun e=>HO1.ne.1 e.symm),HO1.sp.off ho2 (fun e=>HO1.ne.2 e.symm),⟨_,by rw [List.length_append];exact hm2,?_,?_⟩,HO1.ne⟩
   ·intro u
    unfold updM
    rw [List.mem_append,List.mem_singleton]
    by_cases e:u=(s:Int)
    ·rw [if_pos e];simp [e]
    ·rw [if_neg e];simp only [e,or_false];exact HK.out.2.1 u
   ·intro u y
    unfold updM
    by_cases e:u=(s:Int)
    ·rw [if_pos e]
     intro h
     cases h
     rw [e]
     exact HX.out
    ·rw [if_neg e];exact HK.out.2.2 u y)
  have HOF:=Lib.hid (offX_below HB1.out ho2)
  clear hm2 ho2 HO1
  by_cases hx:x<4611686018427387904
  ·have hng:¬4611686018427387904≤x:=by omega
   go_wp2
   refine bodyPost_ret (v:=.tuple #[.int .u64 x,.bool true]) (by simp [results,Tryz.results25,go_sem];try rfl) rfl ?_
   unfold FromPost
   exact ⟨x,HX.out,.inl ⟨hx,rfl⟩,HOR.out,HOF.out⟩
  ·have hge:4611686018427387904≤x:=by omega
   go_wp2
   refine bodyPost_ret (v:=.tuple #[.int .u64 0,.bool false]) (by simp [results,Tryz.results25,go_sem];try rfl) rfl ?_
   unfold FromPost
   exact ⟨x,HX.out,.inr ⟨hge,rfl⟩,HOR.out,HOF.out⟩
def ToPost (es:List EdgeD) (S:List SC) (ro:List Int) (hb n t:Nat) (w:World) (e:Ending) (w':World):Prop:=
 ∃(ob sb kb:Nat) (lb:List LB),e=.returned (.tuple #[.pointer (some ⟨ob,0,none⟩),.int .i64 0])∧OrW w' ob hb sb kb n t (arcG es) lb []∧ToSp es S ro t n lb∧Below w.heap.size w w'∧w.heap.size≤kb∧kb<w'.heap.size
set_option maxRecDepth 100000 in
set_option maxHeartbeats 2000000 in
theorem to_any (hb n t:Nat) (es:List EdgeD) (R:List Int) (S:List SC) (ro:List Int) (w:World) (h:BH w hb n es R S ro) (ht:t<n):
  Calls Tryz.prog 24 #[.pointer (some ⟨hb,0,none⟩),.int .i64 (t:Int)] w (ToPost es S ro hb n t w):=by
 have hmm:=@run_makeMap Tryz.prog
 have HSA:=Lib.hid (space_any hb n es R S ro t true w h.mem h.ok h.le ht)
 have HOK:=Lib.hid h.ok
 have HLE:=Lib.hid h.le
 unfold SpacePost at HSA
 unfold ToPost
 clear h
 go_enter Tryz.func24,Tryz.ntmps24
 go_upto_region 4 with (go_at_call 29;refine HSA.out.mono ?_;rintro e w1 ⟨ao,ca,lb,rfl,h1,h2,h3,h4,h5⟩;(have H1:=Lib.hid h2);(have HC:=Lib.hid h1);(have HS:=Lib.hid (And.intro h3 h4));clear h1 h2 h3 h4 h5)
 have hlb:=labsOK HOK.out HS.out.1 ht HLE.out
 have HBY:=Lib.hid (byNode_any lb ao ca w1 HC.out (by have:=HS.out.2;have:=HLE.out;omega) (fun x hx=>⟨in6_of (hlb x hx).1 HLE.out,(hlb x hx).2.1,by have:=(hlb x hx).2.2;omega⟩))
 unfold ByPost at HBY
 clear hlb
 go_wp2_with (go_at_call 73;refine HBY.out.mono ?_;rintro e w2 ⟨b,rfl,m1,m2,m3⟩;(have HM:=Lib.hid (And.intro m1 (And.intro m2 m3)));clear m1 m2 m3)
 refine bodyPost_ret (v:=.tuple #[.pointer (some ⟨w2.heap.size+1,0,none⟩),.int .i64 0]) (by simp [results,Tryz.results24,go_sem];try rfl) rfl ?_
 obtain ⟨m1,m2,m3⟩:=HM.out
 have hb2:Below w2.heap.size w2 (w2.alloc (.map #[] 0)):=Below.of_al _ _
 have hsz1:=H1.out.size
 have hsz2:=m3.size
 have hlt:=m1.lt
 refine ⟨_,b,w2.heap.size,lb,rfl,⟨by go_simp,by go_simp,by go_simp,(m1.go hb2).go (Below.of_al _ _),⟨fun _=>none,(MapC.new w2).go (Below.of_al _ _),by simp,by simp⟩,⟨by omega,by omega⟩⟩,HS.out,((H1.out.st m3).al _).al _,by omega,by simp;omega⟩
end Go.Proofs.YtkdomobedfhhgaaGreat
end
section
namespace Go.Proofs.YtkdomobedfhhgaaGreat
open Go Go.Proofs Go.RowKit Go.Shelf Go.Proofs.YtkdomobedfhhgaaGreat.Hp Go.Proofs.YtkdomobedfhhgaaGreat.Ch
def lightG (n:Int) (es:List EdgeD):Bool:=(decide (n≤100)||decide (4096<n))&&decide ((es.length:Int)≤300)
set_option maxHeartbeats 1000000 in
theorem light05_any (n:Int) (es:List EdgeD) (ao:Option Addr) (cap:Nat) (w:World):
  Calls Tryz.prog 69 #[.agg #[.int .i64 n,.slice ao es.length cap]] w fun e w'=>e=.returned (.bool (lightG n es))∧Below w.heap.size w w':=by
 unfold lightG
 by_cases h1:n≤100
 ·rw [decide_eq_true h1,Bool.true_or,Bool.true_and]
  have g1:decide (n≤100)=true:=decide_eq_true h1
  go_enter Tryz.func69,Tryz.ntmps69
  go_wp2
  go_ret
  exact ⟨rfl,Below.of_al _ _⟩
 ·rw [decide_eq_false h1,Bool.false_or]
  have g1:decide (n≤100)=false:=decide_eq_false h1
  by_cases h2:4096<n
  ·rw [decide_eq_true h2,Bool.true_and]
   have g2:decide (n>4096)=true:=decide_eq_true h2
   go_enter Tryz.func69,Tryz.ntmps69
   go_wp2
   go_ret
   exact ⟨rfl,Below.of_al _ _⟩
  ·rw [decide_eq_false h2,Bool.false_and]
   have g2:decide (n>4096)=false:=decide_eq_false h2
   go_enter Tryz.func69,Tryz.ntmps69
   go_wp2
   go_ret
   exact ⟨rfl,Below.of_al _ _⟩
def light20 (n:Int) (es:List EdgeD):Bool:=lightG n es&&(decide (n≤12)||decide (4096<n))&&decide ((es.length:Int)≤40)
theorem light20_small {g:GD} (h:light20 g.n g.es=true):(rightG g=0→g.n≤12)∧g.es.length≤40:=by
 unfold light20 at h
 simp only [Bool.and_eq_true,Bool.or_eq_true,decide_eq_true_eq] at h
 refine ⟨fun hr=>?_,by omega⟩
 have:=right_n hr
 omega
set_option maxHeartbeats 1000000 in
theorem light20_any (n:Int) (es:List EdgeD) (ao:Option Addr) (cap:Nat) (w:World):
  Calls Tryz.prog 14 #[.agg #[.int .i64 n,.slice ao es.length cap]] w fun e w'=>e=.returned (.bool (light20 n es))∧Below w.heap.size w w':=by
 have HL:=Lib.hid (light05_any n es ao cap)
 unfold light20
 obtain ⟨W,hW⟩:∃W,W=w.alloc (Obj.cells #[.int .i64 n,.slice ao es.length cap] 24):=⟨_,rfl⟩
 have hbw:Below w.heap.size w W:=by rw [hW];exact Below.of_al _ _
 have c0:W.cell? ⟨w.heap.size,0,none⟩=some (.int .i64 n):=by rw [hW];go_simp
 have c1:W.cell? ⟨w.heap.size,1,none⟩=some (.slice ao es.length cap):=by rw [hW];go_simp
 have HB:=Lib.hid hbw
 have HW:=Lib.hid hW
 clear hbw hW
 cases hb:lightG n es with
 |false=>
  rw [hb] at HL
  clear hb
  go_enter Tryz.func14,Tryz.ntmps14
  go_upto_region 1 with (fail)
  rw [←HW.out]
  go_wp2_with (go_at_call 69;refine (HL.out _).mono ?_;rintro e w1 ⟨rfl,hb1⟩;(have HB1:=Lib.hid hb1);clear hb1)
  go_ret
  exact ⟨by simp,HB.out.st HB1.out⟩
 |true=>
  rw [hb] at HL
  clear hb
  by_cases h1:n≤12
  ·go_enter Tryz.func14,Tryz.ntmps14
   go_upto_region 1 with (fail)
   rw [←HW.out]
   go_wp2_with (go_at_call 69;refine (HL.out _).mono ?_;rintro e w1 ⟨rfl,hb1⟩;(have d0:=cell_later hb1 c0);(have d1:=cell_later hb1 c1);(have HB1:=Lib.hid hb1);clear hb1)
   go_ret
   exact ⟨by simp [h1],HB.out.st HB1.out⟩
  ·by_cases h2:4096<n
   ·go_enter Tryz.func14,Tryz.ntmps14
    go_upto_region 1 with (fail)
    rw [←HW.out]
    go_wp2_with (go_at_call 69;refine (HL.out _).mono ?_;rintro e w1 ⟨rfl,hb1⟩;(have d0:=cell_later hb1 c0);(have d1:=cell_later hb1 c1);(have HB1:=Lib.hid hb1);clear hb1)
    go_ret
    exact ⟨by simp [h1,h2],HB.out.st HB1.out⟩
   ·go_enter Tryz.func14,Tryz.ntmps14
    go_upto_region 1 with (fail)
    rw [←HW.out]
    go_wp2_with (go_at_call 69;refine (HL.out _).mono ?_;rintro e w1 ⟨rfl,hb1⟩;(have d0:=cell_later hb1 c0);(have d1:=cell_later hb1 c1);(have HB1:=Lib.hid hb1);clear hb1)
    go_ret
    exact ⟨by simp [h1,h2];intro h;omega,HB.out.st HB1.out⟩
theorem BltPost.two {g:GD} {k:Int} {w w':World} {e:Ending} (h:BltPost g k w e w'):∃p,e=.returned (.tuple #[.pointer p,.int .i64 k])∧Below w.heap.size w w'∧(k=0→rightG g=0→g.n≤12→∃hb R S ro,p=some ⟨hb,0,none⟩∧BH w' hb g.n.toNat g.es R S ro):=by
 have h0:=h
 obtain ⟨h1|h1,h2⟩:=h
 ·obtain ⟨rfl,hb,R,S,ro,e,hm,ho⟩:=h1
  exact ⟨_,e,h2,fun _ hg hn=>by
   have:=right_n hg
   exact ⟨hb,R,S,ro,rfl,⟨hm,ho,by omega,by omega⟩⟩⟩
 ·exact ⟨none,h1.2,h2,fun hk=>absurd hk h1.1⟩
end Go.Proofs.YtkdomobedfhhgaaGreat
end
section
namespace Go.Proofs.YtkdomobedfhhgaaGreat
open Go Go.Proofs Go.RowKit Go.Shelf Go.Proofs.YtkdomobedfhhgaaGreat.Hp Go.Proofs.YtkdomobedfhhgaaGreat.Ch
theorem both_nil (s t:Int) (w:World):Calls Tryz.prog 71 #[.pointer none,.int .i64 s,.int .i64 t] w fun e w'=>e=.returned (.tuple #[.slice none 0 0,.slice none 0 0,.int .i64 1])∧Below w.heap.size w w':=by
 have HA:=Lib.hid (space_nil s false w)
 go_enter Tryz.func71,Tryz.ntmps71
 go_wp2_with (go_at_call 29;refine HA.out.mono ?_;rintro e w1 ⟨rfl,h2⟩;(have H1:=Lib.hid h2);clear h2)
 refine bodyPost_ret (v:=.tuple #[.slice none 0 0,.slice none 0 0,.int .i64 1]) (by simp [results,Tryz.results71,go_sem];try rfl) rfl ?_
 exact ⟨rfl,H1.out⟩
theorem dist_nil (s t:Int) (w:World):Calls Tryz.prog 17 #[.pointer none,.int .i64 s,.int .i64 t] w fun e w'=>e=.returned (.tuple #[.int .u64 0,.int .i64 1])∧Below w.heap.size w w':=by
 have HA:=Lib.hid (both_nil s t w)
 go_enter Tryz.func17,Tryz.ntmps17
 go_wp2_with (go_at_call 71;refine HA.out.mono ?_;rintro e w1 ⟨rfl,h2⟩;(have H1:=Lib.hid h2);clear h2)
 refine bodyPost_ret (v:=.tuple #[.int .u64 0,.int .i64 1]) (by simp [results,Tryz.results17,go_sem];try rfl) rfl ?_
 exact ⟨rfl,H1.out⟩
theorem peaks_nil (s t:Int) (w:World):Calls Tryz.prog 18 #[.pointer none,.int .i64 s,.int .i64 t] w fun e w'=>e=.returned (.tuple #[.slice none 0 0,.int .i64 1])∧Below w.heap.size w w':=by
 have HA:=Lib.hid (both_nil s t w)
 go_enter Tryz.func18,Tryz.ntmps18
 go_wp2_with (go_at_call 71;refine HA.out.mono ?_;rintro e w1 ⟨rfl,h2⟩;(have H1:=Lib.hid h2);clear h2)
 refine bodyPost_ret (v:=.tuple #[.slice none 0 0,.int .i64 1]) (by simp [results,Tryz.results18,go_sem];try rfl) rfl ?_
 exact ⟨rfl,H1.out⟩
theorem meet_nil (s t:Int) (w:World):Calls Tryz.prog 19 #[.pointer none,.int .i64 s,.int .i64 t] w fun e w'=>e=.returned (.tuple #[.int .i64 (-1),.int .u64 0,.int .i64 1])∧Below w.heap.size w w':=by
 have HA:=Lib.hid (peaks_nil s t w)
 go_enter Tryz.func19,Tryz.ntmps19
 go_wp2_with (go_at_call 18;refine HA.out.mono ?_;rintro e w1 ⟨rfl,h2⟩;(have H1:=Lib.hid h2);clear h2)
 refine bodyPost_ret (v:=.tuple #[.int .i64 (-1),.int .u64 0,.int .i64 1]) (by simp [results,Tryz.results19,go_sem];try rfl) rfl ?_
 exact ⟨rfl,H1.out⟩
end Go.Proofs.YtkdomobedfhhgaaGreat
end
section
namespace Go.Proofs.YtkdomobedfhhgaaGreat
open Go.Proofs.YtkdomobedfhhgaaGreat.Ch
def MeetAt (A:Int→Int→Int→Prop) (r:Int→Int) (s t d v:Int):Prop:=∃p q,p+q=d∧Peak A r s v p∧Peak (Turn A) r t v q
theorem peaksL_meet {es:List EdgeD} {n:Nat} {R:List Int} {S:List SC} {ro:List Int} {s t:Nat} {d:Int} {la lb:List LB} (hok:HierOK es n R S ro) (ha:Space (relB false (arcG es)) (XN S false) (rk ro) (s:Int) (la.map labOf)) (hb:Space (relB true (arcG es)) (XN S true) (rk ro) (t:Int) (lb.map labOf)) (hp:la.Pairwise (fun a b=>a.v≤b.v)) (hd:Dist (arcG es) s t d):
  (peaksL (byF lb) d la).Pairwise (· <·)∧∀v,v∈peaksL (byF lb) d la↔MeetAt (arcG es) (rk ro) s t d v:=by
 have hpw:lb.Pairwise (fun a b=>a.v≠b.v):=by
  have h9:=hb.once
  rw [List.pairwise_map] at h9
  exact h9
 have hpa:la.Pairwise (fun a b=>a.v≠b.v):=by
  have h9:=ha.once
  rw [List.pairwise_map] at h9
  exact h9
 have hH:=hok.hierB false
 have hr0:∀v,0≤rk ro v:=fun v=>by unfold rk;omega
 refine ⟨?_,fun v=>?_⟩
 ·unfold peaksL
  rw [List.pairwise_map]
  exact ((hp.and hpa).imp fun h=>by omega).filter _
 ·have h1:=Space.peaks_both (A:=arcG es) (X:=XN S false) (Y:=XN S true) hH (fun u v w=>(XN_rel (back:=true)).trans (show srel S v u w↔(XN S false).rel v u w from (XN_rel (back:=false)).symm)) hr0 ha hb hd v
  unfold MeetAt
  rw [←h1]
  unfold peaksL
  constructor
  ·intro h
   obtain ⟨x,hx,rfl⟩:=List.mem_map.1 h
   obtain ⟨hx1,hx2⟩:=List.mem_filter.1 hx
   unfold peakB at hx2
   cases hf:byF lb x.v with
   |none=>rw [hf] at hx2;cases hx2
   |some y=>
    rw [hf] at hx2
    obtain ⟨z,hz,e,rfl⟩:=(byF_spec lb hpw _ _).1 hf
    exact ⟨labOf x,List.mem_map.2 ⟨x,hx1,rfl⟩,labOf z,List.mem_map.2 ⟨z,hz,rfl⟩,rfl,e,of_decide_eq_true hx2⟩
  ·rintro ⟨a,ha1,b,hb1,rfl,e,e2⟩
   obtain ⟨x,hx,rfl⟩:=List.mem_map.1 ha1
   obtain ⟨z,hz,rfl⟩:=List.mem_map.1 hb1
   refine List.mem_map.2 ⟨x,List.mem_filter.2 ⟨hx,?_⟩,rfl⟩
   unfold peakB
   rw [(byF_spec lb hpw x.v z.d).2 ⟨z,hz,e,rfl⟩]
   exact decide_eq_true e2
end Go.Proofs.YtkdomobedfhhgaaGreat
end
section
namespace Go.Proofs.YtkdomobedfhhgaaGreat
open Go Go.Proofs Go.RowKit Go.Shelf Go.Proofs.YtkdomobedfhhgaaGreat.Ch
section
variable {A:Int→Int→Int→Prop} {r:Int→Int} {s t d:Int} {k:Nat} {l:List Int}
end
theorem row_at {wr:World} {b n:Nat} {d:List Int} (h:Cel wr (some ⟨b,0,none⟩) (d.map encW)) (hl:d.length=n) {u:Nat} (hu:u<n):wr.cell? ⟨b,u,none⟩=some (.int .u64 (gD d (u:Int))):=by
 obtain ⟨b',o',e,h1⟩:=h u (.int .u64 (gD d (u:Int))) (by
  rw [List.getElem?_map]
  unfold gD
  rw [Int.toNat_natCast,List.getD_eq_getElem?_getD,List.getElem?_eq_getElem (by omega)]
  rfl)
 cases e
 rw [Nat.zero_add] at h1
 exact h1
end Go.Proofs.YtkdomobedfhhgaaGreat
end
section
namespace Go.Proofs.YtkdomobedfhhgaaGreat
open Go Go.Proofs Go.RowKit Go.Shelf Go.Proofs.YtkdomobedfhhgaaGreat.Hp Go.Proofs.YtkdomobedfhhgaaGreat.Ch
set_option maxRecDepth 100000 in
set_option maxHeartbeats 2000000 in
theorem hierarchy_any (hb n:Nat) (es:List EdgeD) (R:List Int) (S:List SC) (O I:List (List Int)) (w:World) (h:HierM w hb n es R S O I) (hn:n≤1000000):
  Calls Tryz.prog 21 #[.pointer (some ⟨hb,0,none⟩)] w (CHPost R S w):=by
 obtain ⟨W,hW⟩:∃W,W=w.alloc (Obj.cells #[.slice none 0 0,.slice none 0 0] 45):=⟨_,rfl⟩
 have hbw:Below w.heap.size w W:=by rw [hW];exact Below.of_al _ _
 obtain ⟨a2,k2,c2,m2⟩:=h.c2
 obtain ⟨a3,k3,c3,m3⟩:=h.c3
 have HCH:=Lib.hid (cloneH_any R S a2 a3 k2 k3 W (m2.go hbw) (m3.go hbw) (by rw [h.rl];exact hn) h.small.2.1)
 have d2:=cell_later hbw c2
 have d3:=cell_later hbw c3
 have q0:W.cell? ⟨w.heap.size,0,none⟩=some (.slice none 0 0):=by rw [hW];go_simp
 have q1:W.cell? ⟨w.heap.size,1,none⟩=some (.slice none 0 0):=by rw [hW];go_simp
 have z0:W.frozen? ⟨w.heap.size,0,none⟩=false:=by rw [hW];go_simp
 have z1:W.frozen? ⟨w.heap.size,1,none⟩=false:=by rw [hW];go_simp
 have HSZ:=Lib.hid (show W.heap.size=w.heap.size+1 by rw [hW];simp)
 have HB:=Lib.hid hbw
 have HW:=Lib.hid hW
 unfold CHPost at HCH
 clear hW hbw h m2 m3 c2 c3
 go_enter Tryz.func21,Tryz.ntmps21
 go_upto_region 1 with (fail)
 rw [←HW.out]
 go_wp2_with fail
 refine HCH.out.mono ?_
 rintro e w1 ⟨a1,k1,b1,l1,rfl,h1,h2,hb1,hf1,hf2⟩
 have g0:=cell_later hb1 q0
 have g1:=cell_later hb1 q1
 have y0:=(hb1.frozen (p:=⟨w.heap.size,0,none⟩) (by show w.heap.size<_;rw [HSZ.out];omega)).trans z0
 have y1:=(hb1.frozen (p:=⟨w.heap.size,1,none⟩) (by show w.heap.size<_;rw [HSZ.out];omega)).trans z1
 have H1:=Lib.hid (And.intro h1 (And.intro h2 (And.intro hb1 (And.intro hf1 hf2))))
 clear h1 h2 hb1 hf1 hf2 d2 d3 q0 q1 z0 z1
 go_wp2_with fail
 obtain ⟨r0,r1⟩:=h2_read (.slice a1 R.length k1) (.slice b1 S.length l1) g0 g1
 refine bodyPost_ret (v:=.agg #[.slice a1 R.length k1,.slice b1 S.length l1]) (by simp [results,Tryz.results21,go_sem,r0,r1];try rfl) rfl ?_
 obtain ⟨h1,h2,hb1,hf1,hf2⟩:=H1.out
 have hs:=HSZ.out
 have ho:OffX (· =w.heap.size) w1 ((w1.setCell ⟨w.heap.size,0,none⟩ (.slice a1 R.length k1)).setCell ⟨w.heap.size,1,none⟩ (.slice b1 S.length l1)):=
  (show OffX (· =w.heap.size) w1 (w1.setCell ⟨w.heap.size,0,none⟩ (.slice a1 R.length k1)) from .set _ rfl).trans (.set _ rfl)
 have hb4:Below w.heap.size w w1:=HB.out.st hb1
 exact ⟨a1,k1,b1,l1,rfl,cel_off h1 ho (fun k hk e=>by have:=hf1 k hk;have e2:k=w.heap.size:=e;omega),cel_off h2 ho (fun k hk e=>by have:=hf2 k hk;have e2:k=w.heap.size:=e;omega),hb4.trans (ho.below hb4.size (fun k hk=>by have e2:k=w.heap.size:=hk;omega)),fun k hk=>by have:=hf1 k hk;omega,fun k hk=>by have:=hf2 k hk;omega⟩
end Go.Proofs.YtkdomobedfhhgaaGreat
end
section
namespace Go.Proofs.YtkdomobedfhhgaaGreat
open Go.Proofs Go.RowKit Go.Shelf
set_option maxHeartbeats 400000 in
theorem sameInts_any (ao bo:Option Addr) (ca cb:Nat) (la lb:List Int) (w:World) (hla:la.length≤9223372036854775807) (hlb:lb.length≤9223372036854775807)
  (ha:Cel w ao (la.map encI)) (hb:Cel w bo (lb.map encI)):
  Calls Tryz.prog 23 #[.slice ao la.length ca,.slice bo lb.length cb] w fun e w'=>e=.returned (.bool (decide (la=lb)))∧∃n,w'=w.drewN n:=by
 have HA:=Lib.hid ha
 have HB:=Lib.hid hb
 clear ha hb
 by_cases hl:la.length=lb.length
 ·have hn2:((la.length:Int) != (lb.length:Int))=false:=by simp;omega
  have HN:=Lib.hid hl
  clear hl
  have HD:=Lib.hid (fun k (h1:k<la.length) (h2:la[k]≠lb[k]'(by have:=HN.out;omega))=>(decide_eq_false (fun e=>h2 (by subst e;rfl)):decide (la=lb)=false))
  have HE:=Lib.hid (fun h:(∀j (h:j<la.length),la[j]=lb[j]'(by have:=HN.out;omega))=>(decide_eq_true (List.ext_getElem HN.out (fun i h1 h2=>h i h1)):decide (la=lb)=true))
  generalize decide (la=lb)=r at*
  go_enter Tryz.func23,Tryz.ntmps23
  go_wp2
  go_loopg [5] la.length (fun g i wr=>∃k q:Nat,k≤la.length∧la.length-k≤g∧i=.int .i64 k∧wr=w.drewN q∧Aside (∀j (h:j<la.length),j<k→la[j]=lb[j]'(by have:=HN.out;omega)))
  case atStart=>exact ⟨0,0,Nat.zero_le _,by omega,rfl,rfl,fun j _ h=>absurd h (Nat.not_lt_zero _)⟩
  case round=>
   obtain ⟨k,q,hk,hg,rfl,rfl,HF⟩:=hrel
   by_cases hlt:k<la.length
   ·have hlt2:k<lb.length:=by have:=HN.out;omega
    have hlt3:(k:Int)<(la.length:Int):=by omega
    have hlt4:(k:Int)<(lb.length:Int):=by omega
    have hk0:(0:Int)≤(k:Int):=by omega
    obtain ⟨b1,o1,hao,hc1⟩:=HA.out.at hlt
    obtain ⟨b2,o2,hbo,hc2⟩:=HB.out.at hlt2
    subst hao hbo
    have HD2:=Lib.hid (HD.out k hlt)
    have HM:=Lib.hid (fun h:la[k]=lb[k]=>(fun j (h1:j<la.length) (h2:j<k+1)=>(by
     by_cases e:j=k
     ·subst e;exact h
     ·exact HF.out j h1 (by omega):la[j]=lb[j]'(by have:=HN.out;omega))))
    generalize la[k]=x at*
    generalize lb[k]=y at*
    go_wp2
    go_quiet (fail)
    go_wp2
    ·have ht:=ne_i (by assumption)
     go_ret
     exact ⟨by rw [HD2.out ht];rfl,q+nq,World.drewN_drewN _ _ _⟩
    ·have ht:=eq_i (by assumption)
     go_roundg (la.length-(k+1))
     case measure=>omega
     case rel=>exact ⟨k+1,q+nq,by omega,by omega,by go_num,rfl,HM.out ht⟩
   ·obtain rfl:k=la.length:=by omega
    go_wp2
    go_ret
    exact ⟨by rw [HE.out (fun j h=>HF.out j h h)];rfl,q,rfl⟩
 ·have hn2:((la.length:Int) != (lb.length:Int))=true:=by simp;omega
  have HN:=Lib.hid (decide_eq_false (fun e=>hl (by subst e;rfl)):decide (la=lb)=false)
  clear hl
  go_enter Tryz.func23,Tryz.ntmps23
  go_wp2
  go_ret
  exact ⟨by rw [HN.out];rfl,0,rfl⟩
end Go.Proofs.YtkdomobedfhhgaaGreat
end
section
namespace Go.Proofs.YtkdomobedfhhgaaGreat
open Go Go.Proofs Go.RowKit Go.Shelf Go.Proofs.YtkdomobedfhhgaaGreat.Hp Go.Proofs.YtkdomobedfhhgaaGreat.Ch
theorem BltPost.nil {g:GD} {k:Int} {w w':World} {e:Ending} (h:BltPost g k w e w') (hk:k≠0):e=.returned (.tuple #[.pointer none,.int .i64 k])∧Below w.heap.size w w':=by
 obtain ⟨h1|h1,h2⟩:=h
 ·exact absurd h1.1 hk
 ·exact ⟨h1.2,h2⟩
theorem build_right {g:GD} {h s:Int} {r:List Int} (k:buildB g h s r=0):rightG g=0:=by
 unfold buildB at k
 split at k
 ·cases k
 ·rename_i hn
  exact Decidable.byContradiction fun e=>hn (.inl e)
structure QB1 (W:World) (b:Nat) (g:GD) (ao:Option Addr) (cap:Nat) (h1 s1:Int) (ro:Option Addr) (r:List Int) (rc:Nat):Prop where
 g0:W.cell? ⟨b,0,none⟩=some (.int .i64 g.n)
 g1:W.cell? ⟨b,1,none⟩=some (.slice ao g.es.length cap)
 a0:W.cell? ⟨b+1,0,none⟩=some (.int .i64 h1)
 a1:W.cell? ⟨b+1,1,none⟩=some (.int .i64 s1)
 a2:W.cell? ⟨b+1,2,none⟩=some (.slice ro r.length rc)
theorem QB1.go {W W':World} {b:Nat} {g:GD} {ao:Option Addr} {cap:Nat} {h1 s1:Int} {ro:Option Addr} {r:List Int} {rc:Nat} (h:QB1 W b g ao cap h1 s1 ro r rc) (hz:Below W.heap.size W W'):QB1 W' b g ao cap h1 s1 ro r rc:=
 ⟨cell_later hz h.g0,cell_later hz h.g1,cell_later hz h.a0,cell_later hz h.a1,cell_later hz h.a2⟩
end Go.Proofs.YtkdomobedfhhgaaGreat
end
section
namespace Go.Proofs.YtkdomobedfhhgaaGreat
open Go Go.Proofs Go.RowKit Go.Shelf Go.Proofs.YtkdomobedfhhgaaGreat.Hp Go.Proofs.YtkdomobedfhhgaaGreat.Ch
theorem OrW.same {w w':World} {ob hb sb kb n t:Nat} {A:Int→Int→Int→Prop} {lb:List LB} {asked:List Int} (h:OrW w ob hb sb kb n t A lb asked) (hk:∀k,k=ob∨k=sb∨k=kb→w'.heap[k]? =w.heap[k]?):OrW w' ob hb sb kb n t A lb asked:=by
 obtain ⟨f,k1,k2,k3⟩:=h.kn
 exact ⟨(World.cell?_of_block (hk ob (.inl rfl))).trans h.c0,(World.cell?_of_block (hk ob (.inl rfl))).trans h.c1,(World.cell?_of_block (hk ob (.inl rfl))).trans h.c2,h.sp.eq (hk sb (.inr (.inl rfl))),⟨f,k1.eq (hk kb (.inr (.inr rfl))),k2,k3⟩,h.ne⟩
theorem OrW.lt {w:World} {ob hb sb kb n t:Nat} {A:Int→Int→Int→Prop} {lb:List LB} {asked:List Int} (h:OrW w ob hb sb kb n t A lb asked):ob<w.heap.size∧sb<w.heap.size∧kb<w.heap.size:=by
 obtain ⟨f,k1,_⟩:=h.kn
 exact ⟨World.block_lt_of_cell? _ _ h.c0,h.sp.lt,k1.toW.lt⟩
section
variable {W2 wr wr':World} {ob hb sb kb n t:Nat} {es:List EdgeD} {lb:List LB} {fb:Nat} {dd:List Int} {B:Nat} {asked asked':List Int}
end
theorem FromPost.val {w w':World} {ob hb sb kb n t:Nat} {A:Int→Int→Int→Prop} {lb:List LB} {asked:List Int} {s:Int} {e:Ending} (h:FromPost w ob hb sb kb n t A lb asked s e w'):
  ∃(d:Int) (b:Bool),e=.returned (.tuple #[.int .u64 d,.bool b])∧∃x,FarV A s t x∧((x<4611686018427387904∧d=x∧b=true)∨(4611686018427387904≤x∧d=0∧b=false))∧OrW w' ob hb sb kb n t A lb (if s∈asked then asked else asked++[s])∧OffX (· =kb) w w':=by
 obtain ⟨x,h1,h2,h3,h4⟩:=h
 rcases h2 with ⟨h2,rfl⟩|⟨h2,rfl⟩
 ·exact ⟨x,true,rfl,x,h1,.inl ⟨h2,rfl,rfl⟩,h3,h4⟩
 ·exact ⟨0,false,rfl,x,h1,.inr ⟨h2,rfl,rfl⟩,h3,h4⟩
end Go.Proofs.YtkdomobedfhhgaaGreat
end
section
namespace Go.Proofs
open Go.Shelf
def Tryz.lays264_ren:Go.Shelf.Ren:=⟨fun|264=>169|n=>n,fun|53=>34|46=>216|n=>n,fun|n=>n⟩
theorem Tryz.lays264:Go.Proofs.Lays.n264 Tryz.prog Tryz.lays264_ren:={
 mixed:=by kernel_rfl
 f264:=Tryz.func169.trans (congrArg some (by kernel_rfl))
 t46:=Tryz.underlying216
 a46:=Tryz.isAgg216
 z46:=Tryz.sizeOf216
 v46:=Tryz.zeroValue216
 t53:=Tryz.underlying34
 a53:=Tryz.isAgg34
 z53:=Tryz.sizeOf34
 v53:=Tryz.zeroValue34 }
open Go.RowKit Go.Lib in
theorem Tryz.bits_Mul64 (x y:Nat) (hx:x<18446744073709551616) (hy:y<18446744073709551616) (w:World):
  Calls Tryz.prog 169 #[.int .u64 x,.int .u64 y] w fun e w'=>e=.returned (.tuple #[.int .u64 ((x*y / 18446744073709551616:Nat):Int),.int .u64 ((x*y % 18446744073709551616:Nat):Int)])∧w'=w:=Any.bits_Mul64 Tryz.lays264 x y hx hy w
end Go.Proofs
end
section
namespace Go.Proofs.YtkdomobedfhhgaaGreat
open Go Go.Proofs Go.RowKit Go.Shelf Go.Proofs.YtkdomobedfhhgaaGreat.Hp Go.Proofs.YtkdomobedfhhgaaGreat.Ch
theorem owns_raw {W:World} {base D n:Nat} {E:TypeId} {xs:List Value} (h:W.ownsRow base E 1 (.slice (some ⟨D,0,none⟩) n n) n xs):W.heap[D]? =some (.cells xs.toArray E (0,0))∧base≤D∧xs.length=n:=by
 obtain ⟨h1,h2⟩:=h
 rcases h2 with ⟨e,_⟩|⟨g,cap,cur,e,hb,hg,h3,h4,h5,h6⟩
 ·cases e
 ·cases e
  rw [Nat.mul_one] at h1 h5 h6
  refine ⟨?_,hb,h1⟩
  rw [List.take_of_length_le (by simp [h5])] at h6
  rw [hg,←h6]
theorem raw_owns {W:World} {base D n:Nat} {E:TypeId} {xs:List Value} (hg:W.heap[D]? =some (.cells xs.toArray E (0,0))) (hb:base≤D) (hl:xs.length=n) (hn:n≤60000):W.ownsRow base E 1 (.slice (some ⟨D,0,none⟩) n n) n xs:=by
 refine ⟨by omega,.inr ⟨D,n,xs.toArray,rfl,hb,hg,Nat.le_refl _,by unfold maxLen;omega,by simp [hl],?_⟩⟩
 rw [Nat.mul_one,List.take_of_length_le (by simp [hl])]
theorem mul_any (m:Nat) (w:World) (hm:m≤60000):Calls Tryz.prog 132 #[.int .u64 1,.int .u64 (m:Int)] w fun e w'=>e=.returned (.tuple #[.int .u64 0,.int .u64 (m:Int)])∧w=w':=by
 have HM:=Lib.hid (Tryz.bits_Mul64 1 m (by omega) (by omega) w)
 rw [Nat.one_mul,Nat.div_eq_of_lt (by omega),Nat.mod_eq_of_lt (by omega)] at HM
 have HM2:Hid (Calls Tryz.prog 169 #[.int .u64 1,.int .u64 (m:Int)] w fun e w'=>e=.returned (.tuple #[.int .u64 0,.int .u64 (m:Int)])∧w'=w):=HM
 clear HM
 go_enter Tryz.func132,Tryz.ntmps132
 go_wp2_with (go_at_call 169;refine HM2.out.mono ?_;rintro e w1 ⟨rfl,e1⟩;subst e1)
 refine bodyPost_ret (v:=.tuple #[.int .u64 0,.int .u64 (m:Int)]) (by simp [results,Tryz.results132,go_sem];try rfl) rfl ?_
 exact ⟨rfl,rfl⟩
def fillV (v:Int) (m k:Nat):List Value:=(List.range m).map fun i=>if i<k then .int .u64 v else .int .u64 0
theorem fillV_len (v:Int) (m k:Nat):(fillV v m k).length=m:=by simp [fillV]
theorem fillV_get {v:Int} {m k i:Nat} (h:i<m) (hk:i<k):(fillV v m k)[i]? =some (.int .u64 v):=by
 unfold fillV
 rw [List.getElem?_map,List.getElem?_range h]
 simp [hk]
theorem fillV_zero (v:Int) (m:Nat):fillV v m 0=List.replicate m (.int .u64 0):=by
 unfold fillV
 apply List.ext_getElem<;>simp
theorem fillV_end (v:Int) (m:Nat):fillV v m m=(List.replicate m v).map encW:=by
 unfold fillV
 apply List.ext_getElem
 ·simp
 ·intro i h1 h2
  simp at h1
  simp [h1]
theorem fillV_splice {v:Int} {m k c:Nat} (h:k+c≤m):splice (fillV v m k) k (List.replicate c (.int .u64 v))=fillV v m (k+c):=by
 unfold splice
 apply List.ext_getElem?
 intro i
 rw [List.length_replicate]
 by_cases h1:i<k
 ·rw [List.getElem?_append_left (by rw [List.length_take,fillV_len];omega),List.getElem?_take_of_lt h1,fillV_get (by omega) h1,fillV_get (by omega) (by omega)]
 ·rw [List.getElem?_append_right (by rw [List.length_take,fillV_len];omega),List.length_take,fillV_len,Nat.min_eq_left (by omega)]
  by_cases h2:i<k+c
  ·rw [List.getElem?_append_left (by rw [List.length_replicate];omega),List.getElem?_replicate,if_pos (by omega),fillV_get (by omega) h2]
  ·rw [List.getElem?_append_right (by rw [List.length_replicate];omega),List.length_replicate,List.getElem?_drop]
   unfold fillV
   rw [List.getElem?_map,List.getElem?_map]
   have e:k+c+(i-k-c)=i:=by omega
   rw [e]
   by_cases h3:i<m
   ·rw [List.getElem?_range h3]
    simp [h1,h2]
   ·rw [List.getElem?_eq_none (by simpa using h3)]
    rfl
set_option maxRecDepth 100000 in
set_option maxHeartbeats 4000000 in
theorem repeat_any (bx ox xc m:Nat) (v:Int) (w:World) (hm:m≤60000) (hx:w.cell? ⟨bx,ox,none⟩=some (.int .u64 v)):
  Calls Tryz.prog 90 #[.slice (some ⟨bx,ox,none⟩) 1 xc,.int .i64 (m:Int)] w fun e w'=>e=.returned (.slice (some ⟨w.heap.size,0,none⟩) m m)∧
   w'.ownsRow w.heap.size 34 1 (.slice (some ⟨w.heap.size,0,none⟩) m m) m ((List.replicate m v).map encW)∧Below w.heap.size w w':=by
 have HM:=Lib.hid (fun W=>mul_any m W hm)
 have hbx:bx<w.heap.size:=World.block_lt_of_cell? _ _ hx
 have hm0:(0:Int)≤(m:Int):=by omega
 have hm1:(m:Int)≤60000:=by omega
 have HV:=Lib.hid hx
 clear hx
 go_enter Tryz.func90,Tryz.ntmps90
 go_upto_region 6 with (go_at_call 132;refine (HM.out _).mono ?_;rintro e w1 ⟨rfl,rfl⟩)
 go_upto_region 7 with (at_make;go_must ((with_reducible refine wpList_mk w.heap.size 34 _ 1 8 elem_u64 Tryz.underlying41 m ?_ ?_ ?_ ?_ ?_ ?_ ?_ ?_);rotate_left 4;(· rfl);(· rfl);(· exact ⟨by simp,by simp,by omega,by omega,by simp⟩);intro wm hown hbl hszm;(have Hmo:=Lib.hid hown;have Hmb:=Lib.hid hbl;clear hown hbl)))
 have hz0:(madeCells (Value.int .u64 0).cells (m*1)).toList=fillV v m 0:=by
  show (madeCells #[Value.int .u64 0] (m*1)).toList=_
  rw [Nat.mul_one,toList_madeCells_one,fillV_zero]
 obtain ⟨hraw,-,-⟩:=owns_raw (by have:=Hmo.out;rw [hz0] at this;exact this)
 have HRAW:=Lib.hid hraw
 have HBM:=Lib.hid Hmb.out
 clear Hmo Hmb hz0 hraw
 by_cases h0:m=0
 ·subst h0
  go_wp2_with (refine wpList_copy_nothing rfl (.tmp 31) (.tmp 32) 41 41 rfl 34 Tryz.underlying41 (by kernel_rfl) (some ⟨w.heap.size,0,none⟩) (some ⟨bx,ox,none⟩) 0 0 1 xc ?_ ?_ rfl ?_;(· rfl);(· rfl))
  refine wp_loop_rounds 1 ?_
  rw [rounds_succ]
  go_wp2
  go_ret
  exact ⟨rfl,raw_owns HRAW.out (Nat.le_refl _) (by simp) (by omega),HBM.out⟩
 ·have hpos:0<m:=by omega
  have HC1:=Lib.hid (show ∀j u,(List.replicate 1 (Value.int .u64 v))[j]? =some u→wm.cell? ((⟨bx,ox,none⟩:Addr).add j)=some u from fun j u hu=>by
   have hj:j=0:=by
    have h9:=(List.getElem?_eq_some_iff.1 hu).1
    simp at h9
    omega
   subst hj
   simp at hu
   subst hu
   exact cell_later HBM.out HV.out)
  have HF1:=Lib.hid (show 0+(List.replicate 1 (Value.int .u64 v)).length≤(fillV v m 0).length by rw [fillV_len];simp;omega)
  have HN1:=Lib.hid (show (List.replicate 1 (Value.int .u64 v)).length=Nat.min 1 m from (by show 1=min 1 m;omega))
  have HO1:=Lib.hid (show ∀u∈List.replicate 1 (Value.int .u64 v),u.oneCell'=true from fun u hu=>by rw [List.eq_of_mem_replicate hu];rfl)
  go_wp2_with (refine wpList_copy_splice rfl (.tmp 31) (.tmp 32) 41 41 rfl 34 Tryz.underlying41 (by kernel_rfl) (some ⟨w.heap.size,0,none⟩) (some ⟨bx,ox,none⟩) m m 1 xc ?_ ?_ w.heap.size 0 (fillV v m 0) 34 HRAW.out (List.replicate 1 (.int .u64 v)) HN1.out (fun _=>⟨rfl,_,rfl,HC1.out⟩) HF1.out HO1.out w.heap.size w HBM.out (Nat.le_refl _) ?_;(· rfl);(· rfl);intro w2 hg2 hb2;(have HG2:=hg2);(have HB2:=Lib.hid hb2);clear hb2)
  have HG3:=Lib.hid (by have:=HG2;rw [fillV_splice (k:=0) (c:=1) (by omega),Nat.zero_add] at this;exact this:w2.heap[w.heap.size]? =some (.cells (fillV v m 1).toArray 34 (0,0)))
  clear HG2 HRAW
  go_loopg [8] m (fun gg v8 wr=>∃k:Nat,1≤k∧k≤m∧m-k≤gg∧v8=.int .i64 k∧Aside (wr.heap[w.heap.size]? =some (.cells (fillV v m k).toArray 34 (0,0)))∧Aside (Below w.heap.size w wr))
  case atStart=>exact ⟨1,Nat.le_refl _,by omega,by omega,rfl,HG3.out,HB2.out⟩
  case round=>
   obtain ⟨k,hk1,hk,hgg,rfl,HG,HB⟩:=hrel
   by_cases hlt:k<m
   ·have hlt3:(k:Int)<(m:Int):=by omega
    have hk0:(0:Int)≤(k:Int):=by omega
    obtain ⟨c,hc⟩:∃c,c=min k (m-k):=⟨_,rfl⟩
    have HSP:=Lib.hid (fillV_splice (v:=v) (m:=m) (k:=k) (c:=c) (by omega))
    have hc1:1≤c:=by omega
    have hcm:k+c≤m:=by omega
    have hkm:(k:Int)+(c:Int)=((k+c:Nat):Int):=by omega
    have HCc:=Lib.hid (fun W5 (hz:Below wr.heap.size wr W5)=>show ∀j u,(List.replicate c (Value.int .u64 v))[j]? =some u→W5.cell? ((⟨w.heap.size,0,none⟩:Addr).add j)=some u from fun j u hu=>by
     have hj:j<c:=by
      have h9:=(List.getElem?_eq_some_iff.1 hu).1
      simpa using h9
     rw [List.getElem?_replicate,if_pos hj] at hu
     cases hu
     rw [Addr.add_lit,Nat.zero_add]
     have h8:=fillV_get (v:=v) (m:=m) (k:=k) (i:=j) (by omega) (by omega)
     have h7:=(raw_owns (base:=w.heap.size) (n:=m) HG.out (Nat.le_refl _) (fillV_len _ _ _) hm).cellAt j (by omega)
     exact cell_later hz (h7.trans h8))
    have HFc:=Lib.hid (show k+(List.replicate c (Value.int .u64 v)).length≤(fillV v m k).length by rw [fillV_len,List.length_replicate];exact hcm)
    have HNc:=Lib.hid (show (List.replicate c (Value.int .u64 v)).length=Nat.min k (m-k) by rw [List.length_replicate,hc])
    have HOc:=Lib.hid (show ∀u∈List.replicate c (Value.int .u64 v),u.oneCell'=true from fun u hu=>by rw [List.eq_of_mem_replicate hu];rfl)
    have hkm1:(k:Int)≤60000:=by omega
    have HGG:=Lib.hid hgg
    clear hc hgg
    go_upto_region 9 with (fail)
    refine wp_region_ext_tail1 6 (by kernel_rfl) (by kernel_rfl) (fun _ _ _ h=>h) ?_
    simp only [List.take_succ_cons,List.take_zero,List.drop_succ_cons,List.drop_zero,Act.put,Act.eval,List.setIfInBounds_toArray,List.set_cons_zero,List.set_cons_succ]
    repeat (go_big_quiet_step (fail))
    refine wpQuiet_nil ?_
    rintro _ ⟨p5,rfl⟩
    have HB5:=Lib.hid (below_ext wr p5)
    generalize ext wr p5=w5 at HB5 ⊢
    simp only [Array.getD_eq_getD_getElem?,List.getElem?_toArray,List.getElem?_cons_succ,List.getElem?_cons_zero,Option.getD_some]
    have HKM:=Lib.hid (And.intro hk1 (And.intro hcm hkm))
    have HG5:=Lib.hid (show w5.heap[w.heap.size]? =some (.cells (fillV v m k).toArray 34 (0,0)) from (HB5.out.block _ (by have:=(Array.getElem?_eq_some_iff.1 HG.out).1;exact this)).trans HG.out)
    have HC5:=Lib.hid (HCc.out w5 HB5.out)
    have HB55:=Lib.hid (HB.out.st HB5.out)
    have hkc:(k:Int)+(c:Int)≤60000:=by omega
    clear HCc hkm hk1 hk hlt hcm hkm1
    go_wp2_with (refine wpList_copy_splice rfl (.tmp 41) (.tmp 44) 41 41 rfl 34 Tryz.underlying41 (by kernel_rfl) (some ⟨w.heap.size,k,none⟩) (some ⟨w.heap.size,0,none⟩) (m-k) (m-k) k m ?_ ?_ w.heap.size k (fillV v m k) 34 HG5.out (List.replicate c (.int .u64 v)) HNc.out (fun _=>⟨rfl,_,rfl,HC5.out⟩) HFc.out HOc.out w.heap.size w HB55.out (Nat.le_refl _) ?_;(· rfl);(· rfl);intro w6 hg6 hb6;(have HG6:=hg6);(have HB6:=Lib.hid hb6);clear hb6;simp only [List.length_replicate])
    have HG7:=Lib.hid (by have:=HG6.out;rw [HSP.out] at this;exact this:w6.heap[w.heap.size]? =some (.cells (fillV v m (k+c)).toArray 34 (0,0)))
    obtain ⟨hk1,hcm,hkm⟩:=HKM.out
    go_roundg (m-(k+c))
    case measure=>(have:=HGG.out;omega)
    case rel=>exact ⟨k+c,by omega,HKM.out.2.1,Nat.le_refl _,by go_num,HG7.out,HB6.out⟩
   ·obtain rfl:m=k:=by omega
    go_wp2
    go_ret
    refine ⟨rfl,raw_owns (xs:=(List.replicate m v).map encW) ?_ (Nat.le_refl _) (by simp) (by omega),HB.out⟩
    have:=HG.out
    rwa [fillV_end] at this
end Go.Proofs.YtkdomobedfhhgaaGreat
end
section
namespace Go.Proofs.YtkdomobedfhhgaaGreat
open Go Go.Proofs Go.RowKit Go.Shelf Go.Proofs.YtkdomobedfhhgaaGreat.Hp Go.Proofs.YtkdomobedfhhgaaGreat.Ch
set_option maxHeartbeats 1000000 in
theorem Grow_any (n:Nat) (w:World) (hn:n≤1099511627776):
  Calls Tryz.prog 131 #[.slice none 0 0,.int .i64 n] w fun e w'=>∃ao cap,e=.returned (.slice ao 0 cap)∧w'.ownsRow w.heap.size 3 1 (.slice ao 0 cap) 0 []∧Below w.heap.size w w':=by
 by_cases h0:n=0
 ·subst h0
  go_enter Tryz.func131,Tryz.ntmps131
  go_wp2
  go_ret
  exact ⟨none,0,rfl,⟨rfl,.inl ⟨rfl,rfl⟩⟩,Below.refl _ _⟩
 ·have hE:=elem_int
  obtain ⟨hE,hz1,hz2⟩:=hE
  obtain ⟨i,hi,hz,hsz,hby⟩:=info_parts hE
  have hrz:=Lib.hid (fun ty=>Lib.run_append_nil_zeros w 25 3 ty 3 i _ .i64 .i64 Tryz.underlying25 Tryz.underlying3 hi hz n (by omega) (by omega) (by omega) (by rw [hby];omega))
  have hGn:n≤grownCap w n 0 3:=grownCap_ge w _ _ _
  have hG63:grownCap w n 0 3≤maxLen:=grownCap_le_maxLen w n 0 3 (by unfold maxLen;omega)
  generalize grownCap w n 0 3=G at*
  obtain ⟨W,hW⟩:∃W,W=w.drew.alloc (.cells (Builtin.zeroCells (Value.int .i64 0).cells n++Builtin.zeroCells (Value.int .i64 0).cells (G-n)) 3):=⟨_,rfl⟩
  rw [←hW] at hrz
  have HO:Aside (W.ownsRow w.heap.size 3 1 (.slice (some ⟨w.heap.size,0,none⟩) 0 G) 0 []):=by
   refine ⟨rfl,.inr ⟨w.heap.size,G,Builtin.zeroCells (Value.int .i64 0).cells n++Builtin.zeroCells (Value.int .i64 0).cells (G-n),rfl,Nat.le_refl _,?_,Nat.zero_le _,hG63,?_,?_⟩⟩
   ·rw [hW];exact (MapKept.heap_alloc w.drew _).1
   ·simp [size_zeroCells,Value.cells];omega
   ·simp
  have HB:Aside (Below w.heap.size w W):=by rw [hW];exact Below.al (Below.of_dr w 1) _
  clear hW hE hz1 hz2 hi hz hsz hby
  have hG9:(0:Int)≤(G:Int):=by omega
  have hc1:((n:Int)>0)=True:=by simp;omega
  have hc2:((n:Int)<0)=False:=by simp
  unfold maxLen at hG63
  go_enter Tryz.func131,Tryz.ntmps131
  go_wp2_with (at_builtin;refine Lib.wpList_append_run _ rfl _ _ _ _ rfl _ _ rfl rfl _ _ (hrz.out _) ?_)
  go_ret
  exact ⟨_,G,rfl,HO.out,HB.out⟩
set_option maxRecDepth 100000 in
set_option maxHeartbeats 1000000 in
theorem Concat2_any (bk:Nat) (ao bo:Option Addr) (ca cb cq:Nat) (la lb:List Int) (w:World) (hla:la.length≤1048576) (hlb:lb.length≤1048576)
  (h0:w.cell? ⟨bk,0,none⟩=some (.slice ao la.length ca)) (h1:w.cell? ⟨bk,1,none⟩=some (.slice bo lb.length cb)) (ha:Cel w ao (la.map encI)) (hb:Cel w bo (lb.map encI)):
  Calls Tryz.prog 89 #[.slice (some ⟨bk,0,none⟩) 2 cq] w fun e w'=>∃ao' cap',e=.returned (.slice ao' (la++lb).length cap')∧Cel w' ao' ((la++lb).map encI)∧Below w.heap.size w w'∧∀x,ao'=some x→w.heap.size≤x.block:=by
 have HA:=Lib.hid ha
 have HB:=Lib.hid hb
 have H0:=Lib.hid h0
 have H1:=Lib.hid h1
 clear ha hb
 have HG:=Lib.hid (fun W=>Grow_any (la.length+lb.length) W (by omega))
 go_enter Tryz.func89,Tryz.ntmps89
 go_wp2
 refine wp_loop_rounds 3 ?_
 rw [rounds_succ]
 go_wp2
 rw [rounds_succ]
 go_wp2
 rw [rounds_succ]
 go_wp2_with fail
 refine (HG.out _).mono ?_
 rintro e w1 ⟨a1,c1,rfl,ho1,hb1⟩
 have m0:=cell_later hb1 h0
 have m1:=cell_later hb1 h1
 have HO1:=Lib.hid ho1
 have HB1:=Lib.hid hb1
 clear ho1 hb1 h0 h1
 go_wp2
 refine wp_loop_rounds 3 ?_
 rw [rounds_succ]
 obtain ⟨a2,c2,w2,hr2,ho2,hb2⟩:=run_appAll (P:=Tryz.prog) 25 25 w.heap.size 3 _ 8 elem_int Tryz.underlying25 a1 0 c1 [] HO1.out ao la.length ca (la.map encI) (HA.out.go HB1.out) (fun u hu=>by obtain ⟨x,_,rfl⟩:=List.mem_map.1 hu;rfl) (by refine ⟨by simp,by omega,by omega,HB1.out.size⟩)
 simp only [Nat.zero_add,List.nil_append] at hr2 ho2
 have HB2:=Lib.hid (HB1.out.trans hb2)
 have n0:=cell_later HB2.out H0.out
 have n1:=cell_later HB2.out H1.out
 obtain ⟨a3,c3,w3,hr3,ho3,hb3⟩:=run_appAll (P:=Tryz.prog) 25 25 w.heap.size 3 _ 8 elem_int Tryz.underlying25 a2 la.length c2 (la.map encI) ho2 bo lb.length cb (lb.map encI) (HB.out.go HB2.out) (fun u hu=>by obtain ⟨x,_,rfl⟩:=List.mem_map.1 hu;rfl) (by refine ⟨by simp,by omega,by omega,HB2.out.size⟩)
 have HR2:=Lib.hid hr2
 have HR3:=Lib.hid hr3
 have HO3:=Lib.hid ho3
 have HB3:=Lib.hid (HB2.out.trans hb3)
 clear hr2 ho2 hb2 hr3 ho3 hb3
 go_wp2_with (at_builtin;refine Lib.wpList_append_run _ rfl _ _ _ _ rfl _ _ rfl rfl _ _ HR2.out ?_)
 rw [rounds_succ]
 go_wp2_with (at_builtin;refine Lib.wpList_append_run _ rfl _ _ _ _ rfl _ _ rfl rfl _ _ HR3.out ?_)
 rw [rounds_succ]
 go_wp2
 go_ret
 obtain ⟨ao3,cap3,e3,h3⟩:=Cel.of_owns HO3.out
 cases e3
 refine ⟨a3,c3,?_,by simpa using h3,HB3.out,?_⟩
 ·simp
 ·rintro x rfl
  rcases HO3.out.2 with ⟨e,_⟩|⟨g,cap',cur,e,hb,_⟩
  ·cases e
  ·cases e
   exact hb
end Go.Proofs.YtkdomobedfhhgaaGreat
end
section
namespace Go.Proofs.YtkdomobedfhhgaaGreat
open Go.Proofs Go.RowKit Go.Shelf
set_option maxRecDepth 100000 in
set_option maxHeartbeats 1000000 in
theorem Join_any (ao bo:Option Addr) (ca cb:Nat) (la lb:List Int) (wa wb:Int) (w:World) (hla:la.length≤1048576) (hlb:lb.length≤1048576)
  (ha:Cel w ao (la.map encI)) (hb:Cel w bo (lb.map encI)):
  Calls Tryz.prog 107 #[.agg #[.slice ao la.length ca,.int .u64 wa],.agg #[.slice bo lb.length cb,.int .u64 wb]] w fun e w'=>
   ∃ao' cap',e=.returned (.agg #[.slice ao' (la++lb).length cap',.int .u64 (IntKind.u64.wrap (wa+wb))])∧Cel w' ao' ((la++lb).map encI)∧Below w.heap.size w w'∧∀x,ao'=some x→w.heap.size≤x.block:=by
 have HA:=Lib.hid ha
 have HB:=Lib.hid hb
 clear ha hb
 have HC:=Lib.hid (fun bk cq W h0 h1 h2 h3=>Concat2_any bk ao bo ca cb cq la lb W hla hlb h0 h1 h2 h3)
 generalize (la++lb).length=n at*
 go_enter Tryz.func107,Tryz.ntmps107
 have d1:¬(w.heap.size+1+1=w.heap.size):=by omega
 have d2:¬(w.heap.size=w.heap.size+1+1):=by omega
 go_wp2
 go_region_held3 (fun w'=>w'.cell? ⟨w.heap.size,0,none⟩=some (.slice ao la.length ca)∧w'.cell? ⟨w.heap.size,1,none⟩=some (.int .u64 wa)∧w'.cell? ⟨w.heap.size+1,0,none⟩=some (.slice bo lb.length cb)∧w'.cell? ⟨w.heap.size+1,1,none⟩=some (.int .u64 wb)) (go_keep) (first
  |(go_at_call 89;refine (HC.out _ _ _ (by go_simp) (by go_simp) (HA.out.go (by repeat (first|exact Below.refl _ _|refine Below.al ?_ _|refine Below.dr ?_ _|refine Below.drew ?_|assumption|(refine Below.st ?_ (by assumption))))) (HB.out.go (by repeat (first|exact Below.refl _ _|refine Below.al ?_ _|refine Below.dr ?_ _|refine Below.drew ?_|assumption|(refine Below.st ?_ (by assumption)))))).mono ?_;rintro e w1 ⟨a1,c1,rfl,hc1,hb1,hn1⟩;have q0:=cell_later hb1 (a:=⟨w.heap.size,0,none⟩) (v:=.slice ao la.length ca) (by go_simp);have q1:=cell_later hb1 (a:=⟨w.heap.size,1,none⟩) (v:=.int .u64 wa) (by go_simp);have q2:=cell_later hb1 (a:=⟨w.heap.size+1,0,none⟩) (v:=.slice bo lb.length cb) (by go_simp);have q3:=cell_later hb1 (a:=⟨w.heap.size+1,1,none⟩) (v:=.int .u64 wb) (by go_simp);have q4:=cell_later hb1 (a:=⟨w.heap.size+1+1,0,none⟩) (v:=.slice none 0 0) (by go_simp);have q5:=cell_later hb1 (a:=⟨w.heap.size+1+1,1,none⟩) (v:=.int .u64 0) (by go_simp);have z4:w1.frozen? ⟨w.heap.size+1+1,0,none⟩=false:=(hb1.frozen (by simp)).trans (by go_simp);have z5:w1.frozen? ⟨w.heap.size+1+1,1,none⟩=false:=(hb1.frozen (by simp)).trans (by go_simp)))
 go_wp2
 have r0:((w1.setCell ⟨w.heap.size+1+1,0,none⟩ (.slice a1 n c1)).setCell ⟨w.heap.size+1+1,1,none⟩ (.int .u64 (IntKind.u64.wrap (wa+wb)))).cell? ⟨w.heap.size+1+1,0,none⟩=some (.slice a1 n c1):=by
  rw [World.cell?_setCell_other _ _ _ _ (by simp)];exact World.cell?_setCell_same _ _ _ q4
 have r1:((w1.setCell ⟨w.heap.size+1+1,0,none⟩ (.slice a1 n c1)).setCell ⟨w.heap.size+1+1,1,none⟩ (.int .u64 (IntKind.u64.wrap (wa+wb)))).cell? ⟨w.heap.size+1+1,1,none⟩=some (.int .u64 (IntKind.u64.wrap (wa+wb))):=
  World.cell?_setCell_same _ _ _ (u:=.int .u64 0) (by rw [World.cell?_setCell_other _ _ _ _ (by simp)];exact q5)
 have hb2:Below w.heap.size w w1:=by repeat (first|exact Below.refl _ _|refine Below.al ?_ _|refine Below.dr ?_ _|refine Below.drew ?_|assumption|(refine Below.st ?_ (by assumption)))
 have hs2:=hb1.size
 simp at hs2
 have hb3:Below w.heap.size w ((w1.setCell ⟨w.heap.size+1+1,0,none⟩ (.slice a1 n c1)).setCell ⟨w.heap.size+1+1,1,none⟩ (.int .u64 (IntKind.u64.wrap (wa+wb)))):=(hb2.setCell (by simp;omega) _).setCell (by simp;omega) _
 have hc3:Cel ((w1.setCell ⟨w.heap.size+1+1,0,none⟩ (.slice a1 n c1)).setCell ⟨w.heap.size+1+1,1,none⟩ (.int .u64 (IntKind.u64.wrap (wa+wb)))) a1 ((la++lb).map encI):=by
  intro i u hu
  obtain ⟨b,o,e,h⟩:=hc1 i u hu
  have:=hn1 _ e
  simp at this
  refine ⟨b,o,e,?_⟩
  rw [World.cell?_setCell_far _ _ _ _ (by simp;omega),World.cell?_setCell_far _ _ _ _ (by simp;omega)]
  exact h
 have HF:=Lib.hid (And.intro hc3 (And.intro hb3 (show ∀x,a1=some x→w.heap.size≤x.block from fun x hx=>by
  have:=hn1 _ hx
  simp at this
  omega)))
 clear hn1 q0 q1 q2 q3 q4 q5 z4 z5 hb1 hb2 hc1 hb3 hc3
 generalize (w1.setCell ⟨w.heap.size+1+1,0,none⟩ (.slice a1 n c1)).setCell ⟨w.heap.size+1+1,1,none⟩ (.int .u64 (IntKind.u64.wrap (wa+wb)))=W at*
 refine bodyPost_ret (by simp [results,Tryz.results107,go_sem,r0,r1];try rfl) rfl ?_
 exact ⟨a1,c1,rfl,HF.out.1,HF.out.2.1,HF.out.2.2⟩
end Go.Proofs.YtkdomobedfhhgaaGreat
end
section
namespace Go.Proofs.YtkdomobedfhhgaaGreat.Ro
open Go Go.Proofs Go.RowKit Go.Shelf Go.Proofs.YtkdomobedfhhgaaGreat Go.Proofs.YtkdomobedfhhgaaGreat.Hp Go.Proofs.YtkdomobedfhhgaaGreat.Ch Go.Proofs.YtkdomobedfhhgaaGreat.Ad
set_option maxRecDepth 100000 in
set_option maxHeartbeats 1000000 in
theorem hgraph_any (hb n:Nat) (es:List EdgeD) (R:List Int) (S:List SC) (O I:List (List Int)) (w:World) (h:HierM w hb n es R S O I):
  Calls Tryz.prog 104 #[.pointer (some ⟨hb,0,none⟩)] w (CGPost (n:Int) es w):=by
 obtain ⟨W,hW⟩:∃W,W=w.alloc (Obj.cells #[.int .i64 0,.slice none 0 0] 24):=⟨_,rfl⟩
 have hbw:Below w.heap.size w W:=by rw [hW];exact Below.of_al _ _
 have z:=And.intro (show W.cell? ⟨w.heap.size,0,none⟩=some (.int .i64 0) by rw [hW];go_simp) (And.intro (show W.cell? ⟨w.heap.size,1,none⟩=some (.slice none 0 0) by rw [hW];go_simp) (And.intro (show W.frozen? ⟨w.heap.size,0,none⟩=false by rw [hW];go_simp) (show W.frozen? ⟨w.heap.size,1,none⟩=false by rw [hW];go_simp)))
 have hlt:w.heap.size<W.heap.size:=by rw [hW];simp
 have c0:=cell_later hbw h.c0
 obtain ⟨a,c,c1,hc⟩:=h.c1
 have c1:=cell_later hbw c1
 have HCG:=Lib.hid (cloneG_any (n:Int) es a c W (hc.go hbw) h.small.2.2.1)
 have HB:=Lib.hid hbw
 have HW:=Lib.hid hW
 have HZ:=Lib.hid z
 have HLT:=Lib.hid hlt
 unfold CGPost at HCG ⊢
 unfold gV at HCG
 clear hW hbw hc z hlt h
 go_enter Tryz.func104,Tryz.ntmps104
 go_upto_region 1 with (fail)
 rw [←HW.out]
 go_wp2_with (go_at_call 97;refine HCG.out.mono ?_;rintro e w1 ⟨a1,k1,rfl,h1,h2,h3⟩;(have HC1:=Lib.hid h1);(have HB1:=Lib.hid h2);(have HF1:=Lib.hid h3);(have x0:=cell_later h2 HZ.out.1);(have x1:=cell_later h2 HZ.out.2.1);(have y0:=(h2.frozen (p:=⟨w.heap.size,0,none⟩) HLT.out).trans HZ.out.2.2.1);(have y1:=(h2.frozen (p:=⟨w.heap.size,1,none⟩) HLT.out).trans HZ.out.2.2.2);clear h1 h2 h3)
 have r0:((w1.setCell ⟨w.heap.size,0,none⟩ (.int .i64 (n:Int))).setCell ⟨w.heap.size,1,none⟩ (.slice a1 es.length k1)).cell? ⟨w.heap.size,0,none⟩=some (.int .i64 (n:Int)):=by
  rw [World.cell?_setCell_other _ _ _ _ (by simp)];exact World.cell?_setCell_same _ _ _ x0
 have r1:((w1.setCell ⟨w.heap.size,0,none⟩ (.int .i64 (n:Int))).setCell ⟨w.heap.size,1,none⟩ (.slice a1 es.length k1)).cell? ⟨w.heap.size,1,none⟩=some (.slice a1 es.length k1):=
  World.cell?_setCell_same (u:=.slice none 0 0) _ _ _ (by rw [World.cell?_setCell_other _ _ _ _ (by simp)];exact x1)
 refine bodyPost_ret (by simp [results,Tryz.results104,go_sem,r0,r1];try rfl) rfl ?_
 refine ⟨a1,k1,rfl,fun i u hu=>?_,((HB.out.st HB1.out).setCell (Nat.le_refl _) _).setCell (Nat.le_refl _) _,fun k hk=>by have:=HF1.out k hk;have:=HLT.out;omega⟩
 obtain ⟨b,o,e,h9⟩:=HC1.out i u hu
 have hb9:=HF1.out b (by rw [e];rfl)
 have:=HLT.out
 refine ⟨b,o,e,?_⟩
 rw [World.cell?_setCell_far _ _ _ _ (by simp;omega),World.cell?_setCell_far _ _ _ _ (by simp;omega)]
 exact h9
structure RtK where
 b4:Nat
 b6:Nat
 b15:Nat
 b16:Nat
 b17:Nat
 lo:Nat
 hi:Nat
 ab:Nat
 ob:Nat
 sb:Nat
 kb:Nat
def RtK.own (K:RtK) (k:Nat):Prop:=k=K.b4∨k=K.b6∨k=K.b15∨k=K.b16∨k=K.b17∨(K.lo≤k∧k<K.hi)∨k=K.ob∨k=K.sb∨k=K.kb
structure RtK.OK (K:RtK) (w0:World) (Z:Nat):Prop where
 ge:w0.heap.size≤K.b4
 s46:K.b4<K.b6
 s6:K.b6<K.lo
 lh:K.lo≤K.hi
 o15:K.hi≤K.b15
 o16:K.b15<K.b16
 o17:K.b16<K.b17
 oZ:K.b17<Z
 ob:K.ob≠K.b4∧K.ob≠K.b6∧K.ob<K.b15
 sb:K.sb≠K.b4∧K.sb≠K.b6∧K.sb<K.b15
 kb:K.hi≤K.kb∧K.kb<K.b15
 nk:K.kb≠K.ob∧K.kb≠K.sb
structure RtS (K:RtK) (w0 wr:World) (hb n t:Nat) (es:List EdgeD) (lb:List LB) (D:Int→Int) (s:Int) (Ds:List Nat) (Z:Nat) (v:Nat) (l:List Int) (la:Option Addr) (lc:Nat) (asked:List Int):Prop where
 c4:wr.cell? ⟨K.b4,0,none⟩=some (.int .i64 (v:Int))∧wr.frozen? ⟨K.b4,0,none⟩=false
 c6:wr.cell? ⟨K.b6,0,none⟩=some (.slice none 0 0)∧wr.cell? ⟨K.b6,1,none⟩=some (.int .u64 0)∧wr.frozen? ⟨K.b6,0,none⟩=false∧wr.frozen? ⟨K.b6,1,none⟩=false
 c15:wr.cell? ⟨K.b15,0,none⟩=some (.func (.func 25) #[.pointer (some ⟨K.ob,0,none⟩)] #[])
 c16:wr.cell? ⟨K.b16,0,none⟩=some (.slice la l.length lc)∧wr.cell? ⟨K.b16,1,none⟩=some (.int .u64 (D s-D (v:Int)))∧wr.frozen? ⟨K.b16,0,none⟩=false∧wr.frozen? ⟨K.b16,1,none⟩=false
 c17:wr.cell? ⟨K.b17,0,none⟩=some (.int .u64 (D (v:Int)))∧wr.frozen? ⟨K.b17,0,none⟩=false
 cl:Cel wr la (l.map encI)
 la:∀x,la=some x→Z≤x.block∧x.block∉Ds
 adj:AdjM wr K.lo K.hi K.ab n es
 orc:OrW wr K.ob hb K.sb K.kb n t (arcG es) lb asked
 ask:asked.Nodup∧∀x∈asked,nodeN n x
 mks:∀E∈Ds,wr.heap[E]? =some (.deferred (some []))∧Z≤E
 nod:Ds.Nodup
 bel:Below w0.heap.size w0 wr
 sz:Z≤wr.heap.size
 vn:v<n
 seg:Seg es D s l (v:Int)
 dlt:D (v:Int)≤D s∧D s≤1152921504606846976
 vis:∃vs:List Int,vs.length=l.length∧vs.Nodup∧∀x∈vs,nodeN n x∧D (v:Int)<D x
section
variable {K:RtK} {w0 wr wr':World} {hb n t:Nat} {es:List EdgeD} {lb:List LB} {D:Int→Int} {s:Int} {Ds:List Nat} {Z v:Nat} {l:List Int} {la:Option Addr} {lc:Nat} {asked:List Int}
theorem cell_kept {w w':World} {p:Addr} {u:Value} (hk:w'.heap[p.block]? =w.heap[p.block]?) (h:w.cell? p=some u):w'.cell? p=some u:=(World.cell?_of_block hk).trans h
theorem frz_kept {w w':World} {p:Addr} {b:Bool} (hk:w'.heap[p.block]? =w.heap[p.block]?) (h:w.frozen? p=b):w'.frozen? p=b:=(World.frozen?_of_block hk).trans h
theorem RtS.off {X:Nat→Prop} (h:RtS K w0 wr hb n t es lb D s Ds Z v l la lc asked) (hK:K.OK w0 Z) (ho:OffX X wr wr') (h1:∀k,X k→¬K.own k) (h2:∀x,la=some x→l≠[]→¬X x.block) (h3:∀E∈Ds,¬X E) (h4:∀k,X k→w0.heap.size≤k):RtS K w0 wr' hb n t es lb D s Ds Z v l la lc asked:=by
 have hlt:∀{p:Addr} {u:Value},wr.cell? p=some u→p.block<wr.heap.size:=fun hc=>World.block_lt_of_cell? _ _ hc
 have keep:∀k,K.own k→k<wr.heap.size→wr'.heap[k]? =wr.heap[k]?:=fun k hk hl=>ho.block k hl (fun e=>h1 k e hk)
 have l4:=hlt h.c4.1
 have l6:=hlt h.c6.1
 have l15:=hlt h.c15
 have l16:=hlt h.c16.1
 have l17:=hlt h.c17.1
 have k4:=keep K.b4 (.inl rfl) l4
 have k6:=keep K.b6 (.inr (.inl rfl)) l6
 have k15:=keep K.b15 (.inr (.inr (.inl rfl))) l15
 have k16:=keep K.b16 (.inr (.inr (.inr (.inl rfl)))) l16
 have k17:=keep K.b17 (.inr (.inr (.inr (.inr (.inl rfl))))) l17
 have hsz:=h.sz
 obtain ⟨o1,o2,o3⟩:=h.orc.lt
 refine ⟨⟨cell_kept k4 h.c4.1,frz_kept k4 h.c4.2⟩,⟨cell_kept k6 h.c6.1,cell_kept k6 h.c6.2.1,frz_kept k6 h.c6.2.2.1,frz_kept k6 h.c6.2.2.2⟩,cell_kept k15 h.c15,⟨cell_kept k16 h.c16.1,cell_kept k16 h.c16.2.1,frz_kept k16 h.c16.2.2.1,frz_kept k16 h.c16.2.2.2⟩,⟨cell_kept k17 h.c17.1,frz_kept k17 h.c17.2⟩,
  ?_,h.la,h.adj.kept (fun k a b=>keep k (.inr (.inr (.inr (.inr (.inr (.inl ⟨a,b⟩)))))) (by have:=hK.o15;have:=hK.o16;have:=hK.o17;have:=hK.oZ;omega)),h.orc.same ?_,h.ask,fun E hE=>?_,h.nod,h.bel.trans (ho.below h.bel.size h4),Nat.le_trans h.sz ho.size,h.vn,h.seg,h.dlt,h.vis⟩
 ·intro i u hu
  obtain ⟨b,o,e,h9⟩:=h.cl i u hu
  exact ⟨b,o,e,cell_kept (ho.block b (hlt h9) (h2 _ e (fun e9=>by rw [e9] at hu;simp at hu))) h9⟩
 ·rintro k (rfl|rfl|rfl)
  ·exact keep _ (.inr (.inr (.inr (.inr (.inr (.inr (.inl rfl))))))) o1
  ·exact keep _ (.inr (.inr (.inr (.inr (.inr (.inr (.inr (.inl rfl)))))))) o2
  ·exact keep _ (.inr (.inr (.inr (.inr (.inr (.inr (.inr (.inr rfl)))))))) o3
 ·obtain ⟨m1,m2⟩:=h.mks E hE
  exact ⟨(ho.block E (Array.getElem?_eq_some_iff.1 m1).1 (h3 E hE)).trans m1,m2⟩
theorem RtS.go (h:RtS K w0 wr hb n t es lb D s Ds Z v l la lc asked) (hK:K.OK w0 Z) (hz:Below wr.heap.size wr wr'):RtS K w0 wr' hb n t es lb D s Ds Z v l la lc asked:=
 h.off hK (X:=fun _=>False) (OffX.of_below hz) (fun _ h=>h.elim) (fun _ _ _ h=>h) (fun _ _ h=>h) (fun _ h=>h.elim)
theorem RtS.asks {asked':List Int} (h:RtS K w0 wr hb n t es lb D s Ds Z v l la lc asked) (hK:K.OK w0 Z) (ho:OffX (· =K.kb) wr wr') (hor:OrW wr' K.ob hb K.sb K.kb n t (arcG es) lb asked') (ha:asked'.Nodup∧∀x∈asked',nodeN n x):RtS K w0 wr' hb n t es lb D s Ds Z v l la lc asked':=by
 have hlt:∀{p:Addr} {u:Value},wr.cell? p=some u→p.block<wr.heap.size:=fun hc=>World.block_lt_of_cell? _ _ hc
 have l4:=hlt h.c4.1
 have l6:=hlt h.c6.1
 have l15:=hlt h.c15
 have l16:=hlt h.c16.1
 have l17:=hlt h.c17.1
 have f1:=hK.ge
 have f2:=hK.s46
 have f3:=hK.s6
 have f4:=hK.lh
 have f5:=hK.o15
 have f6:=hK.o16
 have f7:=hK.o17
 have f8:=hK.oZ
 have f9:=hK.kb
 have k4:=ho.block K.b4 l4 (fun e=>by omega)
 have k6:=ho.block K.b6 l6 (fun e=>by omega)
 have k15:=ho.block K.b15 l15 (fun e=>by omega)
 have k16:=ho.block K.b16 l16 (fun e=>by omega)
 have k17:=ho.block K.b17 l17 (fun e=>by omega)
 have hsz:=h.sz
 refine ⟨⟨cell_kept k4 h.c4.1,frz_kept k4 h.c4.2⟩,⟨cell_kept k6 h.c6.1,cell_kept k6 h.c6.2.1,frz_kept k6 h.c6.2.2.1,frz_kept k6 h.c6.2.2.2⟩,cell_kept k15 h.c15,⟨cell_kept k16 h.c16.1,cell_kept k16 h.c16.2.1,frz_kept k16 h.c16.2.2.1,frz_kept k16 h.c16.2.2.2⟩,⟨cell_kept k17 h.c17.1,frz_kept k17 h.c17.2⟩,
  ?_,h.la,h.adj.kept (fun k a b=>ho.block k (by omega) (fun e=>by omega)),hor,ha,fun E hE=>?_,h.nod,h.bel.trans (ho.below h.bel.size (fun k e=>by have e':k=K.kb:=e;omega)),Nat.le_trans h.sz ho.size,h.vn,h.seg,h.dlt,h.vis⟩
 ·intro i u hu
  obtain ⟨b,o,e,h9⟩:=h.cl i u hu
  have:=(h.la _ e).1
  exact ⟨b,o,e,cell_kept (ho.block b (hlt h9) (fun e'=>by have e2:b=K.kb:=e';simp only at this;omega)) h9⟩
 ·obtain ⟨m1,m2⟩:=h.mks E hE
  exact ⟨(ho.block E (Array.getElem?_eq_some_iff.1 m1).1 (fun e=>by have e2:E=K.kb:=e;omega)).trans m1,m2⟩
theorem RtS.next {v' i:Nat} {la':Option Addr} {lc':Nat} (h:RtS K w0 wr hb n t es lb D s Ds Z v l la lc asked) (hK:K.OK w0 Z) (hl:Cel wr la' ((l++[(i:Int)]).map encI)) (hla:∀x,la'=some x→Z≤x.block∧x.block∉Ds) (hv:v'<n) (hs:Seg es D s (l++[(i:Int)]) (v':Int)) (hd:D (v':Int)<D (v:Int)):
  RtS K w0 ((((wr.setCell ⟨K.b16,0,none⟩ (.slice la' (l++[(i:Int)]).length lc')).setCell ⟨K.b16,1,none⟩ (.int .u64 (D s-D (v':Int)))).setCell ⟨K.b4,0,none⟩ (.int .i64 (v':Int))).setCell ⟨K.b17,0,none⟩ (.int .u64 (D (v':Int)))) hb n t es lb D s Ds Z v' (l++[(i:Int)]) la' lc' asked:=by
 have f1:=hK.ge
 have f2:=hK.s46
 have f3:=hK.s6
 have f4:=hK.lh
 have f5:=hK.o15
 have f6:=hK.o16
 have f7:=hK.o17
 have f8:=hK.oZ
 have f9:=hK.kb
 have f10:=hK.ob
 have f11:=hK.sb
 have hsz:=h.sz
 obtain ⟨W5,hW5⟩:∃W5,W5=((((wr.setCell ⟨K.b16,0,none⟩ (.slice la' (l++[(i:Int)]).length lc')).setCell ⟨K.b16,1,none⟩ (.int .u64 (D s-D (v':Int)))).setCell ⟨K.b4,0,none⟩ (.int .i64 (v':Int))).setCell ⟨K.b17,0,none⟩ (.int .u64 (D (v':Int)))):=⟨_,rfl⟩
 rw [←hW5]
 have keep:∀k,k≠K.b16→k≠K.b4→k≠K.b17→W5.heap[k]? =wr.heap[k]?:=fun k h1 h2 h3=>by
  rw [hW5,Below.heap_setCell _ _ _ _ h3,Below.heap_setCell _ _ _ _ h2,Below.heap_setCell _ _ _ _ h1,Below.heap_setCell _ _ _ _ h1]
 have frz:∀p,W5.frozen? p=wr.frozen? p:=fun p=>by rw [hW5,World.frozen?_setCell,World.frozen?_setCell,World.frozen?_setCell,World.frozen?_setCell]
 have hb:Below w0.heap.size w0 W5:=by
  rw [hW5]
  exact (((h.bel.setCell (p:=⟨K.b16,0,none⟩) (by show w0.heap.size≤K.b16;omega) _).setCell (p:=⟨K.b16,1,none⟩) (by show w0.heap.size≤K.b16;omega) _).setCell (p:=⟨K.b4,0,none⟩) f1 _).setCell (p:=⟨K.b17,0,none⟩) (by show w0.heap.size≤K.b17;omega) _
 have hz:W5.heap.size=wr.heap.size:=by rw [hW5];simp [World.setCell]
 have k6:=keep K.b6 (by omega) (by omega) (by omega)
 have k15:=keep K.b15 (by omega) (by omega) (by omega)
 refine ⟨⟨?_,by rw [frz];exact h.c4.2⟩,⟨cell_kept k6 h.c6.1,cell_kept k6 h.c6.2.1,frz_kept k6 h.c6.2.2.1,frz_kept k6 h.c6.2.2.2⟩,cell_kept k15 h.c15,⟨?_,?_,by rw [frz];exact h.c16.2.2.1,by rw [frz];exact h.c16.2.2.2⟩,⟨?_,by rw [frz];exact h.c17.2⟩,
  ?_,hla,h.adj.kept (fun k a b=>keep k (by omega) (by omega) (by omega)),h.orc.same ?_,h.ask,fun E hE=>?_,h.nod,hb,by rw [hz];exact h.sz,hv,hs,⟨by have:=h.dlt.1;omega,h.dlt.2⟩,?_⟩
 ·rw [hW5,World.cell?_setCell_far _ _ _ _ (by show K.b17≠K.b4;omega)]
  exact World.cell?_setCell_same (u:=.int .i64 (v:Int)) _ _ _ (by rw [World.cell?_setCell_far _ _ _ _ (by show K.b16≠K.b4;omega),World.cell?_setCell_far _ _ _ _ (by show K.b16≠K.b4;omega)];exact h.c4.1)
 ·rw [hW5,World.cell?_setCell_far _ _ _ _ (by show K.b17≠K.b16;omega),World.cell?_setCell_far _ _ _ _ (by show K.b4≠K.b16;omega),World.cell?_setCell_other _ _ _ _ (by simp)]
  exact World.cell?_setCell_same _ _ _ h.c16.1
 ·rw [hW5,World.cell?_setCell_far _ _ _ _ (by show K.b17≠K.b16;omega),World.cell?_setCell_far _ _ _ _ (by show K.b4≠K.b16;omega)]
  exact World.cell?_setCell_same (u:=.int .u64 (D s-D (v:Int))) _ _ _ (by rw [World.cell?_setCell_other _ _ _ _ (by simp)];exact h.c16.2.1)
 ·rw [hW5]
  exact World.cell?_setCell_same (u:=.int .u64 (D (v:Int))) _ _ _ (by rw [World.cell?_setCell_far _ _ _ _ (by show K.b4≠K.b17;omega),World.cell?_setCell_far _ _ _ _ (by show K.b16≠K.b17;omega),World.cell?_setCell_far _ _ _ _ (by show K.b16≠K.b17;omega)];exact h.c17.1)
 ·intro j u hu
  obtain ⟨b,o,e,h9⟩:=hl j u hu
  have:=(hla _ e).1
  simp only at this
  exact ⟨b,o,e,cell_kept (keep b (by omega) (by omega) (by omega)) h9⟩
 ·rintro k (rfl|rfl|rfl)
  ·exact keep _ (by omega) (by omega) (by omega)
  ·exact keep _ (by omega) (by omega) (by omega)
  ·exact keep _ (by omega) (by omega) (by omega)
 ·obtain ⟨m1,m2⟩:=h.mks E hE
  exact ⟨(keep E (by omega) (by omega) (by omega)).trans m1,m2⟩
 ·obtain ⟨vs,e1,e2,e3⟩:=h.vis
  refine ⟨(v:Int)::vs,by simp [e1],List.nodup_cons.2 ⟨fun hm=>by have:=(e3 _ hm).2;omega,e2⟩,fun x hx=>?_⟩
  rcases List.mem_cons.1 hx with rfl|hx
  ·exact ⟨⟨by omega,by have:=h.vn;omega⟩,hd⟩
  ·have:=e3 x hx
   exact ⟨this.1,by omega⟩
theorem RtS.mark {E:Nat} (h:RtS K w0 wr hb n t es lb D s Ds Z v l la lc asked) (hE:wr.heap[E]? =some (.deferred (some []))) (hZ:Z≤E) (hn:E∉Ds) (hla:∀x,la=some x→x.block≠E):RtS K w0 wr hb n t es lb D s (E::Ds) Z v l la lc asked:=
 ⟨h.c4,h.c6,h.c15,h.c16,h.c17,h.cl,fun x hx=>⟨(h.la x hx).1,fun hm=>by
  rcases List.mem_cons.1 hm with e|e
  ·exact hla x hx e
  ·exact (h.la x hx).2 e⟩,h.adj,h.orc,h.ask,fun F hF=>by
  rcases List.mem_cons.1 hF with rfl|e
  ·exact ⟨hE,hZ⟩
  ·exact h.mks F e,List.nodup_cons.2 ⟨hn,h.nod⟩,h.bel,h.sz,h.vn,h.seg,h.dlt,h.vis⟩
end
end Go.Proofs.YtkdomobedfhhgaaGreat.Ro
end
