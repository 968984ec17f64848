/- Walk of package query: an oracle. Walk of the law QueryOracles. Walks: two rows, one behind the other, by the reference; a route behind another. Walk: unpack.Route: the memory at the head of its loop. -/
import Derived.Test.YteaaapdjplbljaaGreatProg
import Derived.Test.YteaaapdjplbljaaGreatLw36
import Derived.Test.YteaaapdjplbljaaGreatLw37
import Derived.Maps.Views
import Derived.Test.YteaaapdjplbljaaGreatLw33
import Derived.Test.YteaaapdjplbljaaGreatLw38
import Derived.Test.YteaaapdjplbljaaGreatLw40
import Derived.Test.YteaaapdjplbljaaGreatLw30
set_option linter.unusedVariables false
set_option linter.unusedSimpArgs false
set_option linter.unnecessarySimpa false
section
namespace Go.Proofs.YteaaapdjplbljaaGreat
open Go Go.Proofs Go.RowKit Go.Shelf Go.Proofs.YteaaapdjplbljaaGreat.Hp Go.Proofs.YteaaapdjplbljaaGreat.Ch
def MapC (w:World) (b n:Nat) (f:Int→Option Int):Prop:=
 ∃D:DataW Unit,w.ownsMap Tryz.prog 3 (plainElem Tryz.prog 37) b n D∧(∀u,In6 u→Maps.has D (i64K u)=(f u).isSome∧D.atKey (i64K u) (.lit (.int .u64 0))=.lit (.int .u64 ((f u).getD 0)))∧Maps.size D=n
section
variable {w w':World} {b n:Nat} {f:Int→Option Int}
theorem MapC.toW (h:MapC w b n f):MapW w b n f:=let ⟨D,k,q,_⟩:=h;⟨D,k,q⟩
theorem MapC.eq (h:MapC w b n f) (he:w'.heap[b]? =w.heap[b]?):MapC w' b n f:=by
 obtain ⟨D,⟨es,clock,hb,r⟩,q⟩:=h
 exact ⟨D,⟨es,clock,he.trans hb,r⟩,q⟩
theorem MapC.go (h:MapC w b n f) (hb:Below w.heap.size w w'):MapC w' b n f:=h.eq (hb.block b h.toW.lt)
theorem MapC.off {X:Nat→Prop} (h:MapC w b n f) (ho:OffX X w w') (hn:¬X b):MapC w' b n f:=h.eq (ho.block b h.toW.lt hn)
theorem MapC.new (w:World):MapC (w.alloc (.map #[] 0)) w.heap.size 0 (fun _=>none):=
 ⟨.map [],World.ownsMap_made w _ _ _,fun u _=>⟨rfl,rfl⟩,rfl⟩
theorem MapC.len (h:MapC w b n f) (ty:TypeId):(Builtin.len_ #[148] ty #[.map (some b)]).run Tryz.prog w=.ok (.int .i64 (n:Int)) w:=by
 obtain ⟨D,k,q,hs⟩:=h
 have:=k.len mp_under ty
 rw [hs] at this
 exact this
theorem MapC.put (h:MapC w b n f) (hn:n<1000000000000000000) {u x:Int} (hu:In6 u) (hx:0≤x∧x≤18446744073709551615) (hf:f u=none):
  ∃w',(Instr.mapUpdate 148 (.map (some b)) (.int .i64 u) (.int .u64 x)).run Tryz.prog w=.ok () w'∧MapC w' b (n+1) (updM f u x)∧OffX (· =b) w w':=by
 obtain ⟨D,k,q,hs⟩:=h
 obtain ⟨w',h1,h2,h3⟩:=k.store (H:=Unit) mp_keyed mp_under (by unfold maxLen;omega) (key:=.int .i64 u) (val:=.int .u64 x) (kl:=i64K u) (d:=.lit (.int .u64 x)) (ps:=[]) (Maps.keyOf_int_mk Tryz.underlying3 (in6_wf hu)) (plainElem_int Tryz.underlying37 (u64_wf hx))
 have hg:=h3.grown
 refine ⟨w',h1,⟨_,h2,fun v hv=>?_,?_⟩,⟨hg.os,hg.tape,hg.output,hg.size,fun j hj hjb=>hg.block j hj (fun e=>hjb (Option.some.inj e))⟩⟩
 ·obtain ⟨q1,q2⟩:=q v hv
  unfold updM
  by_cases e:v=u
  ·subst e
   rw [if_pos rfl,Maps.has_put_same k.isMap (k:=i64K v) trivial,Maps.atKey_put_same k.isMap (k:=i64K v) trivial]
   exact ⟨rfl,rfl⟩
  ·rw [if_neg e,Maps.has_put_other (fun h=>e (by cases h;rfl)),Maps.atKey_put_other (fun h=>e (by cases h;rfl))]
   exact ⟨q1,q2⟩
 ·rw [Maps.size_put (k.tidy mp_keyed),(q u hu).1,hf,hs]
  rfl
end
structure OrW (w:World) (ob hb sb kb n t:Nat) (A:Int→Int→Int→Prop) (lb:List LB) (asked:List Int):Prop where
 c0:w.cell? ⟨ob,0,none⟩=some (.pointer (some ⟨hb,0,none⟩))
 c1:w.cell? ⟨ob,1,none⟩=some (.map (some sb))
 c2:w.cell? ⟨ob,2,none⟩=some (.map (some kb))
 sp:MapW w sb lb.length (byF lb)
 kn:∃f,MapC w kb asked.length f∧(∀u,(f u).isSome=true↔u∈asked)∧∀u x,f u=some x→FarV A u t x
 ne:kb≠ob∧kb≠sb
theorem OrW.go {w w':World} {ob hb sb kb n t:Nat} {A:Int→Int→Int→Prop} {lb:List LB} {asked:List Int} (h:OrW w ob hb sb kb n t A lb asked) (hz:Below w.heap.size w w'):OrW w' ob hb sb kb n t A lb asked:=by
 obtain ⟨f,k1,k2,k3⟩:=h.kn
 exact ⟨cell_later hz h.c0,cell_later hz h.c1,cell_later hz h.c2,h.sp.go hz,⟨f,k1.go hz,k2,k3⟩,h.ne⟩
def ToSp (es:List EdgeD) (S:List SC) (ro:List Int) (t n:Nat) (lb:List LB):Prop:=Space (relB true (arcG es)) (XN S true) (rk ro) (t:Int) (lb.map labOf)∧lb.length≤n
theorem near_far {es:List EdgeD} {n:Nat} {R:List Int} {S:List SC} {ro:List Int} {s t:Nat} {la lb:List LB} (hok:HierOK es n R S ro) (hn:n≤12) (hs:s<n) (ht:t<n) (ha:Space (relB false (arcG es)) (XN S false) (rk ro) (s:Int) (la.map labOf)) (hb:Space (relB true (arcG es)) (XN S true) (rk ro) (t:Int) (lb.map labOf)):
  FarV (arcG es) (s:Int) (t:Int) (nearF (byF lb) la):=by
 have h3:=(nearF_spec (byF lb) la).2.2
 rcases near_dist hok hn hs ht ha hb with ⟨h1,h2⟩|⟨h1,h2⟩
 ·rcases h2 with ⟨h,_⟩|⟨_,_,_,_,h⟩|⟨h,_⟩
  ·cases h
  ·exact .inr ⟨by unfold FAR;omega,h⟩
  ·cases h
 ·rcases h2 with ⟨_,_,_,h,h4⟩|⟨h,_⟩|⟨h,_⟩
  ·exact .inl ⟨h,h.1.nonneg (hok.hierB false).pos,h4⟩
  ·cases h
  ·cases h
set_option maxRecDepth 100000 in
set_option maxHeartbeats 2000000 in
theorem qfind_any (ob hb sb kb n t s:Nat) (es:List EdgeD) (R:List Int) (S:List SC) (ro:List Int) (lb:List LB) (asked:List Int) (w:World) (h:OrW w ob hb sb kb n t (arcG es) lb asked) (hh:BH w hb n es R S ro) (hlb:ToSp es S ro t n lb) (hs:s<n) (ht:t<n):
  Calls Tryz.prog 176 #[.pointer (some ⟨ob,0,none⟩),.int .i64 (s:Int)] w fun e w'=>(∃x,e=.returned (.int .u64 x)∧FarV (arcG es) (s:Int) (t:Int) x)∧Below w.heap.size w w':=by
 have c0:=h.c0
 have c1:=h.c1
 have HSP:=Lib.hid h.sp
 have HOK:=Lib.hid hh.ok
 have HLE:=Lib.hid hh.le
 have HSA:=Lib.hid (space_any hb n es R S ro s false w hh.mem hh.ok hh.le hs)
 have hpw:lb.Pairwise (fun a b=>a.v≠b.v):=by
  have h9:=hlb.1.once
  rw [List.pairwise_map] at h9
  exact h9
 have hlbs:=labsOK hh.ok hlb.1 ht hh.le
 have HF:=Lib.hid (fun (u x:Int) (hy:byF lb u=some x)=>show 0≤x∧x≤1152921504606846976 by
  obtain ⟨z,hz,_,rfl⟩:=(byF_spec lb hpw _ _).1 hy
  have:=hlbs z hz
  exact ⟨by omega,by omega⟩)
 have HLB:=Lib.hid hlb
 unfold SpacePost at HSA
 clear h hh hlb hpw hlbs
 go_enter Tryz.func176,Tryz.ntmps176
 go_upto_region 2 with (go_at_call 123;refine HSA.out.mono ?_;rintro e w1 ⟨ao,ca,la,rfl,h1,h2,h3,h4,h5⟩;(have H1:=Lib.hid h2);(have HC:=Lib.hid h1);(have HS:=Lib.hid (And.intro h3 h4));(have d1:=cell_later h2 c1);clear h1 h2 h3 h4 h5)
 have hla:=labsOK HOK.out HS.out.1 hs HLE.out
 have HL:=Lib.hid (least_any la (byF lb) ao ca sb lb.length w1 HC.out (HSP.out.go H1.out) (by have:=HS.out.2;have:=HLE.out;omega) (fun x hx=>⟨in6_of (hla x hx).1 HLE.out,(hla x hx).2.1,by have:=(hla x hx).2.2;omega⟩) HF.out)
 have HN:=Lib.hid (near_far HOK.out HLE.out hs ht HS.out.1 HLB.out.1)
 generalize nearF (byF lb) la=x at*
 clear hla
 go_wp2_with (go_at_call 142;refine HL.out.mono ?_;rintro e w2 ⟨rfl,hb2⟩;(have H2:=Lib.hid hb2);clear hb2)
 refine bodyPost_ret (v:=.int .u64 x) (by simp [results,Tryz.results176,go_sem];try rfl) rfl ?_
 exact ⟨⟨x,rfl,HN.out⟩,H1.out.st H2.out⟩
def FromPost (w:World) (ob hb sb kb n t:Nat) (A:Int→Int→Int→Prop) (lb:List LB) (asked:List Int) (s:Int) (e:Ending) (w':World):Prop:=
 ∃x,FarV A s t x∧((x<4611686018427387904∧e=.returned (.tuple #[.int .u64 x,.bool true]))∨(4611686018427387904≤x∧e=.returned (.tuple #[.int .u64 0,.bool false])))∧
  OrW w' ob hb sb kb n t A lb (if s∈asked then asked else asked++[s])∧OffX (· =kb) w w'
theorem offX_below {X:Nat→Prop} {w w1 w2:World} (hb:Below w.heap.size w w1) (ho:OffX X w1 w2):OffX X w w2:=(OffX.of_below hb).trans ho
set_option maxRecDepth 100000 in
set_option maxHeartbeats 2000000 in
theorem from_any (ob hb sb kb n t s:Nat) (es:List EdgeD) (R:List Int) (S:List SC) (ro:List Int) (lb:List LB) (asked:List Int) (w:World) (h:OrW w ob hb sb kb n t (arcG es) lb asked) (hh:BH w hb n es R S ro) (hlb:ToSp es S ro t n lb) (hs:s<n) (ht:t<n) (hask:asked.length≤1000000):
  Calls Tryz.prog 115 #[.pointer (some ⟨ob,0,none⟩),.int .i64 (s:Int)] w (FromPost w ob hb sb kb n t (arcG es) lb asked s):=by
 have hmf:∀(fn:Fn) (first cap:Array Value) (w:World),(Instr.makeFunc fn first cap).run Tryz.prog w=.ok (.func fn first cap) w:=fun _ _ _ _=>rfl
 have HFI:=Lib.hid (qfind_any ob hb sb kb n t s es R S ro lb asked w h hh hlb hs ht)
 have HN:=Lib.hid (nodes_any hb n es R S _ _ w hh.mem)
 have c0:=h.c0
 have c2:=h.c2
 have hn12:=hh.le
 have hs0:(0:Int)≤(s:Int):=by omega
 have hs1:(s:Int)<(n:Int):=by omega
 have i6:In6 (s:Int):=⟨by omega,by omega⟩
 obtain ⟨f,k1,k2,k3⟩:=h.kn
 have HO:=Lib.hid h
 have HK:=Lib.hid (And.intro k1 (And.intro k2 k3))
 have lk:=k1.toW.look i6
 clear h hh hlb k1 k2 k3
 cases hf:f (s:Int) with
 |some x=>
  have HX:=Lib.hid (HK.out.2.2 _ _ hf)
  have HM:=Lib.hid (show (s:Int)∈asked from (HK.out.2.1 _).1 (by rw [hf];rfl))
  rw [hf] at lk
  simp only [Option.isSome,Option.getD] at lk
  clear hf i6
  by_cases hx:x<4611686018427387904
  ·have hng:¬4611686018427387904≤x:=by omega
   go_enter Tryz.func115,Tryz.ntmps115
   go_wp2_with (go_at_call 175;refine HN.out.mono ?_;rintro e w1 ⟨rfl,rfl⟩)
   refine bodyPost_ret (v:=.tuple #[.int .u64 x,.bool true]) (by simp [results,Tryz.results115,go_sem];try rfl) rfl ?_
   unfold FromPost
   exact ⟨x,HX.out,.inl ⟨hx,rfl⟩,by rw [if_pos HM.out];exact HO.out,.refl _ _⟩
  ·have hge:4611686018427387904≤x:=by omega
   go_enter Tryz.func115,Tryz.ntmps115
   go_wp2_with (go_at_call 175;refine HN.out.mono ?_;rintro e w1 ⟨rfl,rfl⟩)
   refine bodyPost_ret (v:=.tuple #[.int .u64 0,.bool false]) (by simp [results,Tryz.results115,go_sem];try rfl) rfl ?_
   unfold FromPost
   exact ⟨x,HX.out,.inr ⟨hge,rfl⟩,by rw [if_pos HM.out];exact HO.out,.refl _ _⟩
 |none=>
  have HM:=Lib.hid (show (s:Int)∉asked from fun k=>by have h9:=(HK.out.2.1 _).2 k;rw [hf] at h9;cases h9)
  have HF:=Lib.hid hf
  have I6:=Lib.hid i6
  rw [hf] at lk
  simp only [Option.isSome,Option.getD] at lk
  clear hf i6
  go_enter Tryz.func115,Tryz.ntmps115
  go_upto_region 7 with (first
   |(go_at_call 175;refine HN.out.mono ?_;rintro e w1 ⟨rfl,rfl⟩)
   |(go_at_call 176;refine HFI.out.mono ?_;rintro e w1 ⟨⟨x,rfl,hx⟩,hb1⟩;(have HX:=Lib.hid hx);(have HB1:=Lib.hid hb1);clear hx hb1))
  have d0:=cell_later HB1.out c0
  have d2:=cell_later HB1.out c2
  have hx0:=HX.out.in
  obtain ⟨w2,hup,hm2,ho2⟩:=(HK.out.1.go HB1.out).put (by omega) I6.out (u:=(s:Int)) (x:=x) ⟨hx0.1,by omega⟩ HF.out
  have HO1:=HO.out.go HB1.out
  have HOR:=Lib.hid (show OrW w2 ob hb sb kb n t (arcG es) lb (if (s:Int)∈asked then asked else asked++[(s:Int)]) from by
   rw [if_neg HM.out]
   refine ⟨ho2.cell HO1.c0 (fun e=>HO1.ne.1 e.symm),ho2.cell HO1.c1 (fun e=>HO1.ne.1 e.symm),ho2.cell HO1.c2 (fun e=>HO1.ne.1 e.symm),HO1.sp.off ho2 (fun e=>HO1.ne.2 e.symm),⟨_,by rw [List.length_append];exact hm2,?_,?_⟩,HO1.ne⟩
   ·intro u
    unfold updM
    rw [List.mem_append,List.mem_singleton]
    by_cases e:u=(s:Int)
    ·rw [if_pos e];simp [e]
    ·rw [if_neg e];simp only [e,or_false];exact HK.out.2.1 u
   ·intro u y
    unfold updM
    by_cases e:u=(s:Int)
    ·rw [if_pos e]
     intro h
     cases h
     rw [e]
     exact HX.out
    ·rw [if_neg e];exact HK.out.2.2 u y)
  have HOF:=Lib.hid (offX_below HB1.out ho2)
  clear hm2 ho2 HO1
  by_cases hx:x<4611686018427387904
  ·have hng:¬4611686018427387904≤x:=by omega
   go_wp2
   refine bodyPost_ret (v:=.tuple #[.int .u64 x,.bool true]) (by simp [results,Tryz.results115,go_sem];try rfl) rfl ?_
   unfold FromPost
   exact ⟨x,HX.out,.inl ⟨hx,rfl⟩,HOR.out,HOF.out⟩
  ·have hge:4611686018427387904≤x:=by omega
   go_wp2
   refine bodyPost_ret (v:=.tuple #[.int .u64 0,.bool false]) (by simp [results,Tryz.results115,go_sem];try rfl) rfl ?_
   unfold FromPost
   exact ⟨x,HX.out,.inr ⟨hge,rfl⟩,HOR.out,HOF.out⟩
def ToPost (es:List EdgeD) (S:List SC) (ro:List Int) (hb n t:Nat) (w:World) (e:Ending) (w':World):Prop:=
 ∃(ob sb kb:Nat) (lb:List LB),e=.returned (.tuple #[.pointer (some ⟨ob,0,none⟩),.int .i64 0])∧OrW w' ob hb sb kb n t (arcG es) lb []∧ToSp es S ro t n lb∧Below w.heap.size w w'∧w.heap.size≤kb∧kb<w'.heap.size
set_option maxRecDepth 100000 in
set_option maxHeartbeats 2000000 in
theorem to_any (hb n t:Nat) (es:List EdgeD) (R:List Int) (S:List SC) (ro:List Int) (w:World) (h:BH w hb n es R S ro) (ht:t<n):
  Calls Tryz.prog 114 #[.pointer (some ⟨hb,0,none⟩),.int .i64 (t:Int)] w (ToPost es S ro hb n t w):=by
 have hmm:=@run_makeMap Tryz.prog
 have HSA:=Lib.hid (space_any hb n es R S ro t true w h.mem h.ok h.le ht)
 have HOK:=Lib.hid h.ok
 have HLE:=Lib.hid h.le
 unfold SpacePost at HSA
 unfold ToPost
 clear h
 go_enter Tryz.func114,Tryz.ntmps114
 go_upto_region 4 with (go_at_call 123;refine HSA.out.mono ?_;rintro e w1 ⟨ao,ca,lb,rfl,h1,h2,h3,h4,h5⟩;(have H1:=Lib.hid h2);(have HC:=Lib.hid h1);(have HS:=Lib.hid (And.intro h3 h4));clear h1 h2 h3 h4 h5)
 have hlb:=labsOK HOK.out HS.out.1 ht HLE.out
 have HBY:=Lib.hid (byNode_any lb ao ca w1 HC.out (by have:=HS.out.2;have:=HLE.out;omega) (fun x hx=>⟨in6_of (hlb x hx).1 HLE.out,(hlb x hx).2.1,by have:=(hlb x hx).2.2;omega⟩))
 unfold ByPost at HBY
 clear hlb
 go_wp2_with (go_at_call 143;refine HBY.out.mono ?_;rintro e w2 ⟨b,rfl,m1,m2,m3⟩;(have HM:=Lib.hid (And.intro m1 (And.intro m2 m3)));clear m1 m2 m3)
 refine bodyPost_ret (v:=.tuple #[.pointer (some ⟨w2.heap.size+1,0,none⟩),.int .i64 0]) (by simp [results,Tryz.results114,go_sem];try rfl) rfl ?_
 obtain ⟨m1,m2,m3⟩:=HM.out
 have hb2:Below w2.heap.size w2 (w2.alloc (.map #[] 0)):=Below.of_al _ _
 have hsz1:=H1.out.size
 have hsz2:=m3.size
 have hlt:=m1.lt
 refine ⟨_,b,w2.heap.size,lb,rfl,⟨by go_simp,by go_simp,by go_simp,(m1.go hb2).go (Below.of_al _ _),⟨fun _=>none,(MapC.new w2).go (Below.of_al _ _),by simp,by simp⟩,⟨by omega,by omega⟩⟩,HS.out,((H1.out.st m3).al _).al _,by omega,by simp;omega⟩
end Go.Proofs.YteaaapdjplbljaaGreat
end
section
namespace Go.Proofs.YteaaapdjplbljaaGreat
open Go Go.Proofs Go.RowKit Go.Shelf Go.Proofs.YteaaapdjplbljaaGreat.Hp Go.Proofs.YteaaapdjplbljaaGreat.Ch
theorem OrW.same {w w':World} {ob hb sb kb n t:Nat} {A:Int→Int→Int→Prop} {lb:List LB} {asked:List Int} (h:OrW w ob hb sb kb n t A lb asked) (hk:∀k,k=ob∨k=sb∨k=kb→w'.heap[k]? =w.heap[k]?):OrW w' ob hb sb kb n t A lb asked:=by
 obtain ⟨f,k1,k2,k3⟩:=h.kn
 exact ⟨(World.cell?_of_block (hk ob (.inl rfl))).trans h.c0,(World.cell?_of_block (hk ob (.inl rfl))).trans h.c1,(World.cell?_of_block (hk ob (.inl rfl))).trans h.c2,h.sp.eq (hk sb (.inr (.inl rfl))),⟨f,k1.eq (hk kb (.inr (.inr rfl))),k2,k3⟩,h.ne⟩
theorem OrW.lt {w:World} {ob hb sb kb n t:Nat} {A:Int→Int→Int→Prop} {lb:List LB} {asked:List Int} (h:OrW w ob hb sb kb n t A lb asked):ob<w.heap.size∧sb<w.heap.size∧kb<w.heap.size:=by
 obtain ⟨f,k1,_⟩:=h.kn
 exact ⟨World.block_lt_of_cell? _ _ h.c0,h.sp.lt,k1.toW.lt⟩
section
variable {W2 wr wr':World} {ob hb sb kb n t:Nat} {es:List EdgeD} {lb:List LB} {fb:Nat} {dd:List Int} {B:Nat} {asked asked':List Int}
end
theorem FromPost.val {w w':World} {ob hb sb kb n t:Nat} {A:Int→Int→Int→Prop} {lb:List LB} {asked:List Int} {s:Int} {e:Ending} (h:FromPost w ob hb sb kb n t A lb asked s e w'):
  ∃(d:Int) (b:Bool),e=.returned (.tuple #[.int .u64 d,.bool b])∧∃x,FarV A s t x∧((x<4611686018427387904∧d=x∧b=true)∨(4611686018427387904≤x∧d=0∧b=false))∧OrW w' ob hb sb kb n t A lb (if s∈asked then asked else asked++[s])∧OffX (· =kb) w w':=by
 obtain ⟨x,h1,h2,h3,h4⟩:=h
 rcases h2 with ⟨h2,rfl⟩|⟨h2,rfl⟩
 ·exact ⟨x,true,rfl,x,h1,.inl ⟨h2,rfl,rfl⟩,h3,h4⟩
 ·exact ⟨0,false,rfl,x,h1,.inr ⟨h2,rfl,rfl⟩,h3,h4⟩
end Go.Proofs.YteaaapdjplbljaaGreat
end
section
namespace Go.Proofs.YteaaapdjplbljaaGreat
open Go.Proofs Go.RowKit Go.Shelf
set_option maxRecDepth 100000 in
set_option maxHeartbeats 1000000 in
theorem Join_any (ao bo:Option Addr) (ca cb:Nat) (la lb:List Int) (wa wb:Int) (w:World) (hla:la.length≤1048576) (hlb:lb.length≤1048576)
  (ha:Cel w ao (la.map encI)) (hb:Cel w bo (lb.map encI)):
  Calls Tryz.prog 62 #[.agg #[.slice ao la.length ca,.int .u64 wa],.agg #[.slice bo lb.length cb,.int .u64 wb]] w fun e w'=>
   ∃ao' cap',e=.returned (.agg #[.slice ao' (la++lb).length cap',.int .u64 (IntKind.u64.wrap (wa+wb))])∧Cel w' ao' ((la++lb).map encI)∧Below w.heap.size w w'∧∀x,ao'=some x→w.heap.size≤x.block:=by
 have HA:=Lib.hid ha
 have HB:=Lib.hid hb
 clear ha hb
 have HC:=Lib.hid (fun bk cq W h0 h1 h2 h3=>Concat2_any bk ao bo ca cb cq la lb W hla hlb h0 h1 h2 h3)
 generalize (la++lb).length=n at*
 go_enter Tryz.func62,Tryz.ntmps62
 have d1:¬(w.heap.size+1+1=w.heap.size):=by omega
 have d2:¬(w.heap.size=w.heap.size+1+1):=by omega
 go_wp2
 go_region_held3 (fun w'=>w'.cell? ⟨w.heap.size,0,none⟩=some (.slice ao la.length ca)∧w'.cell? ⟨w.heap.size,1,none⟩=some (.int .u64 wa)∧w'.cell? ⟨w.heap.size+1,0,none⟩=some (.slice bo lb.length cb)∧w'.cell? ⟨w.heap.size+1,1,none⟩=some (.int .u64 wb)) (go_keep) (first
  |(go_at_call 117;refine (HC.out _ _ _ (by go_simp) (by go_simp) (HA.out.go (by repeat (first|exact Below.refl _ _|refine Below.al ?_ _|refine Below.dr ?_ _|refine Below.drew ?_|assumption|(refine Below.st ?_ (by assumption))))) (HB.out.go (by repeat (first|exact Below.refl _ _|refine Below.al ?_ _|refine Below.dr ?_ _|refine Below.drew ?_|assumption|(refine Below.st ?_ (by assumption)))))).mono ?_;rintro e w1 ⟨a1,c1,rfl,hc1,hb1,hn1⟩;have q0:=cell_later hb1 (a:=⟨w.heap.size,0,none⟩) (v:=.slice ao la.length ca) (by go_simp);have q1:=cell_later hb1 (a:=⟨w.heap.size,1,none⟩) (v:=.int .u64 wa) (by go_simp);have q2:=cell_later hb1 (a:=⟨w.heap.size+1,0,none⟩) (v:=.slice bo lb.length cb) (by go_simp);have q3:=cell_later hb1 (a:=⟨w.heap.size+1,1,none⟩) (v:=.int .u64 wb) (by go_simp);have q4:=cell_later hb1 (a:=⟨w.heap.size+1+1,0,none⟩) (v:=.slice none 0 0) (by go_simp);have q5:=cell_later hb1 (a:=⟨w.heap.size+1+1,1,none⟩) (v:=.int .u64 0) (by go_simp);have z4:w1.frozen? ⟨w.heap.size+1+1,0,none⟩=false:=(hb1.frozen (by simp)).trans (by go_simp);have z5:w1.frozen? ⟨w.heap.size+1+1,1,none⟩=false:=(hb1.frozen (by simp)).trans (by go_simp)))
 go_wp2
 have r0:((w1.setCell ⟨w.heap.size+1+1,0,none⟩ (.slice a1 n c1)).setCell ⟨w.heap.size+1+1,1,none⟩ (.int .u64 (IntKind.u64.wrap (wa+wb)))).cell? ⟨w.heap.size+1+1,0,none⟩=some (.slice a1 n c1):=by
  rw [World.cell?_setCell_other _ _ _ _ (by simp)];exact World.cell?_setCell_same _ _ _ q4
 have r1:((w1.setCell ⟨w.heap.size+1+1,0,none⟩ (.slice a1 n c1)).setCell ⟨w.heap.size+1+1,1,none⟩ (.int .u64 (IntKind.u64.wrap (wa+wb)))).cell? ⟨w.heap.size+1+1,1,none⟩=some (.int .u64 (IntKind.u64.wrap (wa+wb))):=
  World.cell?_setCell_same _ _ _ (u:=.int .u64 0) (by rw [World.cell?_setCell_other _ _ _ _ (by simp)];exact q5)
 have hb2:Below w.heap.size w w1:=by repeat (first|exact Below.refl _ _|refine Below.al ?_ _|refine Below.dr ?_ _|refine Below.drew ?_|assumption|(refine Below.st ?_ (by assumption)))
 have hs2:=hb1.size
 simp at hs2
 have hb3:Below w.heap.size w ((w1.setCell ⟨w.heap.size+1+1,0,none⟩ (.slice a1 n c1)).setCell ⟨w.heap.size+1+1,1,none⟩ (.int .u64 (IntKind.u64.wrap (wa+wb)))):=(hb2.setCell (by simp;omega) _).setCell (by simp;omega) _
 have hc3:Cel ((w1.setCell ⟨w.heap.size+1+1,0,none⟩ (.slice a1 n c1)).setCell ⟨w.heap.size+1+1,1,none⟩ (.int .u64 (IntKind.u64.wrap (wa+wb)))) a1 ((la++lb).map encI):=by
  intro i u hu
  obtain ⟨b,o,e,h⟩:=hc1 i u hu
  have:=hn1 _ e
  simp at this
  refine ⟨b,o,e,?_⟩
  rw [World.cell?_setCell_far _ _ _ _ (by simp;omega),World.cell?_setCell_far _ _ _ _ (by simp;omega)]
  exact h
 have HF:=Lib.hid (And.intro hc3 (And.intro hb3 (show ∀x,a1=some x→w.heap.size≤x.block from fun x hx=>by
  have:=hn1 _ hx
  simp at this
  omega)))
 clear hn1 q0 q1 q2 q3 q4 q5 z4 z5 hb1 hb2 hc1 hb3 hc3
 generalize (w1.setCell ⟨w.heap.size+1+1,0,none⟩ (.slice a1 n c1)).setCell ⟨w.heap.size+1+1,1,none⟩ (.int .u64 (IntKind.u64.wrap (wa+wb)))=W at*
 refine bodyPost_ret (by simp [results,Tryz.results62,go_sem,r0,r1];try rfl) rfl ?_
 exact ⟨a1,c1,rfl,HF.out.1,HF.out.2.1,HF.out.2.2⟩
theorem take_succ_map {α β:Type} (f:α→β) (l:List α) (k:Nat) (h:k<l.length):(l.take k).map f++[f l[k]]=(l.take (k+1)).map f:=by
 rw [List.take_succ_eq_append_getElem h,List.map_append];rfl
set_option maxRecDepth 100000 in
set_option maxHeartbeats 1000000 in
theorem refJoin_any (ao bo:Option Addr) (ca cb:Nat) (la lb:List Int) (w:World) (hla:la.length≤1048576) (hlb:lb.length≤1048576)
  (ha:Cel w ao (la.map encI)) (hb:Cel w bo (lb.map encI)):
  Calls Tryz.prog 23 #[.slice ao la.length ca,.slice bo lb.length cb] w fun e w'=>
   ∃ao' cap',e=.returned (.slice ao' (la++lb).length cap')∧Cel w' ao' ((la++lb).map encI)∧Below w.heap.size w w':=by
 have HA:=Lib.hid ha
 have HB:=Lib.hid hb
 clear ha hb
 go_enter Tryz.func23,Tryz.ntmps23
 go_wp2
 go_loopg [5,6] la.length (fun gg v i wr=>∃(k cap':Nat) (ao':Option Addr),k≤la.length∧la.length-k≤gg∧i=.int .i64 k∧v=.slice ao' k cap'∧w.heap.size≤wr.heap.size∧
  Aside (wr.ownsRow w.heap.size 3 1 (.slice ao' k cap') k ((la.take k).map encI)∧Below w.heap.size w wr))
 case atStart=>exact ⟨0,0,none,Nat.zero_le _,by omega,rfl,rfl,Nat.le_refl _,⟨rfl,.inl ⟨rfl,rfl⟩⟩,Below.refl _ _⟩
 case round=>
  obtain ⟨k,cap',ao',hk,hg,rfl,rfl,hsz,HO⟩:=hrel
  by_cases hlt:k<la.length
  ·obtain ⟨b,o,hao,f1⟩:=(HA.out.go HO.out.2).at hlt
   have hx:=Lib.hid (take_succ_map encI la k hlt)
   generalize la[k]=x at*
   have i0:(k:Int)<(la.length:Int):=by omega
   have k0:(0:Int)≤(k:Int):=by omega
   subst hao
   go_wp2_with (at_builtin;go_must ((with_reducible refine wpList_app w.heap.size 3 _ 1 8 elem_int Tryz.underlying25 (.slice ao' k cap') k _ ⟨wr.heap.size,0,none⟩ 1 1 ?_ ?_ ?_ (World.ownsRow.alloc HO.out.1 _) ?_ ?_ ?_ ?_);rotate_left 1;(· rfl);(· rfl);(· exact cell_one_new _ _ _);(· exact one_cells rfl);(· exact ⟨rfl,by decide,by omega,by omega,by simp;omega⟩);intro g1 cap1 w1 hown hgrow hbl hat hlt1;(have H1o:=Lib.hid hown;have H1b:=Lib.hid hbl;have H1g:=Lib.hid (And.intro hgrow hat);clear hown hgrow hbl hat)))
   go_roundg (la.length-(k+1))
   case measure=>omega
   case rel=>
    refine ⟨k+1,cap1,some ⟨g1,0,none⟩,by omega,by omega,by go_num,rfl,by have:=H1b.out.size;simp at this;omega,⟨?_,HO.out.2.trans ((Below.alloc (Below.refl _ _) hsz _).trans H1b.out)⟩⟩
    rw [←hx.out]
    exact H1o.out
  ·obtain rfl:k=la.length:=by omega
   have HO1:=Lib.hid (by have:=HO.out;rw [List.take_length] at this;exact this:wr.ownsRow w.heap.size 3 1 (.slice ao' la.length cap') la.length (la.map encI)∧Below w.heap.size w wr)
   clear HO hk hlt hg
   generalize wr=w1 at*
   go_wp2
   go_loopg [5,7] lb.length (fun gg v i wr=>∃(k cap':Nat) (ao':Option Addr),k≤lb.length∧lb.length-k≤gg∧i=.int .i64 k∧v=.slice ao' (la.length+k) cap'∧w.heap.size≤wr.heap.size∧
    Aside (wr.ownsRow w.heap.size 3 1 (.slice ao' (la.length+k) cap') (la.length+k) (la.map encI++(lb.take k).map encI)∧Below w.heap.size w wr))
   case atStart=>exact ⟨0,cap',ao',Nat.zero_le _,by omega,rfl,rfl,hsz,by simpa using HO1.out.1,HO1.out.2⟩
   case round=>
    clear HO1 hsz
    obtain ⟨k,cap',ao',hk,hg,rfl,rfl,hsz,HO⟩:=hrel
    by_cases hlt:k<lb.length
    ·obtain ⟨b,o,hao,f1⟩:=(HB.out.go HO.out.2).at hlt
     have hx:=Lib.hid (take_succ_map encI lb k hlt)
     generalize lb[k]=x at*
     have i0:(k:Int)<(lb.length:Int):=by omega
     have k0:(0:Int)≤(k:Int):=by omega
     subst hao
     go_wp2_with (at_builtin;go_must ((with_reducible refine wpList_app w.heap.size 3 _ 1 8 elem_int Tryz.underlying25 (.slice ao' (la.length+k) cap') (la.length+k) _ ⟨wr.heap.size,0,none⟩ 1 1 ?_ ?_ ?_ (World.ownsRow.alloc HO.out.1 _) ?_ ?_ ?_ ?_);rotate_left 1;(· rfl);(· rfl);(· exact cell_one_new _ _ _);(· exact one_cells rfl);(· exact ⟨rfl,by decide,by omega,by omega,by simp;omega⟩);intro g1 cap1 w1 hown hgrow hbl hat hlt1;(have H1o:=Lib.hid hown;have H1b:=Lib.hid hbl;have H1g:=Lib.hid (And.intro hgrow hat);clear hown hgrow hbl hat)))
     go_roundg (lb.length-(k+1))
     case measure=>omega
     case rel=>
      refine ⟨k+1,cap1,some ⟨g1,0,none⟩,by omega,by omega,by go_num,rfl,by have:=H1b.out.size;simp at this;omega,⟨?_,HO.out.2.trans ((Below.alloc (Below.refl _ _) hsz _).trans H1b.out)⟩⟩
      rw [←hx.out,←List.append_assoc]
      exact H1o.out
    ·obtain rfl:k=lb.length:=by omega
     go_wp2
     go_ret
     obtain ⟨ao3,cap3,e3,h3⟩:=Cel.of_owns HO.out.1
     cases e3
     rw [List.take_length] at h3
     exact ⟨ao',cap',by rw [List.length_append];rfl,by rw [List.map_append];exact h3,HO.out.2⟩
end Go.Proofs.YteaaapdjplbljaaGreat
end
section
namespace Go.Proofs.YteaaapdjplbljaaGreat.Ro
open Go Go.Proofs Go.RowKit Go.Shelf Go.Proofs.YteaaapdjplbljaaGreat Go.Proofs.YteaaapdjplbljaaGreat.Hp Go.Proofs.YteaaapdjplbljaaGreat.Ch Go.Proofs.YteaaapdjplbljaaGreat.Ad
set_option maxRecDepth 100000 in
set_option maxHeartbeats 1000000 in
theorem hgraph_any (hb n:Nat) (es:List EdgeD) (R:List Int) (S:List SC) (O I:List (List Int)) (w:World) (h:HierM w hb n es R S O I):
  Calls Tryz.prog 89 #[.pointer (some ⟨hb,0,none⟩)] w (CGPost (n:Int) es w):=by
 obtain ⟨W,hW⟩:∃W,W=w.alloc (Obj.cells #[.int .i64 0,.slice none 0 0] 24):=⟨_,rfl⟩
 have hbw:Below w.heap.size w W:=by rw [hW];exact Below.of_al _ _
 have z:=And.intro (show W.cell? ⟨w.heap.size,0,none⟩=some (.int .i64 0) by rw [hW];go_simp) (And.intro (show W.cell? ⟨w.heap.size,1,none⟩=some (.slice none 0 0) by rw [hW];go_simp) (And.intro (show W.frozen? ⟨w.heap.size,0,none⟩=false by rw [hW];go_simp) (show W.frozen? ⟨w.heap.size,1,none⟩=false by rw [hW];go_simp)))
 have hlt:w.heap.size<W.heap.size:=by rw [hW];simp
 have c0:=cell_later hbw h.c0
 obtain ⟨a,c,c1,hc⟩:=h.c1
 have c1:=cell_later hbw c1
 have HCG:=Lib.hid (cloneG_any (n:Int) es a c W (hc.go hbw) h.small.2.2.1)
 have HB:=Lib.hid hbw
 have HW:=Lib.hid hW
 have HZ:=Lib.hid z
 have HLT:=Lib.hid hlt
 unfold CGPost at HCG ⊢
 unfold gV at HCG
 clear hW hbw hc z hlt h
 go_enter Tryz.func89,Tryz.ntmps89
 go_upto_region 1 with (fail)
 rw [←HW.out]
 go_wp2_with (go_at_call 112;refine HCG.out.mono ?_;rintro e w1 ⟨a1,k1,rfl,h1,h2,h3⟩;(have HC1:=Lib.hid h1);(have HB1:=Lib.hid h2);(have HF1:=Lib.hid h3);(have x0:=cell_later h2 HZ.out.1);(have x1:=cell_later h2 HZ.out.2.1);(have y0:=(h2.frozen (p:=⟨w.heap.size,0,none⟩) HLT.out).trans HZ.out.2.2.1);(have y1:=(h2.frozen (p:=⟨w.heap.size,1,none⟩) HLT.out).trans HZ.out.2.2.2);clear h1 h2 h3)
 have r0:((w1.setCell ⟨w.heap.size,0,none⟩ (.int .i64 (n:Int))).setCell ⟨w.heap.size,1,none⟩ (.slice a1 es.length k1)).cell? ⟨w.heap.size,0,none⟩=some (.int .i64 (n:Int)):=by
  rw [World.cell?_setCell_other _ _ _ _ (by simp)];exact World.cell?_setCell_same _ _ _ x0
 have r1:((w1.setCell ⟨w.heap.size,0,none⟩ (.int .i64 (n:Int))).setCell ⟨w.heap.size,1,none⟩ (.slice a1 es.length k1)).cell? ⟨w.heap.size,1,none⟩=some (.slice a1 es.length k1):=
  World.cell?_setCell_same (u:=.slice none 0 0) _ _ _ (by rw [World.cell?_setCell_other _ _ _ _ (by simp)];exact x1)
 refine bodyPost_ret (by simp [results,Tryz.results89,go_sem,r0,r1];try rfl) rfl ?_
 refine ⟨a1,k1,rfl,fun i u hu=>?_,((HB.out.st HB1.out).setCell (Nat.le_refl _) _).setCell (Nat.le_refl _) _,fun k hk=>by have:=HF1.out k hk;have:=HLT.out;omega⟩
 obtain ⟨b,o,e,h9⟩:=HC1.out i u hu
 have hb9:=HF1.out b (by rw [e];rfl)
 have:=HLT.out
 refine ⟨b,o,e,?_⟩
 rw [World.cell?_setCell_far _ _ _ _ (by simp;omega),World.cell?_setCell_far _ _ _ _ (by simp;omega)]
 exact h9
structure RtK where
 b4:Nat
 b6:Nat
 b15:Nat
 b16:Nat
 b17:Nat
 lo:Nat
 hi:Nat
 ab:Nat
 ob:Nat
 sb:Nat
 kb:Nat
def RtK.own (K:RtK) (k:Nat):Prop:=k=K.b4∨k=K.b6∨k=K.b15∨k=K.b16∨k=K.b17∨(K.lo≤k∧k<K.hi)∨k=K.ob∨k=K.sb∨k=K.kb
structure RtK.OK (K:RtK) (w0:World) (Z:Nat):Prop where
 ge:w0.heap.size≤K.b4
 s46:K.b4<K.b6
 s6:K.b6<K.lo
 lh:K.lo≤K.hi
 o15:K.hi≤K.b15
 o16:K.b15<K.b16
 o17:K.b16<K.b17
 oZ:K.b17<Z
 ob:K.ob≠K.b4∧K.ob≠K.b6∧K.ob<K.b15
 sb:K.sb≠K.b4∧K.sb≠K.b6∧K.sb<K.b15
 kb:K.hi≤K.kb∧K.kb<K.b15
 nk:K.kb≠K.ob∧K.kb≠K.sb
structure RtS (K:RtK) (w0 wr:World) (hb n t:Nat) (es:List EdgeD) (lb:List LB) (D:Int→Int) (s:Int) (Ds:List Nat) (Z:Nat) (v:Nat) (l:List Int) (la:Option Addr) (lc:Nat) (asked:List Int):Prop where
 c4:wr.cell? ⟨K.b4,0,none⟩=some (.int .i64 (v:Int))∧wr.frozen? ⟨K.b4,0,none⟩=false
 c6:wr.cell? ⟨K.b6,0,none⟩=some (.slice none 0 0)∧wr.cell? ⟨K.b6,1,none⟩=some (.int .u64 0)∧wr.frozen? ⟨K.b6,0,none⟩=false∧wr.frozen? ⟨K.b6,1,none⟩=false
 c15:wr.cell? ⟨K.b15,0,none⟩=some (.func (.func 115) #[.pointer (some ⟨K.ob,0,none⟩)] #[])
 c16:wr.cell? ⟨K.b16,0,none⟩=some (.slice la l.length lc)∧wr.cell? ⟨K.b16,1,none⟩=some (.int .u64 (D s-D (v:Int)))∧wr.frozen? ⟨K.b16,0,none⟩=false∧wr.frozen? ⟨K.b16,1,none⟩=false
 c17:wr.cell? ⟨K.b17,0,none⟩=some (.int .u64 (D (v:Int)))∧wr.frozen? ⟨K.b17,0,none⟩=false
 cl:Cel wr la (l.map encI)
 la:∀x,la=some x→Z≤x.block∧x.block∉Ds
 adj:AdjM wr K.lo K.hi K.ab n es
 orc:OrW wr K.ob hb K.sb K.kb n t (arcG es) lb asked
 ask:asked.Nodup∧∀x∈asked,nodeN n x
 mks:∀E∈Ds,wr.heap[E]? =some (.deferred (some []))∧Z≤E
 nod:Ds.Nodup
 bel:Below w0.heap.size w0 wr
 sz:Z≤wr.heap.size
 vn:v<n
 seg:Seg es D s l (v:Int)
 dlt:D (v:Int)≤D s∧D s≤1152921504606846976
 vis:∃vs:List Int,vs.length=l.length∧vs.Nodup∧∀x∈vs,nodeN n x∧D (v:Int)<D x
section
variable {K:RtK} {w0 wr wr':World} {hb n t:Nat} {es:List EdgeD} {lb:List LB} {D:Int→Int} {s:Int} {Ds:List Nat} {Z v:Nat} {l:List Int} {la:Option Addr} {lc:Nat} {asked:List Int}
theorem cell_kept {w w':World} {p:Addr} {u:Value} (hk:w'.heap[p.block]? =w.heap[p.block]?) (h:w.cell? p=some u):w'.cell? p=some u:=(World.cell?_of_block hk).trans h
theorem frz_kept {w w':World} {p:Addr} {b:Bool} (hk:w'.heap[p.block]? =w.heap[p.block]?) (h:w.frozen? p=b):w'.frozen? p=b:=(World.frozen?_of_block hk).trans h
theorem RtS.off {X:Nat→Prop} (h:RtS K w0 wr hb n t es lb D s Ds Z v l la lc asked) (hK:K.OK w0 Z) (ho:OffX X wr wr') (h1:∀k,X k→¬K.own k) (h2:∀x,la=some x→l≠[]→¬X x.block) (h3:∀E∈Ds,¬X E) (h4:∀k,X k→w0.heap.size≤k):RtS K w0 wr' hb n t es lb D s Ds Z v l la lc asked:=by
 have hlt:∀{p:Addr} {u:Value},wr.cell? p=some u→p.block<wr.heap.size:=fun hc=>World.block_lt_of_cell? _ _ hc
 have keep:∀k,K.own k→k<wr.heap.size→wr'.heap[k]? =wr.heap[k]?:=fun k hk hl=>ho.block k hl (fun e=>h1 k e hk)
 have l4:=hlt h.c4.1
 have l6:=hlt h.c6.1
 have l15:=hlt h.c15
 have l16:=hlt h.c16.1
 have l17:=hlt h.c17.1
 have k4:=keep K.b4 (.inl rfl) l4
 have k6:=keep K.b6 (.inr (.inl rfl)) l6
 have k15:=keep K.b15 (.inr (.inr (.inl rfl))) l15
 have k16:=keep K.b16 (.inr (.inr (.inr (.inl rfl)))) l16
 have k17:=keep K.b17 (.inr (.inr (.inr (.inr (.inl rfl))))) l17
 have hsz:=h.sz
 obtain ⟨o1,o2,o3⟩:=h.orc.lt
 refine ⟨⟨cell_kept k4 h.c4.1,frz_kept k4 h.c4.2⟩,⟨cell_kept k6 h.c6.1,cell_kept k6 h.c6.2.1,frz_kept k6 h.c6.2.2.1,frz_kept k6 h.c6.2.2.2⟩,cell_kept k15 h.c15,⟨cell_kept k16 h.c16.1,cell_kept k16 h.c16.2.1,frz_kept k16 h.c16.2.2.1,frz_kept k16 h.c16.2.2.2⟩,⟨cell_kept k17 h.c17.1,frz_kept k17 h.c17.2⟩,
  ?_,h.la,h.adj.kept (fun k a b=>keep k (.inr (.inr (.inr (.inr (.inr (.inl ⟨a,b⟩)))))) (by have:=hK.o15;have:=hK.o16;have:=hK.o17;have:=hK.oZ;omega)),h.orc.same ?_,h.ask,fun E hE=>?_,h.nod,h.bel.trans (ho.below h.bel.size h4),Nat.le_trans h.sz ho.size,h.vn,h.seg,h.dlt,h.vis⟩
 ·intro i u hu
  obtain ⟨b,o,e,h9⟩:=h.cl i u hu
  exact ⟨b,o,e,cell_kept (ho.block b (hlt h9) (h2 _ e (fun e9=>by rw [e9] at hu;simp at hu))) h9⟩
 ·rintro k (rfl|rfl|rfl)
  ·exact keep _ (.inr (.inr (.inr (.inr (.inr (.inr (.inl rfl))))))) o1
  ·exact keep _ (.inr (.inr (.inr (.inr (.inr (.inr (.inr (.inl rfl)))))))) o2
  ·exact keep _ (.inr (.inr (.inr (.inr (.inr (.inr (.inr (.inr rfl)))))))) o3
 ·obtain ⟨m1,m2⟩:=h.mks E hE
  exact ⟨(ho.block E (Array.getElem?_eq_some_iff.1 m1).1 (h3 E hE)).trans m1,m2⟩
theorem RtS.go (h:RtS K w0 wr hb n t es lb D s Ds Z v l la lc asked) (hK:K.OK w0 Z) (hz:Below wr.heap.size wr wr'):RtS K w0 wr' hb n t es lb D s Ds Z v l la lc asked:=
 h.off hK (X:=fun _=>False) (OffX.of_below hz) (fun _ h=>h.elim) (fun _ _ _ h=>h) (fun _ _ h=>h) (fun _ h=>h.elim)
theorem RtS.asks {asked':List Int} (h:RtS K w0 wr hb n t es lb D s Ds Z v l la lc asked) (hK:K.OK w0 Z) (ho:OffX (· =K.kb) wr wr') (hor:OrW wr' K.ob hb K.sb K.kb n t (arcG es) lb asked') (ha:asked'.Nodup∧∀x∈asked',nodeN n x):RtS K w0 wr' hb n t es lb D s Ds Z v l la lc asked':=by
 have hlt:∀{p:Addr} {u:Value},wr.cell? p=some u→p.block<wr.heap.size:=fun hc=>World.block_lt_of_cell? _ _ hc
 have l4:=hlt h.c4.1
 have l6:=hlt h.c6.1
 have l15:=hlt h.c15
 have l16:=hlt h.c16.1
 have l17:=hlt h.c17.1
 have f1:=hK.ge
 have f2:=hK.s46
 have f3:=hK.s6
 have f4:=hK.lh
 have f5:=hK.o15
 have f6:=hK.o16
 have f7:=hK.o17
 have f8:=hK.oZ
 have f9:=hK.kb
 have k4:=ho.block K.b4 l4 (fun e=>by omega)
 have k6:=ho.block K.b6 l6 (fun e=>by omega)
 have k15:=ho.block K.b15 l15 (fun e=>by omega)
 have k16:=ho.block K.b16 l16 (fun e=>by omega)
 have k17:=ho.block K.b17 l17 (fun e=>by omega)
 have hsz:=h.sz
 refine ⟨⟨cell_kept k4 h.c4.1,frz_kept k4 h.c4.2⟩,⟨cell_kept k6 h.c6.1,cell_kept k6 h.c6.2.1,frz_kept k6 h.c6.2.2.1,frz_kept k6 h.c6.2.2.2⟩,cell_kept k15 h.c15,⟨cell_kept k16 h.c16.1,cell_kept k16 h.c16.2.1,frz_kept k16 h.c16.2.2.1,frz_kept k16 h.c16.2.2.2⟩,⟨cell_kept k17 h.c17.1,frz_kept k17 h.c17.2⟩,
  ?_,h.la,h.adj.kept (fun k a b=>ho.block k (by omega) (fun e=>by omega)),hor,ha,fun E hE=>?_,h.nod,h.bel.trans (ho.below h.bel.size (fun k e=>by have e':k=K.kb:=e;omega)),Nat.le_trans h.sz ho.size,h.vn,h.seg,h.dlt,h.vis⟩
 ·intro i u hu
  obtain ⟨b,o,e,h9⟩:=h.cl i u hu
  have:=(h.la _ e).1
  exact ⟨b,o,e,cell_kept (ho.block b (hlt h9) (fun e'=>by have e2:b=K.kb:=e';simp only at this;omega)) h9⟩
 ·obtain ⟨m1,m2⟩:=h.mks E hE
  exact ⟨(ho.block E (Array.getElem?_eq_some_iff.1 m1).1 (fun e=>by have e2:E=K.kb:=e;omega)).trans m1,m2⟩
theorem RtS.next {v' i:Nat} {la':Option Addr} {lc':Nat} (h:RtS K w0 wr hb n t es lb D s Ds Z v l la lc asked) (hK:K.OK w0 Z) (hl:Cel wr la' ((l++[(i:Int)]).map encI)) (hla:∀x,la'=some x→Z≤x.block∧x.block∉Ds) (hv:v'<n) (hs:Seg es D s (l++[(i:Int)]) (v':Int)) (hd:D (v':Int)<D (v:Int)):
  RtS K w0 ((((wr.setCell ⟨K.b16,0,none⟩ (.slice la' (l++[(i:Int)]).length lc')).setCell ⟨K.b16,1,none⟩ (.int .u64 (D s-D (v':Int)))).setCell ⟨K.b4,0,none⟩ (.int .i64 (v':Int))).setCell ⟨K.b17,0,none⟩ (.int .u64 (D (v':Int)))) hb n t es lb D s Ds Z v' (l++[(i:Int)]) la' lc' asked:=by
 have f1:=hK.ge
 have f2:=hK.s46
 have f3:=hK.s6
 have f4:=hK.lh
 have f5:=hK.o15
 have f6:=hK.o16
 have f7:=hK.o17
 have f8:=hK.oZ
 have f9:=hK.kb
 have f10:=hK.ob
 have f11:=hK.sb
 have hsz:=h.sz
 obtain ⟨W5,hW5⟩:∃W5,W5=((((wr.setCell ⟨K.b16,0,none⟩ (.slice la' (l++[(i:Int)]).length lc')).setCell ⟨K.b16,1,none⟩ (.int .u64 (D s-D (v':Int)))).setCell ⟨K.b4,0,none⟩ (.int .i64 (v':Int))).setCell ⟨K.b17,0,none⟩ (.int .u64 (D (v':Int)))):=⟨_,rfl⟩
 rw [←hW5]
 have keep:∀k,k≠K.b16→k≠K.b4→k≠K.b17→W5.heap[k]? =wr.heap[k]?:=fun k h1 h2 h3=>by
  rw [hW5,Below.heap_setCell _ _ _ _ h3,Below.heap_setCell _ _ _ _ h2,Below.heap_setCell _ _ _ _ h1,Below.heap_setCell _ _ _ _ h1]
 have frz:∀p,W5.frozen? p=wr.frozen? p:=fun p=>by rw [hW5,World.frozen?_setCell,World.frozen?_setCell,World.frozen?_setCell,World.frozen?_setCell]
 have hb:Below w0.heap.size w0 W5:=by
  rw [hW5]
  exact (((h.bel.setCell (p:=⟨K.b16,0,none⟩) (by show w0.heap.size≤K.b16;omega) _).setCell (p:=⟨K.b16,1,none⟩) (by show w0.heap.size≤K.b16;omega) _).setCell (p:=⟨K.b4,0,none⟩) f1 _).setCell (p:=⟨K.b17,0,none⟩) (by show w0.heap.size≤K.b17;omega) _
 have hz:W5.heap.size=wr.heap.size:=by rw [hW5];simp [World.setCell]
 have k6:=keep K.b6 (by omega) (by omega) (by omega)
 have k15:=keep K.b15 (by omega) (by omega) (by omega)
 refine ⟨⟨?_,by rw [frz];exact h.c4.2⟩,⟨cell_kept k6 h.c6.1,cell_kept k6 h.c6.2.1,frz_kept k6 h.c6.2.2.1,frz_kept k6 h.c6.2.2.2⟩,cell_kept k15 h.c15,⟨?_,?_,by rw [frz];exact h.c16.2.2.1,by rw [frz];exact h.c16.2.2.2⟩,⟨?_,by rw [frz];exact h.c17.2⟩,
  ?_,hla,h.adj.kept (fun k a b=>keep k (by omega) (by omega) (by omega)),h.orc.same ?_,h.ask,fun E hE=>?_,h.nod,hb,by rw [hz];exact h.sz,hv,hs,⟨by have:=h.dlt.1;omega,h.dlt.2⟩,?_⟩
 ·rw [hW5,World.cell?_setCell_far _ _ _ _ (by show K.b17≠K.b4;omega)]
  exact World.cell?_setCell_same (u:=.int .i64 (v:Int)) _ _ _ (by rw [World.cell?_setCell_far _ _ _ _ (by show K.b16≠K.b4;omega),World.cell?_setCell_far _ _ _ _ (by show K.b16≠K.b4;omega)];exact h.c4.1)
 ·rw [hW5,World.cell?_setCell_far _ _ _ _ (by show K.b17≠K.b16;omega),World.cell?_setCell_far _ _ _ _ (by show K.b4≠K.b16;omega),World.cell?_setCell_other _ _ _ _ (by simp)]
  exact World.cell?_setCell_same _ _ _ h.c16.1
 ·rw [hW5,World.cell?_setCell_far _ _ _ _ (by show K.b17≠K.b16;omega),World.cell?_setCell_far _ _ _ _ (by show K.b4≠K.b16;omega)]
  exact World.cell?_setCell_same (u:=.int .u64 (D s-D (v:Int))) _ _ _ (by rw [World.cell?_setCell_other _ _ _ _ (by simp)];exact h.c16.2.1)
 ·rw [hW5]
  exact World.cell?_setCell_same (u:=.int .u64 (D (v:Int))) _ _ _ (by rw [World.cell?_setCell_far _ _ _ _ (by show K.b4≠K.b17;omega),World.cell?_setCell_far _ _ _ _ (by show K.b16≠K.b17;omega),World.cell?_setCell_far _ _ _ _ (by show K.b16≠K.b17;omega)];exact h.c17.1)
 ·intro j u hu
  obtain ⟨b,o,e,h9⟩:=hl j u hu
  have:=(hla _ e).1
  simp only at this
  exact ⟨b,o,e,cell_kept (keep b (by omega) (by omega) (by omega)) h9⟩
 ·rintro k (rfl|rfl|rfl)
  ·exact keep _ (by omega) (by omega) (by omega)
  ·exact keep _ (by omega) (by omega) (by omega)
  ·exact keep _ (by omega) (by omega) (by omega)
 ·obtain ⟨m1,m2⟩:=h.mks E hE
  exact ⟨(keep E (by omega) (by omega) (by omega)).trans m1,m2⟩
 ·obtain ⟨vs,e1,e2,e3⟩:=h.vis
  refine ⟨(v:Int)::vs,by simp [e1],List.nodup_cons.2 ⟨fun hm=>by have:=(e3 _ hm).2;omega,e2⟩,fun x hx=>?_⟩
  rcases List.mem_cons.1 hx with rfl|hx
  ·exact ⟨⟨by omega,by have:=h.vn;omega⟩,hd⟩
  ·have:=e3 x hx
   exact ⟨this.1,by omega⟩
theorem RtS.mark {E:Nat} (h:RtS K w0 wr hb n t es lb D s Ds Z v l la lc asked) (hE:wr.heap[E]? =some (.deferred (some []))) (hZ:Z≤E) (hn:E∉Ds) (hla:∀x,la=some x→x.block≠E):RtS K w0 wr hb n t es lb D s (E::Ds) Z v l la lc asked:=
 ⟨h.c4,h.c6,h.c15,h.c16,h.c17,h.cl,fun x hx=>⟨(h.la x hx).1,fun hm=>by
  rcases List.mem_cons.1 hm with e|e
  ·exact hla x hx e
  ·exact (h.la x hx).2 e⟩,h.adj,h.orc,h.ask,fun F hF=>by
  rcases List.mem_cons.1 hF with rfl|e
  ·exact ⟨hE,hZ⟩
  ·exact h.mks F e,List.nodup_cons.2 ⟨hn,h.nod⟩,h.bel,h.sz,h.vn,h.seg,h.dlt,h.vis⟩
end
end Go.Proofs.YteaaapdjplbljaaGreat.Ro
end
