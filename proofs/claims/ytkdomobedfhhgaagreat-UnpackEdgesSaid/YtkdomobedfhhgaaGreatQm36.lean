/- Walk of package query: both, Dist. Walk of package query: Peaks, Meet. Walk of package query: Meet; what must come at any rate. What must come at any rate, for the laws of query. -/
import Derived.Test.YtkdomobedfhhgaaGreatProg
import Derived.Test.YtkdomobedfhhgaaGreatQm35
set_option linter.unusedVariables false
set_option linter.unusedSimpArgs false
set_option linter.unnecessarySimpa false
section
namespace Go.Proofs.YtkdomobedfhhgaaGreat
open Go Go.Proofs Go.RowKit Go.Shelf Go.Proofs.YtkdomobedfhhgaaGreat.Hp Go.Proofs.YtkdomobedfhhgaaGreat.Ch
theorem in6_of {n:Nat} {u:Int} (h:nodeN n u) (hn:n≤12):In6 u:=⟨by have:=h.1;omega,by have:=h.2;omega⟩
structure BH (w:World) (hb n:Nat) (es:List EdgeD) (R:List Int) (S:List SC) (ro:List Int):Prop where
 mem:HierM w hb n es R S (rowsK R S n S.length).1 (rowsK R S n S.length).2
 ok:HierOK es n R S ro
 le:n≤12
 pos:0<n
theorem BH.go {w w':World} {hb n:Nat} {es:List EdgeD} {R:List Int} {S:List SC} {ro:List Int} (h:BH w hb n es R S ro) (hz:Below w.heap.size w w'):BH w' hb n es R S ro:=⟨h.mem.go hz,h.ok,h.le,h.pos⟩
def BothPost (es:List EdgeD) (S:List SC) (ro:List Int) (s t n:Nat) (w:World) (e:Ending) (w':World):Prop:=
 ∃(ao bo:Option Addr) (ca cb:Nat) (la lb:List LB),e=.returned (.tuple #[.slice ao la.length ca,.slice bo lb.length cb,.int .i64 0])∧Cel w' ao (flatB la)∧Cel w' bo (flatB lb)∧Below w.heap.size w w'∧
  Space (relB false (arcG es)) (XN S false) (rk ro) (s:Int) (la.map labOf)∧Space (relB true (arcG es)) (XN S true) (rk ro) (t:Int) (lb.map labOf)∧la.length≤n∧lb.length≤n∧la.Pairwise (fun a b=>a.v≤b.v)
theorem both_ok (hb n:Nat) (es:List EdgeD) (R:List Int) (S:List SC) (ro:List Int) (s t:Nat) (w:World) (h:BH w hb n es R S ro) (hs:s<n) (ht:t<n):
  Calls Tryz.prog 71 #[.pointer (some ⟨hb,0,none⟩),.int .i64 (s:Int),.int .i64 (t:Int)] w (BothPost es S ro s t n w):=by
 have HA:=Lib.hid (space_any hb n es R S ro s false w h.mem h.ok h.le hs)
 have HB:=Lib.hid (fun W (hz:Below w.heap.size w W)=>space_any hb n es R S ro t true W (h.mem.go hz) h.ok h.le ht)
 unfold SpacePost at HA HB
 clear h
 go_enter Tryz.func71,Tryz.ntmps71
 go_upto_if 16 with (go_at_call 29;refine HA.out.mono ?_;rintro e w1 ⟨ao,ca,la,rfl,h1,h2,h3,h4⟩;(have H1:=Lib.hid (And.intro h1 (And.intro h2 (And.intro h3 h4))));clear h1 h2 h3 h4)
 go_wp2_with (go_at_call 29;refine (HB.out _ H1.out.2.1).mono ?_;rintro e w2 ⟨bo,cb,lb,rfl,k1,k2,k3,k4⟩;(have H2:=Lib.hid (And.intro k1 (And.intro k2 (And.intro k3 k4))));clear k1 k2 k3 k4)
 refine bodyPost_ret (v:=.tuple #[.slice ao la.length ca,.slice bo lb.length cb,.int .i64 0]) (by simp [results,Tryz.results71,go_sem];try rfl) rfl ?_
 obtain ⟨h1,h2,h3,h4⟩:=H1.out
 obtain ⟨k1,k2,k3,k4⟩:=H2.out
 exact ⟨ao,bo,ca,cb,la,lb,rfl,h1.go k2,k1,h2.st k2,h3,k3,h4.1,k4.1,h4.2.1⟩
theorem both_off (hb n:Nat) (es:List EdgeD) (R:List Int) (S:List SC) (ro:List Int) (s t:Int) (w:World) (h:BH w hb n es R S ro) (hst:¬(nodeN n s∧nodeN n t)):
  Calls Tryz.prog 71 #[.pointer (some ⟨hb,0,none⟩),.int .i64 s,.int .i64 t] w fun e w'=>(∃a b,e=.returned (.tuple #[a,b,.int .i64 7]))∧Below w.heap.size w w':=by
 by_cases hs:nodeN n s
 ·obtain ⟨u,rfl⟩:∃u:Nat,s=u:=⟨s.toNat,by have:=hs.1;omega⟩
  have hu:u<n:=by have:=hs.2;omega
  have ht:t<0∨(n:Int)≤t:=by
   have h9:¬nodeN n t:=fun k=>hst ⟨hs,k⟩
   unfold nodeN at h9
   omega
  have HA:=Lib.hid (space_any hb n es R S ro u false w h.mem h.ok h.le hu)
  have HB:=Lib.hid (fun W (hz:Below w.heap.size w W)=>space_off hb n es R S _ _ t true W (h.mem.go hz) h.pos ht)
  unfold SpacePost at HA
  clear h ht hst hs
  go_enter Tryz.func71,Tryz.ntmps71
  go_upto_if 16 with (go_at_call 29;refine HA.out.mono ?_;rintro e w1 ⟨ao,ca,la,rfl,h1,h2,h3,h4⟩;(have H1:=Lib.hid h2);clear h1 h2 h3 h4)
  go_wp2_with (go_at_call 29;refine (HB.out _ H1.out).mono ?_;rintro e w2 ⟨rfl,k2⟩;(have H2:=Lib.hid k2);clear k2)
  refine bodyPost_ret (v:=.tuple #[.slice ao la.length ca,.slice none 0 0,.int .i64 7]) (by simp [results,Tryz.results71,go_sem];try rfl) rfl ?_
  exact ⟨⟨_,_,rfl⟩,H1.out.st H2.out⟩
 ·have hs2:s<0∨(n:Int)≤s:=by unfold nodeN at hs;omega
  have HA:=Lib.hid (space_off hb n es R S _ _ s false w h.mem h.pos hs2)
  clear h hst hs hs2
  go_enter Tryz.func71,Tryz.ntmps71
  go_wp2_with (go_at_call 29;refine HA.out.mono ?_;rintro e w1 ⟨rfl,h2⟩;(have H1:=Lib.hid h2);clear h2)
  refine bodyPost_ret (v:=.tuple #[.slice none 0 0,.slice none 0 0,.int .i64 7]) (by simp [results,Tryz.results71,go_sem];try rfl) rfl ?_
  exact ⟨⟨_,_,rfl⟩,H1.out⟩
def DistPost (n:Nat) (es:List EdgeD) (s t:Int) (w:World) (e:Ending) (w':World):Prop:=(∃d k,e=.returned (.tuple #[.int .u64 d,.int .i64 k])∧DistIs n (arcG es) s t d k)∧Below w.heap.size w w'
theorem DistPost.mk {n:Nat} {es:List EdgeD} {s t d k:Int} {w w':World} (h:DistIs n (arcG es) s t d k) (hb:Below w.heap.size w w'):DistPost n es s t w (.returned (.tuple #[.int .u64 d,.int .i64 k])) w':=⟨⟨d,k,rfl,h⟩,hb⟩
set_option maxRecDepth 100000 in
set_option maxHeartbeats 1000000 in
theorem dist_any (hb n:Nat) (es:List EdgeD) (R:List Int) (S:List SC) (ro:List Int) (s t:Int) (w:World) (h:BH w hb n es R S ro):
  Calls Tryz.prog 17 #[.pointer (some ⟨hb,0,none⟩),.int .i64 s,.int .i64 t] w (DistPost n es s t w):=by
 by_cases hst:nodeN n s∧nodeN n t
 ·obtain ⟨hs,ht⟩:=hst
  obtain ⟨u,rfl⟩:∃u:Nat,s=u:=⟨s.toNat,by have:=hs.1;omega⟩
  obtain ⟨v,rfl⟩:∃v:Nat,t=v:=⟨t.toNat,by have:=ht.1;omega⟩
  have hu:u<n:=by have:=hs.2;omega
  have hv:v<n:=by have:=ht.2;omega
  have HA:=Lib.hid (both_ok hb n es R S ro u v w h hu hv)
  have HOK:=Lib.hid h.ok
  have hle:=h.le
  unfold BothPost at HA
  clear h hs ht
  go_enter Tryz.func17,Tryz.ntmps17
  go_upto_if 21 with (go_at_call 71;refine HA.out.mono ?_;rintro e w1 ⟨ao,bo,ca,cb,la,lb,rfl,h1,h2,h3,h4,h5,h6,h7,-⟩)
  have hla:=labsOK HOK.out h4 hu hle
  have hlb:=labsOK HOK.out h5 hv hle
  have hpw:lb.Pairwise (fun a b=>a.v≠b.v):=by
   have h9:=h5.once
   rw [List.pairwise_map] at h9
   exact h9
  have HND:=Lib.hid (near_dist HOK.out hle hu hv h4 h5)
  have HBY:=Lib.hid (byNode_any lb bo cb w1 h2 (by omega) (fun x hx=>⟨in6_of (hlb x hx).1 hle,(hlb x hx).2.1,by have:=(hlb x hx).2.2;omega⟩))
  have HLE:=Lib.hid (fun W b (hz:Below w1.heap.size w1 W) (hm:MapW W b lb.length (byF lb))=>least_any la (byF lb) ao ca b lb.length W (h1.go hz) hm (by omega) (fun x hx=>⟨in6_of (hla x hx).1 hle,(hla x hx).2.1,by have:=(hla x hx).2.2;omega⟩) (fun u x hx=>by
   obtain ⟨z,hz,_,rfl⟩:=(byF_spec lb hpw _ _).1 hx
   exact ⟨(hlb z hz).2.1,by have:=(hlb z hz).2.2;omega⟩))
  have HB1:=Lib.hid h3
  unfold ByPost at HBY
  clear h1 h2 h3 h4 h5 h6 h7 hla hlb hpw
  go_upto_if 28 with (first
   |(go_at_call 73;refine HBY.out.mono ?_;rintro e w2 ⟨b,rfl,m1,m2,m3⟩;(have HM2:=Lib.hid (And.intro m1 m3));clear m1 m2 m3)
   |(go_at_call 72;refine (HLE.out _ _ HM2.out.2 HM2.out.1).mono ?_;rintro e w3 ⟨rfl,hb3⟩;(have HB3:=Lib.hid hb3);clear hb3))
  have HBB:=Lib.hid ((HB1.out.st HM2.out.2).st HB3.out)
  rcases HND.out with ⟨hge,hd⟩|⟨hlt,hd⟩
  ·have HD:=Lib.hid hd
   clear hd
   go_wp2
   refine bodyPost_ret (v:=.tuple #[.int .u64 0,.int .i64 9]) (by simp [results,Tryz.results17,go_sem];try rfl) rfl ?_
   exact .mk HD.out HBB.out
  ·have HD:=Lib.hid hd
   have hng:¬4611686018427387904≤nearF (byF lb) la:=by omega
   clear hd
   go_wp2
   refine bodyPost_ret (v:=.tuple #[.int .u64 (nearF (byF lb) la),.int .i64 0]) (by simp [results,Tryz.results17,go_sem];try rfl) rfl ?_
   exact .mk HD.out HBB.out
 ·have HA:=Lib.hid (both_off hb n es R S ro s t w h hst)
  have HD:=Lib.hid (show DistIs n (arcG es) s t 0 7 from .inr (.inr ⟨rfl,rfl,hst⟩))
  clear h hst
  go_enter Tryz.func17,Tryz.ntmps17
  go_wp2_with (go_at_call 71;refine HA.out.mono ?_;rintro e w1 ⟨⟨a,b,rfl⟩,h2⟩;(have H1:=Lib.hid h2);clear h2)
  refine bodyPost_ret (v:=.tuple #[.int .u64 0,.int .i64 7]) (by simp [results,Tryz.results17,go_sem];try rfl) rfl ?_
  exact .mk HD.out H1.out
end Go.Proofs.YtkdomobedfhhgaaGreat
end
section
namespace Go.Proofs.YtkdomobedfhhgaaGreat
open Go Go.Proofs Go.RowKit Go.Shelf Go.Proofs.YtkdomobedfhhgaaGreat.Hp Go.Proofs.YtkdomobedfhhgaaGreat.Ch
def peakB (f:Int→Option Int) (d:Int) (x:LB):Bool:=match f x.v with
 |some y=>decide (x.d+y=d)
 |none=>false
def peaksL (f:Int→Option Int) (d:Int) (l:List LB):List Int:=(l.filter (peakB f d)).map (·.v)
theorem peaksL_take {f:Int→Option Int} {d:Int} {l:List LB} {k:Nat} (h:k<l.length):peaksL f d (l.take (k+1))=if peakB f d l[k] then peaksL f d (l.take k)++[l[k].v] else peaksL f d (l.take k):=by
 unfold peaksL
 rw [List.take_succ_eq_append_getElem h,List.filter_append,List.map_append]
 cases hb:peakB f d l[k]<;>simp [hb]
theorem peaksL_len (f:Int→Option Int) (d:Int) (l:List LB):(peaksL f d l).length≤l.length:=by
 unfold peaksL
 rw [List.length_map]
 exact List.length_filter_le _ _
def PeaksPost (n:Nat) (es:List EdgeD) (S:List SC) (ro:List Int) (s t:Int) (w:World) (e:Ending) (w':World):Prop:=
 (∃(ao:Option Addr) (ca:Nat) (l:List Int) (k:Int),e=.returned (.tuple #[.slice ao l.length ca,.int .i64 k])∧Cel w' ao (l.map encI)∧
  ((k≠0∧l=[]∧DistIs n (arcG es) s t 0 k)∨(k=0∧∃(u v:Nat) (d:Int) (la lb:List LB),s=u∧t=v∧u<n∧v<n∧Space (relB false (arcG es)) (XN S false) (rk ro) (u:Int) (la.map labOf)∧Space (relB true (arcG es)) (XN S true) (rk ro) (v:Int) (lb.map labOf)∧la.Pairwise (fun a b=>a.v≤b.v)∧DistIs n (arcG es) s t d 0∧l=peaksL (byF lb) d la)))∧Below w.heap.size w w'
theorem PeaksPost.bad {n:Nat} {es:List EdgeD} {S:List SC} {ro:List Int} {s t k:Int} {w w':World} (hk:k≠0) (h:DistIs n (arcG es) s t 0 k) (hb:Below w.heap.size w w'):PeaksPost n es S ro s t w (.returned (.tuple #[.slice none 0 0,.int .i64 k])) w':=
 ⟨⟨none,0,[],k,rfl,Cel.nil _ _,.inl ⟨hk,rfl,h⟩⟩,hb⟩
theorem elem_int7:Elem Tryz.prog 3 (.int .i64 0) 1 8:=hp_elemi
set_option maxRecDepth 100000 in
set_option maxHeartbeats 2000000 in
theorem peaks_any (hb n:Nat) (es:List EdgeD) (R:List Int) (S:List SC) (ro:List Int) (s t:Int) (w:World) (h:BH w hb n es R S ro):
  Calls Tryz.prog 18 #[.pointer (some ⟨hb,0,none⟩),.int .i64 s,.int .i64 t] w (PeaksPost n es S ro s t w):=by
 by_cases hst:nodeN n s∧nodeN n t
 ·obtain ⟨hs,ht⟩:=hst
  obtain ⟨u,rfl⟩:∃u:Nat,s=u:=⟨s.toNat,by have:=hs.1;omega⟩
  obtain ⟨v,rfl⟩:∃v:Nat,t=v:=⟨t.toNat,by have:=ht.1;omega⟩
  have hu:u<n:=by have:=hs.2;omega
  have hv:v<n:=by have:=ht.2;omega
  have HA:=Lib.hid (both_ok hb n es R S ro u v w h hu hv)
  have HOK:=Lib.hid h.ok
  have hle:=h.le
  unfold BothPost at HA
  clear h hs ht
  go_enter Tryz.func18,Tryz.ntmps18
  go_upto_if 25 with (go_at_call 71;refine HA.out.mono ?_;rintro e w1 ⟨ao,bo,ca,cb,la,lb,rfl,h1,h2,h3,h4,h5,h6,h7,h8⟩)
  have hla:=labsOK HOK.out h4 hu hle
  have hlb:=labsOK HOK.out h5 hv hle
  have hpw:lb.Pairwise (fun a b=>a.v≠b.v):=by
   have h9:=h5.once
   rw [List.pairwise_map] at h9
   exact h9
  have HND:=Lib.hid (near_dist HOK.out hle hu hv h4 h5)
  have HSP:=Lib.hid (And.intro h4 (And.intro h5 h8))
  have HLA:=Lib.hid hla
  have HYB:=Lib.hid (show ∀u x,byF lb u=some x→0≤x∧x≤211106232532992 from fun u x hx=>by
   obtain ⟨z,hz,_,rfl⟩:=(byF_spec lb hpw _ _).1 hx
   exact (hlb z hz).2)
  have HBY:=Lib.hid (byNode_any lb bo cb w1 h2 (by omega) (fun x hx=>⟨in6_of (hlb x hx).1 hle,(hlb x hx).2.1,by have:=(hlb x hx).2.2;omega⟩))
  have HLE:=Lib.hid (fun W b (hz:Below w1.heap.size w1 W) (hm:MapW W b lb.length (byF lb))=>least_any la (byF lb) ao ca b lb.length W (h1.go hz) hm (by omega) (fun x hx=>⟨in6_of (hla x hx).1 hle,(hla x hx).2.1,by have:=(hla x hx).2.2;omega⟩) (fun u x hx=>by
   have:=HYB.out u x hx
   omega))
  have HC1:=Lib.hid h1
  have hln:la.length≤12:=by omega
  have HB1:=Lib.hid h3
  unfold ByPost at HBY
  clear h1 h2 h3 h4 h5 h6 h7 h8 hla hlb hpw
  go_upto_if 33 with (first
   |(go_at_call 73;refine HBY.out.mono ?_;rintro e w2 ⟨b,rfl,m1,m2,m3⟩;(have HM2:=Lib.hid (And.intro m1 m3));clear m1 m2 m3)
   |(go_at_call 72;refine (HLE.out _ _ HM2.out.2 HM2.out.1).mono ?_;rintro e w3 ⟨rfl,hb3⟩;(have HB3:=Lib.hid hb3);clear hb3))
  have HBB:=Lib.hid ((HB1.out.st HM2.out.2).st HB3.out)
  have HC3:=Lib.hid ((HC1.out.go HM2.out.2).go HB3.out)
  have HM3:=Lib.hid (HM2.out.1.go HB3.out)
  rcases HND.out with ⟨hge,hd⟩|⟨hlt,hd⟩
  ·have HD:=Lib.hid hd
   clear hd
   go_wp2
   refine bodyPost_ret (v:=.tuple #[.slice none 0 0,.int .i64 9]) (by simp [results,Tryz.results18,go_sem];try rfl) rfl ?_
   exact .bad (by decide) HD.out HBB.out
  ·have HD:=Lib.hid hd
   have hng:¬4611686018427387904≤nearF (byF lb) la:=by omega
   generalize nearF (byF lb) la=d at*
   clear hd HND HLE HBY HA HC1 HM2
   have hl2:(la.length:Int)≤12:=by omega
   go_wp2
   have HLEN0:=Lib.hid (fun k=>Nat.le_trans (peaksL_len (byF lb) d (la.take k)) (show (la.take k).length≤12 by rw [List.length_take];omega))
   have HPK:=Lib.hid (fun k (hk:k<la.length)=>peaksL_take (f:=byF lb) (d:=d) hk)
   have HFN:=Lib.hid (show peaksL (byF lb) d (la.take la.length)=peaksL (byF lb) d la by rw [List.take_length])
   have HP0:=Lib.hid (show peaksL (byF lb) d (la.take 0)=[] from rfl)
   have HBV:=Lib.hid (fun (x:LB) y (hy:byF lb x.v=some y)=>show peakB (byF lb) d x=decide (x.d+y=d) by unfold peakB;rw [hy])
   have HBN:=Lib.hid (fun (x:LB) (hy:byF lb x.v=none)=>show peakB (byF lb) d x=false by unfold peakB;rw [hy])
   obtain ⟨pk,hpk⟩:∃pk:Nat→List Int,pk=fun k=>peaksL (byF lb) d (la.take k):=⟨_,rfl⟩
   have HPE:=Lib.hid hpk
   have HW3:=Lib.hid (show w.heap.size≤w3.heap.size from HBB.out.size)
   clear hpk
   go_loopg [6,36] la.length (fun gm v6 v36 wr=>∃k:Nat,k≤la.length∧la.length-k≤gm∧v36=.int .i64 k∧Aside (wr.ownsRow w3.heap.size 3 1 v6 (pk k).length ((pk k).map encI))∧Aside (Below w3.heap.size w3 wr))
   case atStart=>exact ⟨0,Nat.zero_le _,by omega,rfl,by rw [HPE.out];exact World.ownsRow_nil _ _ _ _,Below.refl _ _⟩
   case round=>
    obtain ⟨k,hk,hg,rfl,HR,HB⟩:=hrel
    by_cases hlt2:k<la.length
    ·have hlt3:(k:Int)<(la.length:Int):=by omega
     have hk0:(0:Int)≤(k:Int):=by omega
     have HST:=Lib.hid (show pk (k+1)=if peakB (byF lb) d la[k] then pk k++[la[k].v] else pk k by rw [HPE.out];exact HPK.out k hlt2)
     have HPL:=Lib.hid (show (pk k).length≤12 by rw [HPE.out];exact HLEN0.out k)
     obtain ⟨qb,qo,rfl,y0,y1,y2⟩:=(HC3.out.go HB.out).lab hlt2
     obtain ⟨i1,i2,i3⟩:=HLA.out la[k] (List.getElem_mem hlt2)
     have i6:=in6_of i1 hle
     generalize la[k]=x at*
     have lk:=((HM3.out.go HB.out).go (Below.of_al wr (Obj.cells #[.int .i64 x.v,.int .u64 x.d,.int .i64 x.b] 64))).look i6
     have HB2:=Lib.hid (HB.out.st (Below.of_al wr (Obj.cells #[.int .i64 x.v,.int .u64 x.d,.int .i64 x.b] 64)))
     have HR2:=Lib.hid (World.ownsRow.alloc HR.out (Obj.cells #[.int .i64 x.v,.int .u64 x.d,.int .i64 x.b] 64))
     cases hy:byF lb x.v with
     |none=>
      rw [hy] at lk
      have HST2:=Lib.hid (show pk (k+1)=pk k by rw [HST.out,HBN.out x hy,if_neg (by simp)])
      simp only [Option.isSome,Option.getD] at lk
      clear hy i1 i6
      go_wp2
      go_roundg (la.length-(k+1))
      case measure=>omega
      case rel=>exact ⟨k+1,by omega,Nat.le_refl _,by go_num,by rw [HST2.out];exact HR2.out,HB2.out⟩
     |some y=>
      rw [hy] at lk
      obtain ⟨e0,e1⟩:=HYB.out _ _ hy
      have HBX:=Lib.hid (HBV.out x y hy)
      simp only [Option.isSome,Option.getD] at lk
      clear hy i1 i6
      by_cases heq:x.d+y=d
      ·have HST2:=Lib.hid (show pk (k+1)=pk k++[x.v] by rw [HST.out,HBX.out,decide_eq_true heq,if_pos rfl])
       have heq2:(x.d+y==d)=true:=by simpa using heq
       have HPKR:=Lib.hid (show True from trivial)
       generalize pk k=row at*
       clear heq
       go_wp2_with (at_builtin;go_must (refine wpList_app w3.heap.size 3 _ 1 8 hp_elemi Tryz.underlying25 _ row.length (row.map encI) ⟨wr.heap.size+1,0,none⟩ 1 1 [.int .i64 x.v] rfl rfl (World.ownsRow.alloc HR2.out _) (cell_one_at' _ _ _ (by simp)) (one_cells rfl) ⟨rfl,by decide,(by have:=HPL.out;omega),(by have:=HPL.out;omega),(by have:=HB2.out.size;simp at this;simp;omega)⟩ ?_);intro g6 cap6 w6 hown6 hgrow6 hbl6 hat6 hlt6;(have HO6:=Lib.hid hown6);(have HB6:=Lib.hid ((HB2.out.al _).trans hbl6));clear hown6 hgrow6 hbl6 hat6 hlt6)
       go_roundg (la.length-(k+1))
       case measure=>omega
       case rel=>exact ⟨k+1,by omega,Nat.le_refl _,by go_num,by rw [HST2.out,List.length_append,List.map_append];exact HO6.out,HB6.out⟩
      ·have HST2:=Lib.hid (show pk (k+1)=pk k by rw [HST.out,HBX.out,decide_eq_false heq,if_neg (by simp)])
       have heq2:(x.d+y==d)=false:=by simpa using heq
       clear heq
       go_wp2
       go_roundg (la.length-(k+1))
       case measure=>omega
       case rel=>exact ⟨k+1,by omega,Nat.le_refl _,by go_num,by rw [HST2.out];exact HR2.out,HB2.out⟩
    ·obtain rfl:k=la.length:=by omega
     have HFE:=Lib.hid (show pk la.length=peaksL (byF lb) d la by rw [HPE.out];exact HFN.out)
     go_wp2
     obtain ⟨ao9,cap9,rfl,hce9⟩:=Cel.of_owns HR.out
     refine bodyPost_ret (v:=.tuple #[.slice ao9 (pk la.length).length cap9,.int .i64 0]) (by simp [results,Tryz.results18,go_sem];try rfl) rfl ?_
     exact ⟨⟨ao9,cap9,pk la.length,0,rfl,hce9,.inr ⟨rfl,u,v,d,la,lb,rfl,rfl,hu,hv,HSP.out.1,HSP.out.2.1,HSP.out.2.2,HD.out,HFE.out⟩⟩,HBB.out.trans (HB.out.mono HW3.out)⟩
 ·have HA:=Lib.hid (both_off hb n es R S ro s t w h hst)
  have HD:=Lib.hid (show DistIs n (arcG es) s t 0 7 from .inr (.inr ⟨rfl,rfl,hst⟩))
  clear h hst
  go_enter Tryz.func18,Tryz.ntmps18
  go_wp2_with (go_at_call 71;refine HA.out.mono ?_;rintro e w1 ⟨⟨a,b,rfl⟩,h2⟩;(have H1:=Lib.hid h2);clear h2)
  refine bodyPost_ret (v:=.tuple #[.slice none 0 0,.int .i64 7]) (by simp [results,Tryz.results18,go_sem];try rfl) rfl ?_
  exact .bad (by decide) HD.out H1.out
end Go.Proofs.YtkdomobedfhhgaaGreat
end
section
namespace Go.Proofs.YtkdomobedfhhgaaGreat
open Go Go.Proofs Go.RowKit Go.Shelf Go.Proofs.YtkdomobedfhhgaaGreat.Hp Go.Proofs.YtkdomobedfhhgaaGreat.Ch
theorem peaks_some {es:List EdgeD} {n:Nat} {R:List Int} {S:List SC} {ro:List Int} {s t:Nat} {d:Int} {la lb:List LB} (hok:HierOK es n R S ro) (ha:Space (relB false (arcG es)) (XN S false) (rk ro) (s:Int) (la.map labOf)) (hb:Space (relB true (arcG es)) (XN S true) (rk ro) (t:Int) (lb.map labOf)) (hd:DistIs n (arcG es) s t d 0):
  ∃v rest,peaksL (byF lb) d la=v::rest:=by
 have hpw:lb.Pairwise (fun a b=>a.v≠b.v):=by
  have h9:=hb.once
  rw [List.pairwise_map] at h9
  exact h9
 rcases hd with ⟨_,_,_,hd,_⟩|⟨h,_⟩|⟨h,_⟩
 ·obtain ⟨a,ha1,b,hb1,e1,e2⟩:=(Space.both (A:=arcG es) (X:=XN S false) (Y:=XN S true) (hok.hierB false) ha hb).2 d hd
  obtain ⟨x,hx,rfl⟩:=List.mem_map.1 ha1
  obtain ⟨z,hz,rfl⟩:=List.mem_map.1 hb1
  have hm:x.v∈peaksL (byF lb) d la:=by
   refine List.mem_map.2 ⟨x,List.mem_filter.2 ⟨hx,?_⟩,rfl⟩
   unfold peakB
   rw [(byF_spec lb hpw x.v z.d).2 ⟨z,hz,e1.symm,rfl⟩]
   exact decide_eq_true e2
  cases hp:peaksL (byF lb) d la with
  |nil=>rw [hp] at hm;cases hm
  |cons v rest=>exact ⟨v,rest,rfl⟩
 ·cases h
 ·cases h
def MeetPost (n:Nat) (es:List EdgeD) (S:List SC) (ro:List Int) (s t:Int) (w:World) (e:Ending) (w':World):Prop:=
 (∃v d k:Int,e=.returned (.tuple #[.int .i64 v,.int .u64 d,.int .i64 k])∧((k≠0∧v= -1∧d=0∧DistIs n (arcG es) s t 0 k)∨
  (k=0∧DistIs n (arcG es) s t d 0∧∃(x y:Nat) (la lb:List LB) (rest:List Int),s=x∧t=y∧x<n∧y<n∧Space (relB false (arcG es)) (XN S false) (rk ro) (x:Int) (la.map labOf)∧Space (relB true (arcG es)) (XN S true) (rk ro) (y:Int) (lb.map labOf)∧la.Pairwise (fun a b=>a.v≤b.v)∧peaksL (byF lb) d la=v::rest)))∧Below w.heap.size w w'
theorem MeetPost.bad {n:Nat} {es:List EdgeD} {S:List SC} {ro:List Int} {s t k:Int} {w w':World} (hk:k≠0) (h:DistIs n (arcG es) s t 0 k) (hb:Below w.heap.size w w'):MeetPost n es S ro s t w (.returned (.tuple #[.int .i64 (-1),.int .u64 0,.int .i64 k])) w':=
 ⟨⟨-1,0,k,rfl,.inl ⟨hk,rfl,rfl,h⟩⟩,hb⟩
set_option maxRecDepth 100000 in
set_option maxHeartbeats 1000000 in
theorem meet_any (hb n:Nat) (es:List EdgeD) (R:List Int) (S:List SC) (ro:List Int) (s t:Int) (w:World) (h:BH w hb n es R S ro):
  Calls Tryz.prog 19 #[.pointer (some ⟨hb,0,none⟩),.int .i64 s,.int .i64 t] w (MeetPost n es S ro s t w):=by
 have HP:=Lib.hid (peaks_any hb n es R S ro s t w h)
 have HD:=Lib.hid (fun W (hz:Below w.heap.size w W)=>dist_any hb n es R S ro s t W (h.go hz))
 have HOK:=Lib.hid h.ok
 unfold PeaksPost at HP
 unfold DistPost at HD
 clear h
 go_enter Tryz.func19,Tryz.ntmps19
 go_upto_if 21 with (go_at_call 18;refine HP.out.mono ?_;rintro e w1 ⟨⟨ao,ca,l,k,rfl,h1,h2⟩,hb1⟩;(have HB1:=Lib.hid hb1);clear hb1)
 rcases h2 with ⟨hk,rfl,hd⟩|⟨rfl,x,y,d,la,lb,hs,ht,hx,hy,hsa,hsb,hso,hd,rfl⟩
 ·have hk2:(k != 0)=true:=by simpa using hk
  have HK:=Lib.hid hk
  have HDD:=Lib.hid hd
  clear hk hd h1
  go_wp2
  refine bodyPost_ret (v:=.tuple #[.int .i64 (-1),.int .u64 0,.int .i64 k]) (by simp [results,Tryz.results19,go_sem];try rfl) rfl ?_
  exact .bad HK.out HDD.out HB1.out
 ·obtain ⟨v,rest,hpe⟩:=peaks_some HOK.out hsa hsb (by rw [←hs,←ht];exact hd)
  have HDD:=Lib.hid hd
  have HX:=Lib.hid (And.intro hs (And.intro ht (And.intro hx (And.intro hy (And.intro hsa (And.intro hsb (And.intro hso hpe)))))))
  rw [hpe] at h1
  obtain ⟨pb,po,rfl,y0⟩:=h1.at (i:=0) (by simp)
  have hl0:(0:Int)<((v::rest).length:Int):=by simp
  have hpl:(peaksL (byF lb) d la).length=(v::rest).length:=by rw [hpe]
  rw [hpl]
  generalize hr:(v::rest).length=rl at*
  have y0':w1.cell? ⟨pb,po,none⟩=some (.int .i64 v):=y0
  clear hs ht hx hy hsa hsb hso hd hpe h1 hpl hr y0
  go_wp2_with (go_at_call 17;refine (HD.out _ HB1.out).mono ?_;rintro e w2 ⟨⟨d2,k2,rfl,hd2⟩,hb2⟩;(have HD2:=Lib.hid hd2);(have HB2:=Lib.hid hb2);(have y02:=cell_later hb2 y0');clear hd2 hb2)
  refine bodyPost_ret (v:=.tuple #[.int .i64 v,.int .u64 d2,.int .i64 0]) (by simp [results,Tryz.results19,go_sem];try rfl) rfl ?_
  obtain ⟨e1,e2⟩:=HD2.out.uniq HDD.out
  subst e1
  obtain ⟨h1,h2,h3,h4,h5,h6,h7,h8⟩:=HX.out
  exact ⟨⟨v,d2,0,rfl,.inr ⟨rfl,HDD.out,x,y,la,lb,rest,h1,h2,h3,h4,h5,h6,h7,h8⟩⟩,HB1.out.st HB2.out⟩
end Go.Proofs.YtkdomobedfhhgaaGreat
end
section
namespace Go.Proofs.YtkdomobedfhhgaaGreat
open Go Go.Proofs Go.RowKit Go.Shelf Go.Proofs.YtkdomobedfhhgaaGreat.Hp Go.Proofs.YtkdomobedfhhgaaGreat.Ch
theorem cel_lit3 (W:World) (x y z:Value) (T:TypeId):Cel (W.alloc (Obj.cells #[x,y,z] T)) (some ⟨W.heap.size,0,none⟩) [x,y,z]:=by
 intro j u hj
 have h:=cells3_new W x y z T j u hj
 rw [Addr.add_lit] at h
 exact ⟨_,_,rfl,h⟩
abbrev exE:List EdgeD:=[⟨0,1,3⟩]
theorem ex_arc {u v w:Int}:arcG exE u v w↔u=0∧v=1∧w=3:=by
 unfold arcG exE
 constructor
 ·rintro ⟨x,hx,h1,h2,h3⟩
  rw [List.mem_singleton] at hx
  subst hx
  exact ⟨h1.symm,h2.symm,h3.symm⟩
 ·rintro ⟨rfl,rfl,rfl⟩
  exact ⟨_,List.mem_singleton.2 rfl,rfl,rfl,rfl⟩
theorem ex_pos:∀u v w,arcG exE u v w→1≤w:=by
 intro u v w h
 obtain ⟨_,_,rfl⟩:=ex_arc.1 h
 decide
theorem ex_way {p:Int→Prop} {u v d:Int} (h:Ch.Way (arcG exE) p u v d):u=0∧v=1∧d=3:=by
 induction h with
 |one h=>exact ex_arc.1 h
 |cons h1 _ _ ih=>
  obtain ⟨_,h2,_⟩:=ex_arc.1 h1
  obtain ⟨h3,_⟩:=ih
  rw [h2] at h3
  cases h3
theorem ex_dist {d k:Int} (h:DistIs 2 (arcG exE) 0 1 d k):d=3∧k=0:=by
 have hw:Way0 (arcG exE) Any 0 1 3:=.inr (.one (ex_arc.2 ⟨rfl,rfl,rfl⟩))
 rcases h with ⟨hk,_,_,h,_⟩|⟨_,_,_,_,h⟩|⟨_,_,h⟩
 ·refine ⟨?_,hk⟩
  rcases h.1 with ⟨e,_⟩|h
  ·cases e
  ·exact (ex_way h).2.2
 ·exact absurd hw (h _)
 ·exact absurd ⟨⟨by decide,by decide⟩,⟨by decide,by decide⟩⟩ h
theorem ex_self {d k:Int} (h:DistIs 2 (arcG exE) 1 1 d k):d=0∧k=0:=by
 have hw:=Dist.self (A:=arcG exE) ex_pos 1
 rcases h with ⟨hk,_,_,h,_⟩|⟨_,_,_,_,h⟩|⟨_,_,h⟩
 ·exact ⟨h.uniq hw,hk⟩
 ·exact absurd hw.1 (h _)
 ·exact absurd ⟨⟨by decide,by decide⟩,⟨by decide,by decide⟩⟩ h
theorem ex_peak {S:List SC} {R:List Int} {ro:List Int} {la lb:List LB} {v:Int} {rest:List Int} (hok:HierOK exE 2 R S ro) (ha:Space (relB false (arcG exE)) (XN S false) (rk ro) ((1:Nat):Int) (la.map labOf)) (hb:Space (relB true (arcG exE)) (XN S true) (rk ro) ((1:Nat):Int) (lb.map labOf)) (h:peaksL (byF lb) 0 la=v::rest):v=1:=by
 have hm:v∈peaksL (byF lb) 0 la:=by rw [h];exact List.mem_cons_self ..
 obtain ⟨x,hx,rfl⟩:=List.mem_map.1 hm
 have hx2:=List.mem_filter.1 hx
 have hw:=ha.sound (labOf x) (List.mem_map.2 ⟨x,hx2.1,rfl⟩)
 have hl:=labsOK hok ha (by decide) (by decide) x hx2.1
 have hp:=hx2.2
 unfold peakB at hp
 cases hf:byF lb x.v with
 |none=>rw [hf] at hp;cases hp
 |some y=>
  rw [hf] at hp
  have e:=of_decide_eq_true hp
  have hpw:lb.Pairwise (fun a b=>a.v≠b.v):=by
   have h9:=hb.once
   rw [List.pairwise_map] at h9
   exact h9
  obtain ⟨z,hz,_,rfl⟩:=(byF_spec lb hpw _ _).1 hf
  have hlb:=labsOK hok hb (by decide) (by decide) z hz
  rcases hw with ⟨e1,_⟩|hw
  ·exact e1.symm
  ·have h3:=(ex_way hw).1
   cases h3
theorem ex_meet {S:List SC} {R:List Int} {ro:List Int} {v d k:Int} (hok:HierOK exE 2 R S ro) (h:(k≠0∧v= -1∧d=0∧DistIs 2 (arcG exE) 1 1 0 k)∨
  (k=0∧DistIs 2 (arcG exE) 1 1 d 0∧∃(x y:Nat) (la lb:List LB) (rest:List Int),(1:Int)=x∧(1:Int)=y∧x<2∧y<2∧Space (relB false (arcG exE)) (XN S false) (rk ro) (x:Int) (la.map labOf)∧Space (relB true (arcG exE)) (XN S true) (rk ro) (y:Int) (lb.map labOf)∧la.Pairwise (fun a b=>a.v≤b.v)∧peaksL (byF lb) d la=v::rest)):v=1∧d=0∧k=0:=by
 rcases h with ⟨hk,_,_,h⟩|⟨hk,hd,x,y,la,lb,rest,hx,hy,_,_,ha,hb,_,hp⟩
 ·exact absurd (ex_self h).2 hk
 ·obtain rfl:=(ex_self hd).1
  obtain rfl:x=1:=by omega
  obtain rfl:y=1:=by omega
  exact ⟨ex_peak hok ha hb hp,rfl,hk⟩
theorem BltPost.good {g:GD} {k:Int} {w w':World} {e:Ending} (h:BltPost g k w e w') (hk:k=0) (hg:rightG g=0) (hn:g.n≤12):∃hb R S ro,e=.returned (.tuple #[.pointer (some ⟨hb,0,none⟩),.int .i64 0])∧BH w' hb g.n.toNat g.es R S ro∧Below w.heap.size w w':=by
 obtain ⟨h1|h1,h2⟩:=h
 ·obtain ⟨_,hb,R,S,ro,e,hm,ho⟩:=h1
  have:=right_n hg
  exact ⟨hb,R,S,ro,e,⟨hm,ho,by omega,by omega⟩,h2⟩
 ·exact absurd hk h1.1
set_option maxRecDepth 100000 in
set_option maxHeartbeats 2000000 in
theorem alive23_any (w:World):Calls Tryz.prog 15 #[] w fun e w'=>e=.returned (.bool true)∧Below w.heap.size w w':=by
 have HBU:=Lib.hid (fun W ao (hc:Cel W ao (flat exE))=>built_any ⟨2,exE⟩ ao none 1 0 1 1 [] W hc (Cel.nil _ _) (fun _=>by decide) (by decide) (by decide))
 have HME:=Lib.hid (fun W hb R S ro (h:BH W hb 2 exE R S ro)=>meet_any hb 2 exE R S ro 1 1 W h)
 have HDI:=Lib.hid (fun W hb R S ro (h:BH W hb 2 exE R S ro)=>dist_any hb 2 exE R S ro 0 1 W h)
 unfold MeetPost at HME
 unfold DistPost at HDI
 go_enter Tryz.func15,Tryz.ntmps15
 go_upto_region 2 with (go_at_call 16;refine (HBU.out _ (some ⟨w.heap.size,0,none⟩) (cel_lit3 _ _ _ _ _)).mono ?_;rintro e w1 hp;obtain ⟨hb,R,S,ro,rfl,hbh,hb1⟩:=hp.good (by decide) (by decide) (by decide);(have HBH:=Lib.hid hbh);(have HB1:=Lib.hid hb1);clear hp hbh hb1)
 go_wp2_with (first
  |(go_at_call 19;refine (HME.out _ _ _ _ _ HBH.out).mono ?_;rintro e w2 ⟨⟨v,d,k,rfl,hm⟩,hb2⟩;obtain ⟨rfl,rfl,rfl⟩:=ex_meet HBH.out.ok hm;(have HB2:=Lib.hid hb2);clear hb2 hm)
  |(go_at_call 17;refine (HDI.out _ _ _ _ _ (HBH.out.go HB2.out)).mono ?_;rintro e w3 ⟨⟨d,k,rfl,hd⟩,hb3⟩;obtain ⟨rfl,rfl⟩:=ex_dist hd;(have HB3:=Lib.hid hb3);clear hb3 hd))
 go_ret
 exact ⟨rfl,(((Below.of_al _ _).st HB1.out).st HB2.out).st HB3.out⟩
end Go.Proofs.YtkdomobedfhhgaaGreat
end
