/- Walk of package unpack: Way. -/
import Derived.Test.YtkdomobedfhhgaaGreatProg
import Derived.Test.YtkdomobedfhhgaaGreatRm11
import Derived.Test.YtkdomobedfhhgaaGreatRm05
import Derived.Test.YtkdomobedfhhgaaGreatRm12
set_option linter.unusedVariables false
set_option linter.unusedSimpArgs false
set_option linter.unnecessarySimpa false
namespace Go.Proofs.YtkdomobedfhhgaaGreat
open Go Go.Proofs Go.RowKit Go.Shelf Go.Proofs.YtkdomobedfhhgaaGreat.Hp Go.Proofs.YtkdomobedfhhgaaGreat.Ch
def UyIs (n:Nat) (es:List EdgeD) (s t:Int) (l:List Int) (x k:Int):Prop:=
 (k=0∧DistIs n (arcG es) s t x 0∧l.length≤98304∧isB ⟨n,es⟩ s t l=true)∨(k≠0∧l=[]∧x=0∧DistIs n (arcG es) s t 0 k)
def UyPost (n:Nat) (es:List EdgeD) (s t:Int) (w:World) (e:Ending) (w':World):Prop:=
 ∃(la:Option Addr) (l:List Int) (lc:Nat) (x k:Int),e=.returned (.tuple #[.agg #[.slice la l.length lc,.int .u64 x],.int .i64 k])∧Cel w' la (l.map encI)∧Below w.heap.size w w'∧UyIs n es s t l x k
set_option maxRecDepth 100000 in
set_option maxHeartbeats 4000000 in
theorem unWay_any (hb n:Nat) (es:List EdgeD) (R:List Int) (S:List SC) (ro:List Int) (s t:Int) (w:World) (h:BH w hb n es R S ro) (hg:rightG ⟨(n:Int),es⟩=0) (hel:es.length≤40):
  Calls Tryz.prog 66 #[.pointer (some ⟨hb,0,none⟩),.int .i64 s,.int .i64 t] w (UyPost n es s t w):=by
 obtain ⟨W,hW⟩:∃W,W=w.alloc (Obj.cells #[.slice none 0 0,.int .u64 0] 111):=⟨_,rfl⟩
 have hbw:Below w.heap.size w W:=by rw [hW];exact Below.of_al _ _
 have HRB:=Lib.hid (show W.heap[w.heap.size]? =some (.cells #[.slice none 0 0,.int .u64 0] 111 (0,0)) by rw [hW];show (w.heap.push _)[w.heap.size]? =_;rw [Array.getElem?_push_size])
 have HRX:=Lib.hid (fun W2 (hz:Below W.heap.size W W2)=>Ad.two_cells ((hz.block _ (Array.getElem?_eq_some_iff.1 HRB.out).1).trans HRB.out))
 have HME:=Lib.hid (meet_any hb n es R S ro s t W (h.go hbw))
 have HH:=Lib.hid (h.go hbw)
 have HB:=Lib.hid hbw
 have HW:=Lib.hid hW
 have HGG:=Lib.hid hg
 clear h hW hbw hg
 go_enter Tryz.func66,Tryz.ntmps66
 go_upto_region 1 with (fail)
 rw [←HW.out]
 go_upto_region 2 with (go_at_call 19;refine HME.out.mono ?_;rintro e w1 ⟨⟨v,d,k,rfl,hm⟩,hb1⟩;(have HM:=Lib.hid hm);(have HB1:=Lib.hid hb1);clear hm hb1)
 by_cases hk:k=0
 ·subst hk
  obtain ⟨hdi,x,y,ia,ib,rest,rfl,rfl,hx,hy,hsa,hsb,hpw,hpk⟩:DistIs n (arcG es) s t d 0∧∃(x y:Nat) (la lb:List LB) (rest:List Int),s=x∧t=y∧x<n∧y<n∧Space (relB false (arcG es)) (XN S false) (rk ro) (x:Int) (la.map labOf)∧Space (relB true (arcG es)) (XN S true) (rk ro) (y:Int) (lb.map labOf)∧la.Pairwise (fun a b=>a.v≤b.v)∧peaksL (byF lb) d la=v::rest:=by
   rcases HM.out with ⟨h1,_⟩|⟨_,h1,h2⟩
   ·exact absurd rfl h1
   ·exact ⟨h1,h2⟩
  have hd:Dist (arcG es) (x:Int) (y:Int) d:=by
   rcases hdi with ⟨_,_,_,h1,_⟩|⟨h1,_⟩|⟨h1,_⟩
   ·exact h1
   ·cases h1
   ·cases h1
  have HMT:=Lib.hid (((peaksL_meet HH.out.ok hsa hsb hpw hd).2 v).1 (by rw [hpk];simp))
  have HDI:=Lib.hid hdi
  have HEA:=Lib.hid (exact_any hb n es R S ro false x w1 (HH.out.go HB1.out).mem HH.out.ok HH.out.le hx)
  have HEB:=Lib.hid (fun W2 (hz:Below w1.heap.size w1 W2)=>exact_any hb n es R S ro true y W2 ((HH.out.go HB1.out).go hz).mem HH.out.ok HH.out.le hy)
  have hx0:nodeN n (x:Int):=⟨by omega,by omega⟩
  unfold ExactPost at HEA HEB
  clear hdi hsa hsb hpw hpk hd HM HME
  go_upto_region 5 with (go_at_call 33;refine HEA.out.mono ?_;rintro e w2 ⟨aa,ca,la,rfl,k1,k2,k3,k4,k5,k6⟩;(have HCA:=Lib.hid k1);(have HB2:=Lib.hid k2);(have HXA:=Lib.hid (And.intro k3 (And.intro k4 (And.intro k5 k6))));clear k1 k2 k3 k4 k5 k6)
  go_upto_region 6 with (go_at_call 33;refine (HEB.out _ HB2.out).mono ?_;rintro e w3 ⟨ab,cb,lb,rfl,k1,k2,k3,k4,k5,k6⟩;(have HCB:=Lib.hid k1);(have HB3:=Lib.hid k2);(have HXB:=Lib.hid (And.intro k3 (And.intro k4 (And.intro k5 k6))));clear k1 k2 k3 k4 k5 k6)
  obtain ⟨p,q,e0,hp,hq,hpath⟩:=meet_ways HH.out.ok HMT.out HXA.out.1 HXB.out.1 HXA.out.2.1 HXB.out.2.1 (fun a ha=>(HXA.out.2.2.2 a ha).1) (fun a ha=>(HXB.out.2.2.2 a ha).1)
  have hpl:=wayF_len _ _ _ _ hp
  have hql:=wayF_len _ _ _ _ hq
  have hla:=HXA.out.2.2.1
  have hlb:=HXB.out.2.2.1
  have hn12:=HH.out.le
  rw [List.length_nil] at hpl hql
  have HPI:=Lib.hid (path_is HGG.out HH.out.le HH.out.ok hx0 hpath (by rw [List.length_append];omega))
  have HWA:=Lib.hid (way_any hb n es R S _ _ la aa ca v false w3 ((HH.out.go HB1.out).go (HB2.out.st HB3.out)).mem (fun x hx=>by have e:=HH.out.ok.ends x hx;exact ⟨e.1,e.2.1⟩) (HCA.out.go HB3.out) (by omega))
  have HWB:=Lib.hid (fun W2 (hz:Below w3.heap.size w3 W2)=>way_any hb n es R S _ _ lb ab cb v true W2 (((HH.out.go HB1.out).go (HB2.out.st HB3.out)).go hz).mem (fun x hx=>by have e:=HH.out.ok.ends x hx;exact ⟨e.1,e.2.1⟩) (HCB.out.go hz) (by omega))
  rw [hp] at HWA
  rw [hq] at HWB
  unfold WayPost at HWA HWB
  have HLL:=Lib.hid (show p.length≤12∧q.length≤12 by omega)
  clear hp hq hpath HEA HEB hpl hql
  go_upto_region 7 with (go_at_call 39;refine HWA.out.mono ?_;rintro e w4 ⟨pa,pc,o,b,rfl,k1,k2,k3⟩;obtain ⟨rfl,rfl⟩:o=p∧b=true:=(by rcases k3 with ⟨h1,h2⟩|⟨h1,_⟩;exact ⟨(Option.some.inj h1).symm,h2⟩;cases h1);(have HCP:=Lib.hid k1);(have HB4:=Lib.hid k2);clear k1 k2 k3)
  go_upto_region 8 with (go_at_call 39;refine (HWB.out _ HB4.out).mono ?_;rintro e w5 ⟨qa,qc,o2,b,rfl,k1,k2,k3⟩;obtain ⟨rfl,rfl⟩:o2=q∧b=true:=(by rcases k3 with ⟨h1,h2⟩|⟨h1,_⟩;exact ⟨(Option.some.inj h1).symm,h2⟩;cases h1);(have HCQ:=Lib.hid k1);(have HB5:=Lib.hid k2);clear k1 k2 k3)
  have HF:=Lib.hid (built_sh HGG.out HH.out.le HH.out.ok).1
  have H9:=Lib.hid (made_bnd (es:=es) (R:=R) (S:=S) (made_parts (madeR_built (g:=⟨n,es⟩) (n:=n) HGG.out rfl HH.out.ok (by have:=HH.out.le;omega))).2.2.2 (by omega) HH.out.mem.small.2.1)
  obtain ⟨W6,hW6⟩:∃W6,W6=w5.alloc (Obj.cells #[.slice pa o.length pc,.slice qa o2.length qc] 25):=⟨_,rfl⟩
  have hb6:Below w5.heap.size w5 W6:=by rw [hW6];exact Below.of_al _ _
  have HCC:=Lib.hid (Concat2_any w5.heap.size pa qa pc qc 2 o o2 W6 (by have:=HLL.out;omega) (by have:=HLL.out;omega) (by rw [hW6];go_simp) (by rw [hW6];go_simp) ((HCP.out.go HB5.out).go hb6) (HCQ.out.go hb6))
  have HBW:=Lib.hid (HB1.out.st ((HB2.out.st HB3.out).st ((HB4.out.st HB5.out).st hb6)))
  have HAL:=Lib.hid (fun ca6 cc6 W7 (hz:Below W6.heap.size W6 W7) hc=>all_any hb n es R S _ _ HF.out (o++o2) ca6 cc6 W7 ((HH.out.go HBW.out).go hz).mem hc (by rw [List.length_append];have:=HLL.out;omega) HPI.out.2.1 H9.out)
  have HW6:=Lib.hid hW6
  obtain ⟨al,hal⟩:∃al,al=o++o2:=⟨_,rfl⟩
  rw [←hal] at HCC HAL HPI
  clear hW6 hb6 hal hla hlb hn12
  go_upto_region 9 with (first
   |(go_at_call 89;rw [←HW6.out];refine HCC.out.mono ?_;rintro e w7 ⟨ca6,cc6,rfl,k1,k2,-⟩;(have HC7:=Lib.hid k1);(have HB7:=Lib.hid k2);clear k1 k2)
   |(go_at_call 59;refine (HAL.out _ _ _ HB7.out HC7.out).mono ?_;rintro e w8 ⟨vv,bb,out,rfl,k1,k2,k3,k4⟩;(have HV8:=Lib.hid k1);(have HB8:=Lib.hid (HB7.out.st k2));(have HR8:=Lib.hid (And.intro k3 k4));clear k1 k2 k3 k4))
  obtain ⟨rfl,rfl⟩:bb=true∧out=unA S al:=by
   have h1:=HR8.out.1
   rw [HPI.out.1] at h1
   subst h1
   rcases HR8.out.2 with ⟨_,h2⟩|⟨h2,_⟩
   ·exact ⟨rfl,h2⟩
   ·cases h2
  obtain ⟨oa,oc,eo,hco⟩:=Cel.of_owns HV8.out
  subst eo
  have HCO:=Lib.hid hco
  have HOW:=Lib.hid (fun k hk=>(HV8.out.lt k hk).1)
  have HU:=Lib.hid (show (unA S al).length≤98304∧isB ⟨(n:Int),es⟩ (x:Int) (y:Int) (unA S al)=true from HPI.out.2.2)
  have HBZ:=Lib.hid (HBW.out.st HB8.out)
  obtain ⟨x0,x1,f0,f1⟩:=HRX.out _ HBZ.out
  have HSZ:=Lib.hid (show w.heap.size<W6.heap.size from Nat.lt_of_lt_of_le (Array.getElem?_eq_some_iff.1 HRB.out).1 HBW.out.size)
  have HSZ7:=Lib.hid HB7.out.size
  generalize unA S al=L at*
  clear hco HPI HAL HCC
  go_wp2
  obtain ⟨r0,r1⟩:=h2_read (.slice oa L.length oc) (.int .u64 d) x0 x1
  refine bodyPost_ret (v:=.tuple #[.agg #[.slice oa L.length oc,.int .u64 d],.int .i64 0]) (by simp [results,Tryz.results66,go_sem,r0,r1];try rfl) rfl ?_
  have ho:OffX (· =w.heap.size) w8 ((w8.setCell ⟨w.heap.size,0,none⟩ (.slice oa L.length oc)).setCell ⟨w.heap.size,1,none⟩ (.int .u64 d)):=
   (show OffX (· =w.heap.size) w8 (w8.setCell ⟨w.heap.size,0,none⟩ (.slice oa L.length oc)) from .set _ rfl).trans (.set _ rfl)
  exact ⟨oa,L,oc,d,0,rfl,cel_off HCO.out ho (fun k hk e=>by have:=HOW.out k hk;have:=HSZ.out;have:=HSZ7.out;have e2:k=w.heap.size:=e;omega),((HB.out.st HBZ.out).setCell (Nat.le_refl _) _).setCell (Nat.le_refl _) _,.inl ⟨rfl,HDI.out,HU.out.1,HU.out.2⟩⟩
 ·have hk2:(k != 0)=true:=by simpa using hk
  have HK:=Lib.hid (show d=0∧DistIs n (arcG es) s t 0 k from by
   rcases HM.out with ⟨_,_,h1,h2⟩|⟨h1,_⟩
   ·exact ⟨h1,h2⟩
   ·exact absurd h1 hk)
  have HKK:=Lib.hid hk
  obtain ⟨x0,x1,f0,f1⟩:=HRX.out _ HB1.out
  clear hk
  go_wp2
  obtain ⟨r0,r1⟩:=h2_read (.slice none 0 0) (.int .u64 0) x0 x1
  refine bodyPost_ret (v:=.tuple #[.agg #[.slice none 0 0,.int .u64 0],.int .i64 k]) (by simp [results,Tryz.results66,go_sem,r0,r1];try rfl) rfl ?_
  exact ⟨none,[],0,0,k,rfl,Cel.nil _ _,((HB.out.st HB1.out).setCell (Nat.le_refl _) _).setCell (Nat.le_refl _) _,.inr ⟨HKK.out,rfl,rfl,HK.out.2⟩⟩
end Go.Proofs.YtkdomobedfhhgaaGreat
