/- Parts; no condition. -/
import Derived.Test.YteaaapdjplbljaaGreatVc28
import Derived.Test.YteaaapdjplbljaaGreatVc29
import Derived.Laws.CopyOwn
set_option linter.unusedVariables false
set_option linter.unusedSimpArgs false
set_option linter.unnecessarySimpa false
set_option maxRecDepth 100000
set_option maxHeartbeats 8000000
namespace Go.Proofs.YteaaapdjplbljaaGreat
open Go Go.Proofs Go.RowKit Go.Shelf Hp Ch
theorem As4 {W:World} {base D n:Nat} {E:TypeId} {xs:List Value} (h:W.ownsRow base E 1 (.slice (some ⟨D,0,none⟩) n n) n xs):W.heap[D]? =some (.cells xs.toArray E (0,0))/\base<=D/\xs.length=n:=by
 obtain ⟨h1,h2⟩:=h
 rcases h2 with ⟨e,_⟩|⟨g,cap,cur,e,hb,hg,h3,h4,h5,h6⟩
 ·cases e
 ·cases e
  rw [Nat.mul_one] at h1 h5 h6;refine ⟨?_,hb,h1⟩;rw [List.take_of_length_le (by simp [h5])] at h6;rw [hg,<-h6]
theorem Qe {W:World} {base D n:Nat} {E:TypeId} {xs:List Value} (hg:W.heap[D]? =some (.cells xs.toArray E (0,0))) (hb:base<=D) (hl:xs.length=n) (hn:n<=60000):W.ownsRow base E 1 (.slice (some ⟨D,0,none⟩) n n) n xs:=by
 refine ⟨by omega,.inr ⟨D,n,xs.toArray,rfl,hb,hg,Bi7 _,by unfold maxLen;omega,by simp [hl],?_⟩⟩;rw [Nat.mul_one,List.take_of_length_le (by simp [hl])]
theorem Ba9 (m:Nat) (w:World) (hm:m<=60000):Calls Tryz.prog 183 #[.int .u64 1,.int .u64 (m:Int)] w fun e w'=>e=.returned (.tuple #[.int .u64 0,.int .u64 (m:Int)])/\w=w':=by
 have HM:=Bi5 (Tryz.bits_Mul64 1 m (by omega) (by omega) w);rw [Nat.one_mul,Nat.div_eq_of_lt (by omega),Nat.mod_eq_of_lt (by omega)] at HM;have HM2:Hid (Calls Tryz.prog 241 #[.int .u64 1,.int .u64 (m:Int)] w fun e w'=>e=.returned (.tuple #[.int .u64 0,.int .u64 (m:Int)])/\w'=w):=HM;clear HM
 go_enter Tryz.func183,Tryz.ntmps183
 go_wp2_with (go_at_call 241;refine HM2.out.mono ?_;rintro e w1 ⟨rfl,e1⟩;subst e1)
 refine bodyPost_ret (v:=.tuple #[.int .u64 0,.int .u64 (m:Int)]) (by simp [results,Tryz.results183,go_sem];try rfl) rfl ?_;exact ⟨rfl,rfl⟩
def Dq (v:Int) (m k:Nat):List Value:=(List.range m).map fun i=>if i<k then .int .u64 v else .int .u64 0
theorem Ft (v:Int) (m k:Nat):(Dq v m k).length=m:=by simp [Dq]
theorem Kc {v:Int} {m k i:Nat} (h:i<m) (hk:i<k):(Dq v m k)[i]? =some (.int .u64 v):=by
 unfold Dq;rw [Bk4,List.getElem?_range h];simp [hk]
theorem Ac0 (v:Int) (m:Nat):Dq v m 0=List.replicate m (.int .u64 0):=by
 unfold Dq
 apply List.ext_getElem<;>simp
theorem An1 (v:Int) (m:Nat):Dq v m m=(List.replicate m v).map Bz:=by
 unfold Dq
 apply List.ext_getElem
 ·simp
 ·intro i h1 h2
  simp at h1;simp [h1]
theorem Ml {v:Int} {m k c:Nat} (h:k+c<=m):splice (Dq v m k) k (List.replicate c (.int .u64 v))=Dq v m (k+c):=by
 unfold splice
 apply List.ext_getElem?
 intro i;rw [Bl6]
 by_cases h1:i<k
 ·rw [Bm4 (by rw [List.length_take,Ft];omega),Bn6 h1,Kc (by omega) h1,Kc (by omega) (by omega)]
 ·rw [Bm3 (by rw [List.length_take,Ft];omega),List.length_take,Ft,Nat.min_eq_left (by omega)]
  by_cases h2:i<k+c
  ·rw [Bm4 (by rw [Bl6];omega),Bm5,if_pos (by omega),Kc (by omega) h2]
  ·rw [Bm3 (by rw [Bl6];omega),Bl6,List.getElem?_drop]
   unfold Dq;rw [Bk4,Bk4];have e:k+c+(i-k-c)=i:=by omega
   rw [e]
   by_cases h3:i<m
   ·rw [List.getElem?_range h3]
    simp [h1,h2]
   ·rw [Bm2 (by simpa using h3)]
    rfl
theorem Qc (bx ox xc m:Nat) (v:Int) (w:World) (hm:m<=60000) (hx:w.cell? ⟨bx,ox,none⟩=some (.int .u64 v)):
  Calls Tryz.prog 124 #[.slice (some ⟨bx,ox,none⟩) 1 xc,.int .i64 (m:Int)] w fun e w'=>e=.returned (.slice (some ⟨w.heap.size,0,none⟩) m m)/\
   w'.ownsRow w.heap.size 37 1 (.slice (some ⟨w.heap.size,0,none⟩) m m) m ((List.replicate m v).map Bz)/\Below w.heap.size w w':=by
 have HM:=Bi5 (fun W=>Ba9 m W hm);have hbx:bx<w.heap.size:=Bj5 _ _ hx;have hm0:(0:Int)<=(m:Int):=by omega
 have hm1:(m:Int)<=60000:=by omega
 have HV:=Bi5 hx;clear hx
 go_enter Tryz.func124,Tryz.ntmps124
 go_upto_region 6 with (go_at_call 183;refine (HM.out _).mono ?_;rintro e w1 ⟨rfl,rfl⟩)
 go_upto_region 7 with (at_make;go_must ((with_reducible refine Ef w.heap.size 37 _ 1 8 Rp Tryz.underlying60 m ?_ ?_ ?_ ?_ ?_ ?_ ?_ ?_);rotate_left 4;(· rfl);(· rfl);(· exact ⟨by simp,by simp,by omega,by omega,by simp⟩);intro wm hown hbl hszm;(have Hmo:=Bi5 hown;have Hmb:=Bi5 hbl;clear hown hbl)))
 have hz0:(madeCells (Value.int .u64 0).cells (m*1)).toList=Dq v m 0:=by
  show (madeCells #[Value.int .u64 0] (m*1)).toList=_
  rw [Nat.mul_one,toList_madeCells_one,Ac0]
 obtain ⟨hraw,-,-⟩:=As4 (by have:=Hmo.out;rw [hz0] at this;exact this);have HRAW:=Bi5 hraw;have HBM:=Bi5 Hmb.out;clear Hmo Hmb hz0 hraw
 by_cases h0:m=0
 ·subst h0
  go_wp2_with (refine wpList_copy_nothing rfl (.tmp 31) (.tmp 32) 60 60 rfl 37 Tryz.underlying60 (by kernel_rfl) (some ⟨w.heap.size,0,none⟩) (some ⟨bx,ox,none⟩) 0 0 1 xc ?_ ?_ rfl ?_;(· rfl);(· rfl))
  refine wp_loop_rounds 1 ?_;rw [rounds_succ]
  go_wp2
  go_ret
  exact ⟨rfl,Qe HRAW.out (Bi7 _) (by simp) (by omega),HBM.out⟩
 ·have hpos:0<m:=by omega
  have HC1:=Bi5 (show ∀j u,(List.replicate 1 (Value.int .u64 v))[j]? =some u->wm.cell? ((⟨bx,ox,none⟩:Addr).add j)=some u from fun j u hu=>by
   have hj:j=0:=by
    have h9:=(Bj8.1 hu).1;simp at h9;omega
   subst hj;simp at hu;subst hu;exact Bi6 HBM.out HV.out)
  have HF1:=Bi5 (show 0+(List.replicate 1 (Value.int .u64 v)).length<=(Dq v m 0).length by rw [Ft];simp;omega);have HN1:=Bi5 (show (List.replicate 1 (Value.int .u64 v)).length=Nat.min 1 m from (by show 1=min 1 m;omega));have HO1:=Bi5 (show ∀u∈List.replicate 1 (Value.int .u64 v),u.oneCell'=true from fun u hu=>by rw [List.eq_of_mem_replicate hu];rfl)
  go_wp2_with (refine wpList_copy_splice rfl (.tmp 31) (.tmp 32) 60 60 rfl 37 Tryz.underlying60 (by kernel_rfl) (some ⟨w.heap.size,0,none⟩) (some ⟨bx,ox,none⟩) m m 1 xc ?_ ?_ w.heap.size 0 (Dq v m 0) 37 HRAW.out (List.replicate 1 (.int .u64 v)) HN1.out (fun _=>⟨rfl,_,rfl,HC1.out⟩) HF1.out HO1.out w.heap.size w HBM.out (Bi7 _) ?_;(· rfl);(· rfl);intro w2 hg2 hb2;(have HG2:=hg2);(have HB2:=Bi5 hb2);clear hb2)
  have HG3:=Bi5 (by have:=HG2;rw [Ml (k:=0) (c:=1) (by omega),Nat.zero_add] at this;exact this:w2.heap[w.heap.size]? =some (.cells (Dq v m 1).toArray 37 (0,0)));clear HG2 HRAW
  go_loopg [8] m (fun gg v8 wr=>∃k:Nat,1<=k/\k<=m/\m-k<=gg/\v8=.int .i64 k/\Aside (wr.heap[w.heap.size]? =some (.cells (Dq v m k).toArray 37 (0,0)))/\Aside (Below w.heap.size w wr))
  case atStart=>exact ⟨1,Bi7 _,by omega,by omega,rfl,HG3.out,HB2.out⟩
  case round=>
   obtain ⟨k,hk1,hk,hgg,rfl,HG,HB⟩:=hrel
   by_cases hlt:k<m
   ·have hlt3:(k:Int)<(m:Int):=by omega
    have hk0:(0:Int)<=(k:Int):=by omega
    obtain ⟨c,hc⟩:∃c,c=min k (m-k):=⟨_,rfl⟩;have HSP:=Bi5 (Ml (v:=v) (m:=m) (k:=k) (c:=c) (by omega));have hc1:1<=c:=by omega
    have hcm:k+c<=m:=by omega
    have hkm:(k:Int)+(c:Int)=((k+c:Nat):Int):=by omega
    have HCc:=Bi5 (fun W5 (hz:Below wr.heap.size wr W5)=>show ∀j u,(List.replicate c (Value.int .u64 v))[j]? =some u->W5.cell? ((⟨w.heap.size,0,none⟩:Addr).add j)=some u from fun j u hu=>by
     have hj:j<c:=by
      have h9:=(Bj8.1 hu).1
      simpa using h9
     rw [Bm5,if_pos hj] at hu
     cases hu
     rw [Addr.add_lit,Nat.zero_add];have h8:=Kc (v:=v) (m:=m) (k:=k) (i:=j) (by omega) (by omega);have h7:=(Qe (base:=w.heap.size) (n:=m) HG.out (Bi7 _) (Ft _ _ _) hm).cellAt j (by omega);exact Bi6 hz (h7.trans h8))
    have HFc:=Bi5 (show k+(List.replicate c (Value.int .u64 v)).length<=(Dq v m k).length by rw [Ft,Bl6];exact hcm);have HNc:=Bi5 (show (List.replicate c (Value.int .u64 v)).length=Nat.min k (m-k) by rw [Bl6,hc]);have HOc:=Bi5 (show ∀u∈List.replicate c (Value.int .u64 v),u.oneCell'=true from fun u hu=>by rw [List.eq_of_mem_replicate hu];rfl);have hkm1:(k:Int)<=60000:=by omega
    have HGG:=Bi5 hgg;clear hc hgg
    go_upto_region 9 with (fail)
    refine Fd 6 (by kernel_rfl) (by kernel_rfl) (fun _ _ _ h=>h) ?_;simp only [List.take_succ_cons,List.take_zero,List.drop_succ_cons,List.drop_zero,Act.put,Act.eval,Bk5,Bk8,Bk9]
    repeat (go_big_quiet_step (fail))
    refine wpQuiet_nil ?_;rintro _ ⟨p5,rfl⟩;have HB5:=Bi5 (Ah wr p5);generalize ext wr p5=w5 at HB5 ⊢;simp only [Bm0,List.getElem?_toArray,Bk6,Bk7,Bl0];have HKM:=Bi5 (And.intro hk1 (And.intro hcm hkm));have HG5:=Bi5 (show w5.heap[w.heap.size]? =some (.cells (Dq v m k).toArray 37 (0,0)) from (HB5.out.block _ (by have:=(Bj2.1 HG.out).1;exact this)).trans HG.out);have HC5:=Bi5 (HCc.out w5 HB5.out);have HB55:=Bi5 (HB.out.st HB5.out);have hkc:(k:Int)+(c:Int)<=60000:=by omega
    clear HCc hkm hk1 hk hlt hcm hkm1
    go_wp2_with (refine wpList_copy_splice rfl (.tmp 41) (.tmp 44) 60 60 rfl 37 Tryz.underlying60 (by kernel_rfl) (some ⟨w.heap.size,k,none⟩) (some ⟨w.heap.size,0,none⟩) (m-k) (m-k) k m ?_ ?_ w.heap.size k (Dq v m k) 37 HG5.out (List.replicate c (.int .u64 v)) HNc.out (fun _=>⟨rfl,_,rfl,HC5.out⟩) HFc.out HOc.out w.heap.size w HB55.out (Bi7 _) ?_;(· rfl);(· rfl);intro w6 hg6 hb6;(have HG6:=hg6);(have HB6:=Bi5 hb6);clear hb6;simp only [Bl6])
    have HG7:=Bi5 (by have:=HG6.out;rw [HSP.out] at this;exact this:w6.heap[w.heap.size]? =some (.cells (Dq v m (k+c)).toArray 37 (0,0)));obtain ⟨hk1,hcm,hkm⟩:=HKM.out
    go_roundg (m-(k+c))
    case measure=>(have:=HGG.out;omega)
    case rel=>exact ⟨k+c,by omega,HKM.out.2.1,Bi7 _,by go_num,HG7.out,HB6.out⟩
   ·obtain rfl:m=k:=by omega
    go_wp2
    go_ret
    refine ⟨rfl,Qe (xs:=(List.replicate m v).map Bz) ?_ (Bi7 _) (by simp) (by omega),HB.out⟩;have:=HG.out
    rwa [An1] at this
end Go.Proofs.YteaaapdjplbljaaGreat
