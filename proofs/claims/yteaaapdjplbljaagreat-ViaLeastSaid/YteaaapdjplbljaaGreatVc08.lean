/- Parts; no condition. -/
import Derived.Test.YteaaapdjplbljaaGreatVc07
import Derived.Below
import Derived.Lib.SliceRun
set_option linter.unusedVariables false
set_option linter.unusedSimpArgs false
set_option linter.unnecessarySimpa false
set_option maxRecDepth 100000
set_option maxHeartbeats 8000000
namespace Go.Proofs.YteaaapdjplbljaaGreat
section
open Go Go.Proofs Go.RowKit Go.Shelf Hp Ch
theorem Sr (gone:List Bool) (v u V N gb gof cg b n:Nat) (x:Int) (m:Int->Option Int) (w:World) (hV:w.cell? ⟨V,0,none⟩=some (.int .i64 v)) (hN:w.cell? ⟨N,1,none⟩=some (.slice (some ⟨gb,gof,none⟩) gone.length cg))
  (hg:∀k (hk:k<gone.length),w.cell? ⟨gb,gof+k,none⟩=some (.bool gone[k])) (hu:u<gone.length) (hul:gone.length<=60000) (hm:MapW w b n m) (hn:n<1000000000000000000) (hx:0<=x/\x<=18446744073709551615):
  Calls Tryz.prog 232 (#[.map (some b),.int .i64 u,.int .u64 x]++#[.pointer (some ⟨V,0,none⟩),.pointer (some ⟨N,0,none⟩)]) w fun e w'=>e=.returned (.tuple #[])/\MapW w' b (n+1) (Sl gone v m u x)/\OffX (· =b) w w':=by
 have hlk:=hm.look (u:=(u:Int)) (by constructor<;>omega);obtain ⟨wp,hup,hmp,hop⟩:=hm.put hn (u:=(u:Int)) (x:=x) (by constructor<;>omega) hx;have HS:=Bi5 (⟨hmp,hop⟩:_/\_);have HM:=Bi5 (hm.mono (Nat.le_succ n));have hgu:=hg u hu;have hu0:(0:Int)<=(u:Int):=by omega
 have hu1:(u:Int)<(gone.length:Int):=by omega
 have hgd:gone.getD u true=gone[u]:=by rw [Bj1,Bj0 hu];rfl
 unfold Sl;rw [show ((u:Int)).toNat=u from rfl,hgd];clear hm hmp hop hg hgd hul hn hx;generalize gone[u]=g at*
 by_cases e:u=v
 ·subst e
  have e1:((u:Int)==(u:Int))=true:=by simp
  rw [show (decide ((u:Int)≠(u:Int))&&!g&&Ic (m (u:Int)) x)=false by simp,if_neg (by simp)]
  go_enter Tryz.func232,Tryz.ntmps232
  go_wp2
  refine bodyPost_end (results_none rfl _ _ _) rfl ?_;exact ⟨rfl,HM.out,.refl _ _⟩
 ·have e1:((u:Int) != (v:Int))=true:=by rw [bne_iff_ne];omega
  rw [show decide ((u:Int)≠(v:Int))=true by rw [decide_eq_true_eq];omega,Bool.true_and];clear e
  cases g with
  |true=>
   rw [show (!true&&Ic (m (u:Int)) x)=false from rfl,if_neg (by simp)]
   go_enter Tryz.func232,Tryz.ntmps232
   go_wp2
   refine bodyPost_end (results_none rfl _ _ _) rfl ?_;exact ⟨rfl,HM.out,.refl _ _⟩
  |false=>
   rw [show (!false&&Ic (m (u:Int)) x)=Ic (m (u:Int)) x from rfl]
   cases hmu:m (u:Int) with
   |none=>
    rw [hmu] at hlk;simp only [Option.getD,Option.isSome] at hlk;rw [show Ic none x=true from rfl,if_pos rfl];clear hmu
    go_enter Tryz.func232,Tryz.ntmps232
    go_wp2
    refine bodyPost_end (results_none rfl _ _ _) rfl ?_;exact ⟨rfl,HS.out.1,HS.out.2⟩
   |some y=>
    rw [hmu] at hlk;simp only [Option.getD,Option.isSome] at hlk;clear hmu
    by_cases hxy:x<y
    ·have hxy2:decide (x<y)=true:=decide_eq_true hxy
     rw [show Ic (some y) x=true from hxy2,if_pos rfl]
     go_enter Tryz.func232,Tryz.ntmps232
     go_wp2
     refine bodyPost_end (results_none rfl _ _ _) rfl ?_;exact ⟨rfl,HS.out.1,HS.out.2⟩
    ·have hxy2:decide (x<y)=false:=decide_eq_false hxy
     rw [show Ic (some y) x=false from hxy2,if_neg (by simp)]
     go_enter Tryz.func232,Tryz.ntmps232
     go_wp2
     refine bodyPost_end (results_none rfl _ _ _) rfl ?_;exact ⟨rfl,HM.out,.refl _ _⟩
theorem Al0 (gone:List Bool) (v i:Int) (m:MM) (L:List (Int×Int)) (j:Nat) (h:j<L.length):Sq gone v i m (L.take (j+1))=Ts gone v i (Sq gone v i m (L.take j)) L[j]:=by
 unfold Sq;rw [Bk3 h,List.foldl_append];rfl
def Sd (O:List (List (Int×Int))) (gone:List Bool) (v:Nat) (w:World) (e:Ending) (w':World):Prop:=
 ∃bt bf,e=.returned (.tuple #[.map (some bt),.map (some bf)])/\MapW w' bt 100000000000000000 (Ee O gone v O.length).1/\MapW w' bf 100000000000000000 (Ee O gone v O.length).2/\bt≠bf/\w.heap.size<=bt/\w.heap.size<=bf/\Below w.heap.size w w'
theorem Hv (O:List (List (Int×Int))) (gone:List Bool) (vo vg:Value) (v:Nat) (B:Int) (w:World) (hn:NetW w vo vg O gone) (hv:v<O.length) (hO:NetOK O gone B) (hB:B<=1152921504606846976) (hlen:O.length<=60000) (hrow:∀l∈O,l.length<=1000000):
  Calls Tryz.prog 168 #[.agg #[vo,vg],.int .i64 v] w (Sd O gone v w):=by
 have HN:=Bi5 hn;obtain ⟨ao,co,go,cg,rows,rfl,rfl,h3,h4,h5,h6⟩:=hn;have hmm:=@run_makeMap Tryz.prog;have HGL:=Bi5 hO.len;obtain ⟨gb,gof,e1,-⟩:=h5.at (i:=v) (show v<gone.length by have:=HGL.out;omega);subst e1;obtain ⟨ob,oo,hao,-⟩:∃ob oo,ao=some ⟨ob,oo,none⟩/\True:=by
  obtain ⟨ai,ci,k1,_⟩:=h6 v hv;obtain ⟨ob,oo,rfl,_⟩:=h3 v _ k1;exact ⟨ob,oo,rfl,trivial⟩
 subst hao;clear h3 h4 h5 h6;unfold Sd
 go_enter Tryz.func168,Tryz.ntmps168
 go_upto_region 1 with (fail)
 obtain ⟨W,hW⟩:∃W,W=(w.alloc (Obj.cells #[.slice (some ⟨ob,oo,none⟩) O.length co,.slice (some ⟨gb,gof,none⟩) gone.length cg] 179)).alloc (Obj.cells #[.int .i64 (v:Int)] 3):=⟨_,rfl⟩;have hbw:Below w.heap.size w W:=by rw [hW];exact (Below.of_al _ _).al _
 have HB:=Bi5 hbw;have HNW:=Bi5 (HN.out.go hbw);have b0:W.cell? ⟨w.heap.size,0,none⟩=some (.slice (some ⟨ob,oo,none⟩) O.length co):=by rw [hW];go_simp
 have b1:W.cell? ⟨w.heap.size,1,none⟩=some (.slice (some ⟨gb,gof,none⟩) gone.length cg):=by rw [hW];go_simp
 have b2:W.cell? ⟨w.heap.size+1,0,none⟩=some (.int .i64 (v:Int)):=by rw [hW];go_simp
 have HBX:=Bi5 (⟨b0,b1,b2⟩:_/\_/\_);rw [<-hW];clear hW hbw HN;have HROW:=Bi5 (show ∀u (hu:u<O.length),∃ai ci,W.cell? ⟨ob,oo+u,none⟩=some (.slice ai O[u].length ci)/\Cel W ai (Aq O[u]) by
  obtain ⟨ao',co',go',cg',rows,e1,e2,h3,h4,h5,h6⟩:=HNW.out
  cases e1
  intro u hu;obtain ⟨ai,ci,k1,k2⟩:=h6 u hu;obtain ⟨b',o',e,k3⟩:=h3 u _ k1
  cases e
  exact ⟨ai,ci,k3,k2⟩)
 have HGO:=Bi5 (show ∀k (hk:k<gone.length),W.cell? ⟨gb,gof+k,none⟩=some (.bool gone[k]) by
  obtain ⟨ao',co',go',cg',rows,e1,e2,h3,h4,h5,h6⟩:=HNW.out
  cases e2
  intro k hk;obtain ⟨b',o',e,k3⟩:=h5.at (i:=k) hk
  cases e
  exact k3)
 have HM0:=Bi5 (show MapW ((W.alloc (.map #[] 0)).alloc (.map #[] 0)) W.heap.size 0 (fun _=>none) from (MapW.new W).go (Below.of_al _ _));have HM1:=Bi5 (show MapW ((W.alloc (.map #[] 0)).alloc (.map #[] 0)) (W.heap.size+1) 0 (fun _=>none) from by
  have:=MapW.new (W.alloc (.map #[] 0))
  rwa [show (W.alloc (.map #[] 0)).heap.size=W.heap.size+1 by simp] at this)
 have HZ:=Bi5 (show Below W.heap.size W ((W.alloc (.map #[] 0)).alloc (.map #[] 0)) from (Below.of_al _ _).al _);have HLEN:=Bi5 hlen;have HO:=Bi5 hO;have f0:=fun o o'=>Bi6 ((Below.of_al W o).al o') b0;clear HNW b1 b2 hO
 go_wp2
 go_loopg [17] O.length (fun gg v17 wr=>∃i:Nat,i<=O.length/\O.length-i<=gg/\v17=.int .i64 i/\Aside (MapW wr W.heap.size (i*1000001) (Ee O gone v i).1)/\Aside (MapW wr (W.heap.size+1) (i*1000001) (Ee O gone v i).2)/\Aside (Below W.heap.size W wr))
 case atStart=>exact ⟨0,Bi8 _,by omega,rfl,HM0.out.mono (by omega),HM1.out.mono (by omega),HZ.out⟩
 case round=>
  clear HM0 HM1 HZ;obtain ⟨i,hi,hg,rfl,HM,HF,HW⟩:=hrel;have c0:=Bi6 HW.out b0;have c2:=Bi6 HW.out HBX.out.2.2
  by_cases hlt:i<O.length
  ·have hlt2:(i:Int)<(O.length:Int):=by omega
   obtain ⟨ai,ci,r1,r2⟩:=HROW.out i hlt;have q1:=Bi6 HW.out r1;have HCE:=Bi5 r2;have HLR:=Bi5 (hrow O[i] (Bj7 hlt));have HARC:=Bi5 (fun j (hj:j<O[i].length)=>HO.out.arcs (i:Int) (O[i][j]) ⟨by omega,by omega⟩ (by unfold Cl;simp [hlt]));have HST:=Bi5 (show Ee O gone v (i+1)=Sq gone v i (Ee O gone v i) O[i] by show Sq gone v i (Ee O gone v i) (O.getD i [])=_;rw [Bj1,Bj0 hlt];rfl);clear r1 r2;generalize O[i]=L at*
   go_wp2
   go_loopg [24] L.length (fun g2 v24 wr2=>∃j:Nat,j<=L.length/\L.length-j<=g2/\v24=.int .i64 j/\Aside (MapW wr2 W.heap.size (i*1000001+j) (Sq gone v i (Ee O gone v i) (L.take j)).1)/\Aside (MapW wr2 (W.heap.size+1) (i*1000001+j) (Sq gone v i (Ee O gone v i) (L.take j)).2)/\Aside (Below W.heap.size W wr2))
   case atStart=>exact ⟨0,Bi8 _,by omega,rfl,by rw [List.take_zero];exact HM.out.mono (Nat.le_add_right _ _),by rw [List.take_zero];exact HF.out.mono (Nat.le_add_right _ _),HW.out⟩
   case round=>
    clear q1 c0 c2 HM HF HW;obtain ⟨j,hj,hjg,rfl,HM,HF,HW⟩:=hrel;have c2:=Bi6 HW.out HBX.out.2.2;have d2:=fun o=>Bi6 (Below.of_al wr o) c2
    by_cases hjl:j<L.length
    ·have hjl2:(j:Int)<(L.length:Int):=by omega
     have hll:(L.length:Int)<=1000000:=by have:=HLR.out;omega
     obtain ⟨n1,n2,n3⟩:=HARC.out j hjl;obtain ⟨x0,x1⟩:=Ay L j hjl;rw [Jg hjl] at x0 x1;have HTK:=Bi5 (Al0 gone v i (Ee O gone v i) L j hjl);obtain ⟨aib,aio,e,y0⟩:=HCE.out (j*2) _ x0;subst e;obtain ⟨aib2,aio2,e,y1⟩:=HCE.out (j*2+1) _ x1
     cases e
     have z0:=Bi6 HW.out y0;have z1:=Bi6 HW.out y1;rw [<-Nat.add_assoc] at z1;clear y0 y1 x0 x1;generalize L[j]=q at*;obtain ⟨a1,a2⟩:=q;obtain ⟨a,rfl⟩:∃a:Nat,a1=(a:Int):=⟨a1.toNat,by have:=n1.1;simp only at this;omega⟩;simp only at n1 n2 n3 z0 z1;have haO:a<O.length:=by have:=n1.2;omega
     have HBA:=Bi5 (Below.of_al wr);have hau:(a:Int)<(gone.length:Int):=by have:=HGL.out;omega
     have HN2:=Bi5 (And.intro n2 n3);have HI:=Bi5 hi;have HLT:=Bi5 hlt;have HBD:=Bi5 (show i*1000001+j<1000000000000000000 by have:=HLEN.out;have:=HLR.out;omega);have HCALL:=Bi5 (fun (u b:Nat) (m:Int->Option Int) (hu:u<O.length) (hm:MapW wr b (i*1000001+j) m) (o:Obj)=>Sr gone v u (w.heap.size+1) w.heap.size gb gof cg b (i*1000001+j) a2 m (wr.alloc o) (Bi6 (Below.of_al wr o) (Bi6 HW.out HBX.out.2.2)) (Bi6 (Below.of_al wr o) (Bi6 HW.out HBX.out.2.1)) (fun k hk=>Bi6 (Below.of_al wr o) (Bi6 HW.out (HGO.out k hk))) (by rw [HGL.out];exact hu) (by have:=HGL.out;have:=HLEN.out;omega) (hm.go (Below.of_al wr o)) HBD.out (by have:=HN2.out;omega));clear n1 n2 n3
     by_cases hvi:v=i
     ·have hvi2:((v:Int)==(i:Int))=true:=by simp [hvi]
      have HVI:=Bi5 hvi;clear hvi
      go_wp2_with (go_at_call 232;refine (HCALL.out a (W.heap.size+1) _ haO HF.out _).mono ?_;rintro e w5 ⟨rfl,hm5,ho5⟩)
      have hs:=HTK.out.trans (if_pos (congrArg (fun k:Nat=>(k:Int)) HVI.out));have HWA:=HW.out.al (Obj.cells #[Value.int IntKind.i64 (a:Int),Value.int IntKind.u64 a2] 253)
      go_roundg (L.length-(j+1))
      case measure=>omega
      case rel=>exact ⟨j+1,by omega,Bi7 _,by go_num,by rw [hs];exact ((HM.out.go (Below.of_al _ _)).off ho5 (by omega)).mono (by omega),by rw [hs];exact hm5.mono (by omega),HWA.trans (ho5.below HWA.size (by rintro k rfl;omega))⟩
     ·have hvi2:((v:Int)==(i:Int))=false:=by rw [beq_eq_false_iff_ne];omega
      have hs1:=HTK.out.trans (if_neg (show ¬(v:Int)=(i:Int) by omega));have HS1:=Bi5 hs1;clear hs1
      by_cases hva:v=a
      ·have hva2:((v:Int)==(a:Int))=true:=by simp [hva]
       have HS2:=Bi5 (HS1.out.trans (if_pos (congrArg (fun k:Nat=>(k:Int)) hva)));clear hva hvi
       go_wp2_with (go_at_call 232;refine (HCALL.out i W.heap.size _ HLT.out HM.out _).mono ?_;rintro e w5 ⟨rfl,hm5,ho5⟩)
       have hs:=HS2.out;have HWA:=HW.out.al (Obj.cells #[Value.int IntKind.i64 (a:Int),Value.int IntKind.u64 a2] 253)
       go_roundg (L.length-(j+1))
       case measure=>omega
       case rel=>exact ⟨j+1,by omega,Bi7 _,by go_num,by rw [hs];exact hm5.mono (by omega),by rw [hs];exact ((HF.out.go (Below.of_al _ _)).off ho5 (by omega)).mono (by omega),HWA.trans (ho5.below HWA.size (by rintro k rfl;omega))⟩
      ·have hva2:((v:Int)==(a:Int))=false:=by rw [beq_eq_false_iff_ne];omega
       have HS2:=Bi5 (HS1.out.trans (if_neg (show ¬(v:Int)=(a:Int) by omega)));clear hva hvi
       go_wp2
       have hs:=HS2.out
       go_roundg (L.length-(j+1))
       case measure=>omega
       case rel=>exact ⟨j+1,by omega,Bi7 _,by go_num,by rw [hs];exact (HM.out.go (Below.of_al _ _)).mono (by omega),by rw [hs];exact (HF.out.go (Below.of_al _ _)).mono (by omega),HW.out.al _⟩
    ·obtain rfl:j=L.length:=by omega
     go_wp2
     go_roundg (O.length-(i+1))
     case measure=>omega
     case rel=>
      have hm:=HM.out;have hf:=HF.out;rw [Bn1,<-HST.out] at hm hf;exact ⟨i+1,by omega,Bi7 _,by go_num,hm.mono (by have:=HLR.out;omega),hf.mono (by have:=HLR.out;omega),HW.out⟩
  ·obtain rfl:i=O.length:=by omega
   go_wp2
   refine bodyPost_ret (v:=.tuple #[.map (some W.heap.size),.map (some (W.heap.size+1))]) (by simp [results,Tryz.results168,go_sem];try rfl) rfl ?_;exact ⟨_,_,rfl,HM.out.mono (by have:=HLEN.out;omega),HF.out.mono (by have:=HLEN.out;omega),by omega,HB.out.size,by have:=HB.out.size;omega,HB.out.st HW.out⟩
end
section
open Go Go.Proofs Go.RowKit Go.Shelf
theorem Qa {P:Program} {w:World} (t ty:TypeId) (base:Nat) (E:TypeId) (z:Value) (bytes:Nat) (hE:Gq P E z 1 bytes) (ht:P.underlying t=some (.slice E))
  (ao:Option Addr) (n cap:Nat) (xs:List Value) (hown:w.ownsRow base E 1 (.slice ao n cap) n xs) (bo:Option Addr) (m c:Nat) (news:List Value) (hnews:Cel w bo news) (h1:∀u∈news,u.oneCell'=true)
  (hl:news.length=m/\n+m<=9223372036854775807/\(n+m)*bytes<=140737488355328/\base<=w.heap.size):
  ∃ao' cap' w',(Builtin.append_ #[t,t] ty #[.slice ao n cap,.slice bo m c]).run P w=.ok (.slice ao' (n+m) cap') w'/\w'.ownsRow base E 1 (.slice ao' (n+m) cap') (n+m) (xs++news)/\Below base w w':=by
 obtain ⟨hE,hz1,hz2⟩:=hE;obtain ⟨i,hi,hz,hsz,hby⟩:=info_parts hE;obtain ⟨l1,l2,l3,l5⟩:=hl
 by_cases hm:m=0
 ·subst hm
  have hn:news=[]:=List.length_eq_zero_iff.1 l1;subst hn;refine ⟨ao,cap,w,?_,by simpa using hown,Below.refl _ _⟩
  rcases hown.2 with ⟨e,rfl⟩|⟨g,cap',cur,e,_,_,hnc,_⟩
  ·cases e
   cases bo<;>simp [Builtin.append_,run_underlying ht,sizeOf,typeInfo,hi,Builtin.lenOf,Builtin.firstCells,loadCells,loadCellsFrom,storeCells]
  ·cases e
   cases bo<;>simp [Builtin.append_,run_underlying ht,sizeOf,typeInfo,hi,Builtin.lenOf,Builtin.firstCells,hnc,storeCells,loadCells,loadCellsFrom]
 ·have hh:∃u,news[0]? =some u:=⟨_,Bj0 (by omega)⟩
  obtain ⟨u,hu⟩:=hh;obtain ⟨b,o,rfl,_⟩:=hnews 0 u hu;have hn2:∀j u,news[j]? =some u->w.cell? ((⟨b,o,none⟩:Addr).add j)=some u:=fun j u hj=>by
   obtain ⟨b',o',e,h⟩:=hnews j u hj
   cases e
   rw [Addr.add_lit];exact h
  obtain ⟨g,cap',w',hr,ho,hg,_,_⟩:=run_append_lies w t ty base E i z 1 bytes ht hi hz hsz hby hz1 hz2 (.slice ao n cap) n xs hown ⟨b,o,none⟩ m c news (by omega) hn2 h1 (by omega) (by unfold maxLen;omega) l3 l5 _ rfl;exact ⟨_,cap',w',hr,ho,(Below.refl _ w).grown hg l5 (fun k hk=>(hown.lt k hk).1)⟩
end
section
open Go Go.Proofs Go.RowKit Go.Shelf Hp
abbrev toP (t:Int) (a:IK):Bool:=decide (a.1=t)
structure DfI (t:Int) (l cur:List IK) (i j:Nat):Prop where
 le:i<=j
 jn:j<=l.length
 len:cur.length=l.length
 hd:cur.take i=(l.take j).filter (fun a=>!toP t a)
 tl:∀k,j<=k->cur[k]? =l[k]?
theorem DfI.drop {t:Int} {l cur:List IK} {i j:Nat} (h:DfI t l cur i j) (hj:j<l.length) (hp:toP t l[j]=true):DfI t l cur i (j+1):=
 ⟨by have:=h.le;omega,hj,h.len,by rw [h.hd,Bk3 hj,List.filter_append];simp [hp],fun k hk=>h.tl k (by omega)⟩
theorem DfI.keep {t:Int} {l cur:List IK} {i j:Nat} (h:DfI t l cur i j) (hj:j<l.length) (hp:toP t l[j]=false):DfI t l (cur.set i l[j]) (i+1) (j+1):=by
 have hle:=h.le;have hlen:=h.len;refine ⟨by omega,hj,by rw [Bj6];exact hlen,?_,fun k hk=>by rw [Bn3 (by omega)];exact h.tl k (by omega)⟩;rw [Bk3 (by rw [Bj6];omega),Bk3 hj,List.filter_append,<-h.hd];rw [List.getElem_set_self]
 congr 1
 ·rw [List.take_set_of_le (Bi7 _)]
 ·simp [hp]
theorem DfI.begin {t:Int} {l:List IK} {i:Nat} (hi:i<l.length) (hp:toP t l[i]=true) (hb:∀k (h:k<i),toP t (l[k]'(by omega))=false):DfI t l l i (i+1):=by
 refine ⟨by omega,hi,rfl,?_,fun _ _=>rfl⟩;rw [Bk3 hi,List.filter_append];have:(l.take i).filter (fun a=>!toP t a)=l.take i:=by
  rw [List.filter_eq_self];intro a ha;obtain ⟨k,hk,rfl⟩:=Bm9.1 ha;rw [List.getElem_take,hb k (by simp at hk;omega)];rfl
 rw [this];simp [hp]
theorem DfI.done {t:Int} {l cur:List IK} {i:Nat} (h:DfI t l cur i l.length):cur.take i=l.filter (fun a=>!toP t a):=by rw [h.hd,Bn1]
theorem Sc (a:IK) (t:Int) (X:Nat) (w:World) (hx:w.cell? ⟨X,1,none⟩=some (.int .i64 t)):
  Calls Tryz.prog 225 (#[.agg #[.int .i64 a.1,.int .u64 a.2]]++#[.pointer (some ⟨X,0,none⟩)]) w fun e w'=>e=.returned (.bool (toP t a))/\Below w.heap.size w w':=by
 have f:=fun o=>Bi6 (Below.of_al w o) hx;have he:(a.1==t)=toP t a:=by unfold toP;rw [Bool.eq_iff_iff,beq_iff_eq,decide_eq_true_eq]
 go_enter Tryz.func225,Tryz.ntmps225
 go_wp2
 go_ret
 exact ⟨rfl,Below.of_al _ _⟩
def Am0 (t:Int) (l:List IK):Int:=match l.findIdx? (toP t) with
 |some i=>(i:Int)
 |none=>-1
theorem Ag6 {t:Int} {l:List IK} {i:Nat} (hi:i<l.length) (hp:toP t l[i]=true) (hb:∀k (h:k<i),toP t (l[k]'(by omega))=false):Am0 t l=(i:Int):=by
 unfold Am0;have:l.findIdx? (toP t)=some i:=by
  rw [List.findIdx?_eq_some_iff_getElem];exact ⟨hi,hp,fun k hk=>by rw [hb k hk];simp⟩
 rw [this]
theorem Ag5 {t:Int} {l:List IK} (hb:∀k (h:k<l.length),toP t l[k]=false):Am0 t l= -1:=by
 unfold Am0;have:l.findIdx? (toP t)=none:=by
  rw [List.findIdx?_eq_none_iff];intro a ha;obtain ⟨k,hk,rfl⟩:=Bm9.1 ha;exact hb k hk
 rw [this]
theorem Aa9 (t:Int) (l:List IK) (ao:Option Addr) (cap X:Nat) (w:World) (h:Cel w ao (Aq l)) (hx:w.cell? ⟨X,1,none⟩=some (.int .i64 t)) (hl:l.length<=1000000):
  Calls Tryz.prog 261 #[.slice ao l.length cap,.func (.func 225) #[] #[.pointer (some ⟨X,0,none⟩)]] w fun e w'=>e=.returned (.int .i64 (Am0 t l))/\Below w.heap.size w w':=by
 have HC:=Bi5 h;have HX:=Bi5 hx;clear h hx;have hl2:(l.length:Int)<=1000000:=by omega
 generalize hr:Am0 t l=r;have HR:=Bi5 hr;clear hr
 go_enter Tryz.func261,Tryz.ntmps261
 go_wp2
 go_loopg [8] l.length (fun gg v8 wr=>∃j:Nat,j<=l.length/\l.length-j<=gg/\v8=.int .i64 j/\Aside (∀k (h:k<l.length),k<j->toP t l[k]=false)/\Aside (Below w.heap.size w wr))
 case atStart=>exact ⟨0,Bi8 _,by omega,rfl,fun k _ h=>absurd h (Nat.not_lt_zero _),Below.refl _ _⟩
 case round=>
  obtain ⟨j,hj,hg,rfl,HF,HB⟩:=hrel
  by_cases hlt:j<l.length
  ·have hlt2:(j:Int)<(l.length:Int):=by omega
   obtain ⟨x0,x1⟩:=Ay l j hlt;rw [Jg hlt] at x0 x1;obtain ⟨aib,aio,e,y0⟩:=HC.out (j*2) _ x0;subst e;obtain ⟨aib2,aio2,e,y1⟩:=HC.out (j*2+1) _ x1
   cases e
   have z0:=Bi6 HB.out y0;have z1:=Bi6 HB.out y1;rw [<-Nat.add_assoc] at z1;clear y0 y1 x0 x1
   cases hp:toP t l[j] with
   |true=>
    have HA:=Bi5 (hp▸Sc l[j] t X wr (Bi6 HB.out HX.out));have HE:=Bi5 (Ag6 hlt hp (fun k hk=>HF.out k (by omega) hk));clear hp;generalize l[j]=q at*
    go_wp2_with (go_at_call 225;refine HA.out.mono ?_;rintro e w5 ⟨rfl,hb5⟩)
    try simp only [Exit.noGoto]
    go_ret
    exact ⟨by rw [<-HR.out,HE.out];rfl,HB.out.st hb5⟩
   |false=>
    have HA:=Bi5 (hp▸Sc l[j] t X wr (Bi6 HB.out HX.out));have HF2:=Bi5 (show ∀k (h:k<l.length),k<j+1->toP t l[k]=false from fun k h hk=>by
     by_cases e:k=j
     ·subst e;exact hp
     ·exact HF.out k h (by omega))
    clear hp;generalize l[j]=q at*
    go_wp2_with (go_at_call 225;refine HA.out.mono ?_;rintro e w5 ⟨rfl,hb5⟩)
    go_roundg (l.length-(j+1))
    case measure=>omega
    case rel=>exact ⟨j+1,by omega,Bi7 _,by go_num,HF2.out,HB.out.st hb5⟩
  ·obtain rfl:j=l.length:=by omega
   have HE:=Bi5 (Ag5 (t:=t) (fun k hk=>HF.out k hk hk))
   go_wp2
   try simp only [Exit.noGoto]
   go_ret
   exact ⟨by rw [<-HR.out,HE.out];rfl,HB.out⟩
theorem Gp {base size n g cap:Nat} {e:TypeId}:∀(vs:List Value) (o:Nat) (w:World) (xs:List Value),w.ownsRow base e size (.slice (some ⟨g,0,none⟩) n cap) n xs->o+vs.length<=xs.length->
  ∃ys,(w.setCells g o vs).ownsRow base e size (.slice (some ⟨g,0,none⟩) n cap) n ys/\ys.take o=xs.take o/\ys.length=xs.length/\OffX (· =g) w (w.setCells g o vs)
 |[],o,w,xs,h,_=>⟨xs,h,rfl,rfl,.refl _ _⟩
 |v::vs,o,w,xs,h,hl=>by
  have hl2:o+(vs.length+1)<=xs.length:=by simpa using hl
  have h1:=(h.stored o v).1;obtain ⟨ys,y1,y2,y3,y4⟩:=Gp vs (o+1) (w.setCell ⟨g,o,none⟩ v) (xs.set o v) h1 (by rw [Bj6];omega);refine ⟨ys,y1,?_,by rw [y3,Bj6],(OffX.set (X:=(· =g)) v rfl).trans y4⟩;have:=congrArg (List.take o) y2;rw [List.take_take,List.take_take,Nat.min_eq_left (by omega),List.take_set_of_le (Bi7 _)] at this;exact this
theorem Zp {P:Program} (w:World) (t e:TypeId) (z:Value) (ht:P.underlying t=some (.slice e)) (hv:∀w,(zeroValue e).run P w=.ok z w) (h2:z.cells.size=2) (h1:∀u∈z.cells.toList,u.oneCell'=true) (b o n c:Nat) (hn:0<n)
  (hc:∀j,j<n*2->(w.cell? ⟨b,o+j,none⟩).isSome=true) (hf:∀j,j<n*2->w.frozen? ⟨b,o+j,none⟩=false):
  ∃vs,vs.length=n*2/\∀ty,(Builtin.clear_ #[t] ty #[.slice (some ⟨b,o,none⟩) n c]).run P w=.ok (.tuple #[]) (w.setCells b o vs):=by
 have hzl:((Builtin.zeroCells z.cells n).toList).length=n*2:=by simp [Builtin.zeroCells,h2,Nat.mul_comm]
 have hst:=run_storeCells_cells (P:=P) b o (Builtin.zeroCells z.cells n).toList 0 w (by simpa [hzl] using hc) (by simpa [hzl] using hf) (by
  intro v hv'
  apply h1
  simp [Builtin.zeroCells] at hv';obtain ⟨k,hk,rfl⟩:=hv';rw [Array.getElem!_eq_getD];simp [Array.getD,h2,Nat.mod_lt])
 simp only [Nat.add_zero] at hst;obtain ⟨m,rfl⟩:∃m,n=m+1:=⟨n-1,by omega⟩;refine ⟨_,hzl,fun ty=>?_⟩;simp [Builtin.clear_,run_underlying ht,hv,hst]
theorem Xf {w:World} {base size n g cap m:Nat} {e:TypeId} {xs:List Value} (h:w.ownsRow base e size (.slice (some ⟨g,0,none⟩) n cap) n xs) (hm:m<=n):w.ownsRow base e size (.slice (some ⟨g,0,none⟩) m cap) m (xs.take (m*size)):=by
 have hms:m*size<=n*size:=Nat.mul_le_mul_right _ hm;refine ⟨by rw [List.length_take,h.1];omega,?_⟩
 rcases h.2 with ⟨e,_⟩|⟨g',cap',cur,e,h1,h2,h3,h4,h5,h6⟩
 ·cases e
 ·cases e
  refine .inr ⟨g,cap,cur,rfl,h1,h2,by omega,h4,h5,?_⟩;rw [<-h6,List.take_take,Nat.min_eq_left hms]
theorem Rj:∀(l:List IK) (i:Nat),(Aq l).take (i*2)=Aq (l.take i)
 |[],i=>by simp [Aq]
 |x::l,0=>by simp [Aq]
 |x::l,i+1=>by
  rw [show (i+1)*2=i*2+1+1 by omega,Aq,List.take_succ_cons,List.take_succ_cons,Rj l i];rfl
def Ai4 (base:Nat) (t:Int) (l:List IK) (ao:Option Addr) (cap:Nat) (w:World) (e:Ending) (w':World):Prop:=
 e=.returned (.slice ao (l.filter (fun a=>!toP t a)).length cap)/\w'.ownsRow base 253 2 (.slice ao (l.filter (fun a=>!toP t a)).length cap) (l.filter (fun a=>!toP t a)).length (Aq (l.filter (fun a=>!toP t a)))/\
  OffX (fun k=>(Value.slice ao l.length cap).ownBlock=some k) w w'
theorem Yk:Gq Tryz.prog 253 (.agg #[.int .i64 0,.int .u64 0]) 2 16:=⟨by kernel_rfl,rfl,by decide⟩
theorem Ap9 (w:World):(zeroValue 253).run Tryz.prog w=.ok (.agg #[.int .i64 0,.int .u64 0]) w:=by kernel_rfl
theorem Ac8 (base:Nat) (t:Int) (l:List IK) (ao:Option Addr) (cap X:Nat) (w:World) (h:w.ownsRow base 253 2 (.slice ao l.length cap) l.length (Aq l)) (hx:w.cell? ⟨X,1,none⟩=some (.int .i64 t)) (hX:∀k,(Value.slice ao l.length cap).ownBlock=some k->k≠X) (hl:l.length<=1000000):
  Calls Tryz.prog 224 #[.slice ao l.length cap,.func (.func 225) #[] #[.pointer (some ⟨X,0,none⟩)]] w (Ai4 base t l ao cap w):=by
 obtain ⟨ao',c',e,hc⟩:=Cel.of_owns h
 cases e
 have HI:=Bi5 (Aa9 t l ao cap X w hc hx hl);have HO:=Bi5 h;have HX:=Bi5 hx;have hl2:(l.length:Int)<=1000000:=by omega
 unfold Ai4
 by_cases hex:∃i,∃hi:i<l.length,toP t l[i]=true/\∀k (h:k<i),toP t (l[k]'(by omega))=false
 ·obtain ⟨i,hi,hp,hb⟩:=hex
  obtain ⟨g,cg,e⟩:=Ap h (by omega)
  cases e
  rw [Ag6 hi hp hb] at HI;have HD:=Bi5 (DfI.begin hi hp hb);have HGX:=Bi5 (hX g rfl);clear hp hb hc h hx hX;have hi1:((i:Int)== -1)=false:=by rw [beq_eq_false_iff_ne];omega
  have hi2:(i:Int)<(l.length:Int):=by omega
  go_enter Tryz.func224,Tryz.ntmps224
  go_wp2_with (go_at_call 261;refine HI.out.mono ?_;rintro e w1 ⟨rfl,hb1⟩;(have HB1:=Bi5 hb1;clear hb1))
  go_loopg [5,6] l.length (fun gg v5 v6 wr=>∃(i j:Nat) (cur:List IK),i<j/\j<=l.length/\l.length-j<=gg/\v5=.int .i64 i/\v6=.int .i64 j/\Aside (DfI t l cur i j)/\Aside (wr.ownsRow base 253 2 (.slice (some ⟨g,0,none⟩) l.length cap) l.length (Aq cur))/\Aside (OffX (· =g) w wr))
  case atStart=>exact ⟨i,i+1,l,Nat.lt_succ_self i,hi,by omega,rfl,by go_num,HD.out,Af HO.out HB1.out,.of_below HB1.out⟩
  case round=>
   clear HD HI HB1 hi hi1 hi2;obtain ⟨i,j,cur,hij,hj,hg,rfl,rfl,HD,HR,HF⟩:=hrel;have hcl:=HD.out.len
   by_cases hlt:j<l.length
   ·have hlt2:(j:Int)<(l.length:Int):=by omega
    have hi2:(i:Int)<(l.length:Int):=by omega
    have hcj:cur[j]'(by omega)=l[j]:=by
     have:=HD.out.tl j (Bi7 _);rw [Bj0 (by omega),Bj0 hlt] at this;exact Bl4 this
    obtain ⟨x0,x1⟩:=Ay cur j (by omega);rw [Jg (by omega),hcj] at x0 x1;have y0:=(HR.out.cellAt (j*2) (by omega)).trans x0;have y1:=(HR.out.cellAt (j*2+1) (by omega)).trans x1;clear x0 x1 hcj;have cX:=HF.out.cell HX.out (fun e=>HGX.out e.symm);have HA:=Bi5 (fun o=>Sc l[j] t X (wr.alloc o) (Bi6 (Below.of_al wr o) cX));have z0:=HR.out.frozenAt (i*2);have z1:=HR.out.frozenAt (i*2+1);obtain ⟨x0,x1⟩:=Ay cur i (by omega);have HP:=Bi5 (And.intro ((HR.out.cellAt (i*2) (by omega)).trans x0) ((HR.out.cellAt (i*2+1) (by omega)).trans x1));have HIJ:=Bi5 hij;have hi0:(0:Int)<=(i:Int):=by omega
    clear cX x0 x1 z0 z1
    cases hp:toP t l[j] with
    |true=>
     have HD2:=Bi5 (HD.out.drop hlt hp);rw [hp] at HA;clear hp;generalize l[j]=q at*
     go_wp2_with (go_at_call 225;refine (HA.out _).mono ?_;rintro e w5 ⟨rfl,hb5⟩;(have HB5:=Bi5 ((Below.of_al wr _).st hb5));clear hb5)
     go_roundg (l.length-(j+1))
     case measure=>omega
     case rel=>exact ⟨i,j+1,cur,by omega,by omega,Bi7 _,rfl,by go_num,HD2.out,Af HR.out HB5.out,HF.out.trans (.of_below HB5.out)⟩
    |false=>
     have HD2:=Bi5 (HD.out.keep hlt hp);rw [hp] at HA;clear hp;generalize l[j]=q at*
     go_wp2_with (go_at_call 225;refine (HA.out _).mono ?_;rintro e w5 ⟨rfl,hb5⟩;(have HB5:=Bi5 ((Below.of_al wr _).st hb5));(have c5:w5.cell? ⟨wr.heap.size,0,none⟩=some (.int .i64 q.1):=Bi6 hb5 (by go_simp));(have c6:w5.cell? ⟨wr.heap.size,1,none⟩=some (.int .u64 q.2):=Bi6 hb5 (by go_simp));(have p0:=Bi6 HB5.out HP.out.1);(have p1:=Bi6 HB5.out HP.out.2);(have z0:=(Af HR.out HB5.out).frozenAt (i*2));(have z1:=(Af HR.out HB5.out).frozenAt (i*2+1));clear hb5)
     have hown:((w5.setCell ⟨g,i*2,none⟩ (.int .i64 q.1)).setCell ⟨g,i*2+1,none⟩ (.int .u64 q.2)).ownsRow base 253 2 (.slice (some ⟨g,0,none⟩) l.length cap) l.length (Aq (cur.set i q)):=by
      have h1:=((Af HR.out HB5.out).stored (i*2) (.int .i64 q.1)).1;have h2:=(h1.stored (i*2+1) (.int .u64 q.2)).1;rw [Nw] at h2;exact h2
     go_roundg (l.length-(j+1))
     case measure=>omega
     case rel=>exact ⟨i+1,j+1,cur.set i q,by omega,by omega,Bi7 _,by go_num,by go_num,HD2.out,hown,((HF.out.trans (.of_below HB5.out)).trans (.set _ rfl)).trans (.set _ rfl)⟩
   ·obtain rfl:j=l.length:=by omega
    obtain ⟨vs,hvs,hclr⟩:=Zp (P:=Tryz.prog) wr 247 253 _ Tryz.underlying247 Ap9 rfl (fun u hu=>Po 0 0 u hu) g (i*2) (l.length-i) (cap-i) (by omega)
     (fun k hk=>by rw [HR.out.cellAt (i*2+k) (by omega),Bj0 (by rw [Kb];omega)];rfl) (fun k hk=>HR.out.frozenAt _)
    obtain ⟨ys,ho,hys,_,hof⟩:=Gp vs (i*2) wr _ HR.out (by rw [Kb];omega);have hcut:=Xf ho (Nat.le_of_lt hij);have hfl:(l.filter (fun a=>!toP t a)).length=i:=by rw [<-HD.out.done,List.length_take];omega
    have htk:ys.take (i*2)=Aq (l.filter (fun a=>!toP t a)):=by rw [hys,Rj,HD.out.done]
    rw [htk] at hcut;have HCUT:=Bi5 hcut;have HOF:=Bi5 (HF.out.trans hof);have HFL:=Bi5 hfl;have hcap:=Nj HR.out;have hi0:(0:Int)<=(i:Int):=by omega
    clear ho hys hof hcut hfl htk hvs
    go_wp2
    go_ret
    rw [HFL.out];exact ⟨rfl,HCUT.out,HOF.out.mono (fun k e=>by rw [e];rfl)⟩
 ·have hno:∀k (h:k<l.length),toP t l[k]=false:=by
   have:∀n k,k<n->∀(h:k<l.length),toP t l[k]=false:=by
    intro n
    induction n with
    |zero=>intro k hk;omega
    |succ n ih=>
     intro k hk h
     cases hp:toP t l[k] with
     |false=>rfl
     |true=>exact absurd ⟨k,h,hp,fun k' h'=>ih k' (by omega) (by omega)⟩ hex
   exact fun k h=>this (k+1) k (by omega) h
  rw [Ag5 hno] at HI;have hf:l.filter (fun a=>!toP t a)=l:=by
   rw [List.filter_eq_self];intro a ha;obtain ⟨k,hk,rfl⟩:=Bm9.1 ha;rw [hno k hk];rfl
  rw [hf];clear hf hno hex h hc hx hX
  go_enter Tryz.func224,Tryz.ntmps224
  go_wp2_with (go_at_call 261;refine HI.out.mono ?_;rintro e w1 ⟨rfl,hb1⟩)
  go_ret
  exact ⟨rfl,Af HO.out hb1,.of_below hb1⟩
end
end Go.Proofs.YteaaapdjplbljaaGreat
