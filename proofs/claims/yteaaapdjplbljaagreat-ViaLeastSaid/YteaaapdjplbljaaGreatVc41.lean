/- Parts; no condition. -/
import Derived.Test.YteaaapdjplbljaaGreatVc39
import Derived.Maps.Views
set_option linter.unusedVariables false
set_option linter.unusedSimpArgs false
set_option linter.unnecessarySimpa false
set_option maxRecDepth 100000
set_option maxHeartbeats 8000000
namespace Go.Proofs.YteaaapdjplbljaaGreat
section
open Go Go.Proofs Go.RowKit Go.Shelf Ch
def Ii (n k:Nat):List Int:=(List.range n).map fun i=>if i<k then FAR else 0
theorem An3 (n k:Nat):(Ii n k).length=n:=by simp [Ii]
theorem Ac1 (n:Nat):Ii n 0=List.replicate n 0:=by
 unfold Ii
 apply List.ext_getElem<;>simp
theorem An4 (n:Nat):Ii n n=List.replicate n FAR:=by
 unfold Ii
 apply List.ext_getElem
 ·simp
 ·intro i h1 h2
  simp at h1;simp [h1]
theorem An2 {n k:Nat} (h:k<n):(Ii n k).set k FAR=Ii n (k+1):=by
 unfold Ii
 apply List.ext_getElem
 ·simp
 ·intro i h1 h2
  simp at h1;rw [List.getElem_set]
  by_cases e:k=i
  ·subst e;simp
  ·rw [if_neg e]
   simp only [List.getElem_map,List.getElem_range];have:(i<k)↔(i<k+1):=by omega
   simp [this]
structure AllM (W:World) (D n:Nat) (aw:Option Addr) (es:List EdgeD) (d:List Int) (wr:World):Prop where
 row:wr.ownsRow D 37 1 (.slice (some ⟨D,0,none⟩) n n) n (d.map Bz)
 bel:Below D W wr
 wts:Cel wr aw (Uo es)
 awf:∀b o,aw=some ⟨b,o,none⟩->D<b
section
variable {W wr wr':World} {D n:Nat} {aw:Option Addr} {es:List EdgeD} {d:List Int}
theorem AllM.go (h:AllM W D n aw es d wr) (hb:Below wr.heap.size wr wr') (hD:D<=wr.heap.size):AllM W D n aw es d wr':=⟨Af h.row hb,h.bel.trans (hb.mono hD),h.wts.go hb,h.awf⟩
theorem AllM.lt (h:AllM W D n aw es d wr):D<wr.heap.size:=(h.row.lt D rfl).2
theorem AllM.set (h:AllM W D n aw es d wr) (u:Nat) (x:Int):AllM W D n aw es (d.set u x) (wr.setCell ⟨D,u,none⟩ (.int .u64 x)):=by
 refine ⟨?_,h.bel.setCell (Bi7 _) _,?_,h.awf⟩
 ·have:=(h.row.stored u (.int .u64 x)).1
  rw [List.map_set];exact this
 ·intro i v hi
  obtain ⟨b,o,e,h1⟩:=h.wts i v hi;refine ⟨b,o,e,?_⟩;rw [Bj3]
  ·exact h1
  ·intro k
   have:=h.awf b o e
   cases k
   omega
theorem AllM.drew (h:AllM W D n aw es d wr):AllM W D n aw es d wr.drew:=h.go (Below.of_dr _ _) (Nat.le_of_lt h.lt)
theorem AllM.at (h:AllM W D n aw es d wr) (hl:d.length=n) {u:Nat} (hu:u<n):wr.cell? ⟨D,u,none⟩=some (.int .u64 (gD d u)):=by
 have h1:=h.row.cellAt u (by omega);rw [h1,Bk4,Bj0 (by omega)];unfold gD;rw [Bj9,Bj1,Bj0 (by omega)];rfl
theorem AllM.wt (h:AllM W D n aw es d wr) {k:Nat} (hk:k<es.length):∃b o,aw=some ⟨b,o,none⟩/\wr.cell? ⟨b,o+k,none⟩=some (.int .u64 es[k].w):=by
 have:(Uo es)[k]? =some (.int .u64 es[k].w):=by unfold Uo;rw [Bk4,Bj0 hk];rfl
 exact h.wts k _ this
end
def Bd2 (es:List EdgeD) (back:Bool) (no:List Int) (s:Int) (n:Nat) (aw:Option Addr) (W:World) (k:Nat) (v:Value) (wr:World):Prop:=
 ∃c d,v=.bool c/\Rds (Bo es back no) s n k ((es.length:Int)*4294967296) d c/\AllM W W.heap.size n aw es d wr
theorem Ar8 {back:Bool} {no:List Int} {p:List Int×Bool} {e:EdgeD} (h:Fb no e=false):Db back no p e=p:=by unfold Db;rw [h];rfl
theorem Xb {back:Bool} {no:List Int} {p:List Int×Bool} {e:EdgeD} {u v:Nat} (hu:(Fe back e).1=(u:Int)) (hv:(Fe back e).2=(v:Int)) (h:¬(gD p.1 u<4611686018427387904/\gD p.1 u+e.w<gD p.1 v)):Db back no p e=p:=by
 unfold Db Dh Ih Ah9;simp only [hu,hv]
 split
 ·rw [if_neg]
  simp only [Bool.and_eq_true,decide_eq_true_eq];exact h
 ·rfl
theorem Zr {back:Bool} {no:List Int} {p:List Int×Bool} {e:EdgeD} {u v:Nat} (hc:Fb no e=true) (hu:(Fe back e).1=(u:Int)) (hv:(Fe back e).2=(v:Int)) (h:gD p.1 u<4611686018427387904) (h2:gD p.1 u+e.w<gD p.1 v):Db back no p e=(p.1.set v (gD p.1 u+e.w),true):=by
 unfold Db Dh Ih Ah9;simp only [hu,hv,hc,if_true];rw [if_pos]
 ·rw [Bj9]
 ·simp only [Bool.and_eq_true,decide_eq_true_eq]
  exact ⟨h,h2⟩
def AllPost (es:List EdgeD) (n:Nat) (s:Int) (back:Bool) (no:List Int) (w:World) (e:Ending) (w':World):Prop:=
 ∃(b:Nat) (d:List Int),e=.returned (.slice (some ⟨b,0,none⟩) n n)/\Cel w' (some ⟨b,0,none⟩) (d.map Bz)/\Below w.heap.size w w'/\w.heap.size<=b/\AllIs es n s back no d
theorem AllM.post {W wr w:World} {D n:Nat} {aw:Option Addr} {es:List EdgeD} {d no:List Int} {s:Int} {back:Bool} (h:AllM W D n aw es d wr) (hb:Below w.heap.size w W) (hD:w.heap.size<=D) (hW:D=W.heap.size) (hi:AllIs es n s back no d):AllPost es n s back no w (.returned (.slice (some ⟨D,0,none⟩) n n)) wr:=by
 refine ⟨D,d,rfl,?_,hb.trans (h.bel.mono hD),hD,hi⟩;obtain ⟨ao,cap,e,h1⟩:=Cel.of_owns h.row
 cases e
 exact h1
theorem Zt (n s:Nat) (es:List EdgeD) (ao no:Option Addr) (cap nc:Nat) (back:Bool) (l:List Int) (w:World) (hg:Ak ⟨(n:Int),es⟩=0) (hn:n<=100) (hes:es.length<=300) (hs:s<n) (hl:l.length<=1000000) (hc:Cel w ao (Ax es)) (hno:Cel w no (l.map Aj)):
  Calls Tryz.prog 71 #[.agg #[.int .i64 (n:Int),.slice ao es.length cap],.int .i64 (s:Int),Be6 back no l.length nc] w (AllPost es n s back l w):=by
 obtain ⟨W,hW⟩:∃W,W=(w.alloc (Obj.cells #[.int .i64 (n:Int),.slice ao es.length cap] 24)).alloc (Obj.cells #[.bool back,.slice no l.length nc,.slice none 0 0,.slice none 0 0,.int .u64 0] 119):=⟨_,rfl⟩;have hbw:Below w.heap.size w W:=by rw [hW];exact (Below.of_al _ _).al _
 have c0:W.cell? ⟨w.heap.size,0,none⟩=some (.int .i64 (n:Int)):=by rw [hW];go_simp
 have c1:W.cell? ⟨w.heap.size,1,none⟩=some (.slice ao es.length cap):=by rw [hW];go_simp
 have o0:W.cell? ⟨w.heap.size+1,0,none⟩=some (.bool back):=by rw [hW];go_simp
 have o1:W.cell? ⟨w.heap.size+1,1,none⟩=some (.slice no l.length nc):=by rw [hW];go_simp
 have o2:W.cell? ⟨w.heap.size+1,2,none⟩=some (.slice none 0 0):=by rw [hW];go_simp
 have o3:W.cell? ⟨w.heap.size+1,3,none⟩=some (.slice none 0 0):=by rw [hW];go_simp
 have o4:W.cell? ⟨w.heap.size+1,4,none⟩=some (.int .u64 0):=by rw [hW];go_simp
 have HS:=Bi5 (show W.heap.size=w.heap.size+2 by rw [hW];simp);have HB:=Bi5 hbw;have HW:=Bi5 hW;have HC:=Bi5 (hc.go hbw);have HN:=Bi5 (hno.go hbw);have hE:=Jk hg rfl;have HG:=Bi5 (Ap5 (es:=es) (n:=n) (back:=back) (no:=l) (fun u v x ⟨y,hy,e1,e2,e3⟩=>by
  have:=hE.ok y hy;rw [e1,e2,e3] at this;exact ⟨this.1,this.2.1,this.2.2.2.1,this.2.2.2.2⟩))
 have HED:=Bi5 (fun j (hj:j<es.length)=>by
  have:=hE.ok es[j] (Bj7 hj);exact (⟨this.1,this.2.1,this.2.2.2.1,this.2.2.2.2⟩:Aa n es[j].f/\Aa n es[j].t/\1<=es[j].w/\es[j].w<=4294967296))
 have X1:=Bi5 (fun WX (hz:Below W.heap.size W WX)=>Hq no nc l (s:Int) WX (by omega) (HN.out.go hz));have X2:=Bi5 (fun WX (hz:Below W.heap.size W WX)=>Qd (n:Int) es ao no cap l.length nc back WX hg (by omega) (HC.out.go hz));have X4:=Bi5 (fun WX (hz:Below W.heap.size W WX) k hk=>Sn (n:Int) es ao no cap nc back l k hk WX hl (by omega) (HC.out.go hz) (HN.out.go hz));have hn0:0<n:=by omega
 have hs0:(0:Int)<=(s:Int):=by omega
 have hs1:(s:Int)<(n:Int):=by omega
 have hn12:(n:Int)<=100:=by omega
 have he40:(es.length:Int)<=300:=by omega
 unfold Vu at X2;clear hW hbw hc hno hg hE
 go_enter Tryz.func71,Tryz.ntmps71
 go_upto_region 1 with (fail)
 rw [<-HW.out]
 go_wp2_with (at_make;go_must ((with_reducible refine Ef W.heap.size 37 _ 1 8 Rp Tryz.underlying60 n ?_ ?_ ?_ ?_ ?_ ?_ ?_ ?_);rotate_left 4;(· rfl);(· rfl);(· exact ⟨by simp,by simp,by omega,by omega,by simp⟩);intro wm hown hbl hszm;(have Hmo:=Bi5 hown;have Hmb:=Bi5 hbl;clear hown hbl)))
 have HZ0:=Bi5 (show (madeCells (Value.int .u64 0).cells (n*1)).toList=(Ii n 0).map Bz by
  show (madeCells #[Value.int .u64 0] (n*1)).toList=_
  rw [Nat.mul_one,toList_madeCells_one,Ac1,List.map_replicate])
 go_loopg [8] n (fun gg i wr=>∃k:Nat,k<=n/\n-k<=gg/\i=.int .i64 k/\Aside (W.heap.size<wr.heap.size)/\Aside (wr.ownsRow W.heap.size 37 1 (.slice (some ⟨W.heap.size,0,none⟩) n n) n ((Ii n k).map Bz))/\Aside (Below W.heap.size W wr))
 case atStart=>exact ⟨0,Bi8 _,by omega,rfl,hszm,by have:=Hmo.out;rw [HZ0.out] at this;exact this,Hmb.out⟩
 case round=>
  obtain ⟨k,hk,hgg,rfl,HZ2,HO,HBr⟩:=hrel;clear HZ0;have p0:=Bi6 HBr.out c0
  by_cases hlt:k<n
  ·have hlt3:(k:Int)<(n:Int):=by omega
   have hk0:(0:Int)<=(k:Int):=by omega
   obtain ⟨u,j4⟩:∃u,wr.cell? ⟨W.heap.size,k,none⟩=some u:=by
    rw [HO.out.cellAt k (by omega),Bk4,Bj0 (by rw [An3];omega)];exact ⟨_,rfl⟩
   have j6:=HO.out.frozenAt k;have HO2:=Bi5 (show (wr.setCell ⟨W.heap.size,k,none⟩ (Bz 4611686018427387904)).ownsRow W.heap.size 37 1 (.slice (some ⟨W.heap.size,0,none⟩) n n) n ((Ii n (k+1)).map Bz) by
    have:=(HO.out.stored k (Bz 4611686018427387904)).1;rw [<-An2 hlt,List.map_set];exact this)
   go_wp2
   go_roundg (n-(k+1))
   case measure=>omega
   case rel=>exact ⟨k+1,by omega,by omega,by go_num,(show W.heap.size<(wr.setCell ⟨W.heap.size,k,none⟩ (Bz 4611686018427387904)).heap.size by have:=HZ2.out;simpa [World.setCell] using this),HO2.out,HBr.out.setCell (Bi7 _) _⟩
  ·obtain rfl:n=k:=by omega
   have HR:=Bi5 (show wr.ownsRow W.heap.size 37 1 (.slice (some ⟨W.heap.size,0,none⟩) n n) n ((List.replicate n FAR).map Bz) by have:=HO.out;rwa [An4] at this);clear HO;obtain ⟨u,j4⟩:∃u,wr.cell? ⟨W.heap.size,s,none⟩=some u:=by
    rw [HR.out.cellAt s (by omega),Bk4,Bj0 (by simpa using hs)];exact ⟨_,rfl⟩
   have j6:=HR.out.frozenAt s;have HB2:=Bi5 (show Below W.heap.size W (wr.setCell ⟨W.heap.size,s,none⟩ (Bz 0)) from HBr.out.setCell (Bi7 _) _);have HR2:=Bi5 (show (wr.setCell ⟨W.heap.size,s,none⟩ (Bz 0)).ownsRow W.heap.size 37 1 (.slice (some ⟨W.heap.size,0,none⟩) n n) n (((List.replicate n FAR).set s 0).map Bz) by
    have:=(HR.out.stored s (Bz 0)).1;rw [List.map_set];exact this)
   have HSZ:=Bi5 (show (wr.setCell ⟨W.heap.size,s,none⟩ (Bz 0)).heap.size=wr.heap.size by simp [World.setCell]);have r0:=Bi6 HB2.out c0;have r1:=Bi6 HB2.out c1;have s0:=Bi6 HB2.out o0;have s1:=Bi6 HB2.out o1;have s2:=Bi6 HB2.out o2;have s3:=Bi6 HB2.out o3;have s4:=Bi6 HB2.out o4;have t1:=Bi6 HBr.out o1;have X1r:=Bi5 (X1.out wr HBr.out);have X2r:=Bi5 (X2.out _ HB2.out)
   by_cases hin:(s:Int)∈l
   ·rw [decide_eq_true hin] at X1r
    have HI:=Bi5 hin;clear hin r0 r1 s0 s1 s2 s3 s4 j4 j6 X2 X4
    go_wp2_with (go_at_call 44;refine X1r.out.mono ?_;rintro e w1 ⟨rfl,rfl⟩)
    go_ret
    obtain ⟨a9,k9,e9,h9⟩:=Cel.of_owns HR.out
    cases e9
    exact ⟨W.heap.size,_,rfl,h9,HB.out.st HBr.out,by have:=HS.out;omega,AllIs.out HI.out⟩
   ·rw [decide_eq_false hin] at X1r
    have HI:=Bi5 hin;clear hin
    go_wp2_with (first
     |(go_at_call 44;refine X1r.out.mono ?_;rintro e w1 ⟨rfl,rfl⟩)
     |(go_at_call 120;refine X2r.out.mono ?_;rintro e w3 ⟨aw,cw,rfl,hw1,hw2,hw3⟩;(have HM3:=Bi5 (show AllM W W.heap.size n aw es ((List.replicate n FAR).set s 0) w3 from ⟨Af HR2.out hw2,HB2.out.st hw2,hw1,fun b o e=>by (have h8:=hw3 b (by rw [e];rfl));(have:=HSZ.out);(have:=HZ2.out);omega⟩));clear hw1 hw2 hw3))
    clear r0 r1 s0 s1 s2 s3 s4 t1 j4 j6 p0 X1r X2r X1 X2 HR HR2 HB2 HSZ HZ2 HBr;have HR0:=Bi5 (show Rds (Bo es back l) (s:Int) n 0 ((es.length:Int)*4294967296) ((List.replicate n FAR).set s 0) true by
     have:=Rds.start (Bo es back l) ((es.length:Int)*4294967296) (show node n (s:Int) from ⟨hs0,hs1⟩)
     rwa [Bj9] at this)
    go_loopg [10,11] (n+1) (fun gg v10 v11 wr=>∃k:Nat,k<=n+1/\n+1-k<=gg/\v11=.int .i64 k/\Aside (Bd2 es back l (s:Int) n aw W k v10 wr))
    case atStart=>exact ⟨0,Bi8 _,by omega,rfl,⟨true,_,rfl,HR0.out,HM3.out⟩⟩
    case round=>
     obtain ⟨k,hk,hgg,rfl,HA⟩:=hrel;obtain ⟨c,d,rfl,hR,hM⟩:=HA.out;have p0:=Bi6 hM.bel c0;have HM:=Bi5 hM;have HRd:=Bi5 hR;clear HA hM hR HM3 HR0
     by_cases hgo:k<=n/\c=true
     ·obtain ⟨hkn,rfl⟩:=hgo
      obtain ⟨f,hf⟩:∃f:Nat->List Int×Bool,f=fun j=>(es.take j).foldl (Db back l) (d,false):=⟨_,rfl⟩;have HF0:=Bi5 (show f 0=(d,false) by rw [hf];rfl);have HFS:=Bi5 (fun j (hj:j<es.length)=>(by rw [hf];exact Xc hj:f (j+1)=Db back l (f j) es[j]));have HFE:=Bi5 (show f es.length=Cs d (Bo es back l) by rw [hf];simp only [Bn1];exact Uy es back l d);have hB0:(0:Int)<=(k:Int)*((es.length:Int)*4294967296):=Int.mul_nonneg (by omega) (by omega);have hB1:(k:Int)*((es.length:Int)*4294967296)<=101*(300*4294967296):=Int.mul_le_mul (by omega) (by omega) (by omega) (by omega);have HBD:=Bi5 (fun j=>(by rw [hf];exact Ba4 HG.out ⟨hs0,hs1⟩ (by omega) HRd.out.so hB0 (by show _<(4611686018427387904:Int);omega) j:(f j).1.length=n/\∀v,node n v->0<=gD (f j).1 v/\gD (f j).1 v<=4611686018427387904));have HRN:=Bi5 (HRd.out.go (W:=4294967296) HG.out (by omega) ⟨hs0,hs1⟩ (Int.mul_le_mul_of_nonneg_right (by have:=Yt (es:=es) (back:=back) (no:=l);omega) (by omega)) (by omega) (by show _<(4611686018427387904:Int);omega));have hkn3:(k:Int)<=(n:Int):=by omega
      clear hf hB0 hB1 HRd
      go_wp2
      go_loopg [10,12] es.length (fun gg v10 v12 wr=>∃j:Nat,j<=es.length/\es.length-j<=gg/\v12=.int .i64 j/\Aside (v10=.bool (f j).2/\AllM W W.heap.size n aw es (f j).1 wr))
      case atStart=>exact ⟨0,Bi8 _,by omega,rfl,by rw [HF0.out];exact ⟨rfl,HM.out⟩⟩
      case round=>
       obtain ⟨j,hj,hgj,rfl,HA⟩:=hrel;obtain ⟨rfl,hM⟩:=HA.out;have q1:=Bi6 hM.bel c1;clear HM p0 HA;have HM:=Bi5 hM;clear hM
       by_cases hlt:j<es.length
       ·have hlt3:(j:Int)<(es.length:Int):=by omega
        have hj0:(0:Int)<=(j:Int):=by omega
        have hbl:=HM.out.bel;obtain ⟨qb,qo,rfl,y0,y1,y2⟩:=(HC.out.go hbl).edge hlt;obtain ⟨wb,wo,rfl,y3⟩:=HM.out.wt hlt;obtain ⟨e1,e2,e3,e4⟩:=HED.out j hlt;have hends:Aa n (Fe back es[j]).1/\Aa n (Fe back es[j]).2:=by
         unfold Fe
         cases back
         ·exact ⟨e1,e2⟩
         ·exact ⟨e2,e1⟩
        obtain ⟨⟨u0,u1⟩,v0,v1⟩:=hends;obtain ⟨u,hu⟩:∃u:Nat,(Fe back es[j]).1=u:=⟨(Fe back es[j]).1.toNat,by omega⟩;obtain ⟨v,hv⟩:∃v:Nat,(Fe back es[j]).2=v:=⟨(Fe back es[j]).2.toNat,by omega⟩;rw [hu] at u0 u1;rw [hv] at v0 v1;have hun:u<n:=by omega
        have hvn:v<n:=by omega
        have hdl:=(HBD.out j).1;obtain ⟨x0,x1⟩:=(HBD.out j).2 (u:Int) ⟨u0,u1⟩;obtain ⟨z0,z1⟩:=(HBD.out j).2 (v:Int) ⟨v0,v1⟩;have HAT:=Bi5 (fun WX (hz:Below wr.heap.size wr WX)=>(⟨(HM.out.go hz (Nat.le_of_lt HM.out.lt)).at hdl hun,(HM.out.go hz (Nat.le_of_lt HM.out.lt)).at hdl hvn,(HM.out.go hz (Nat.le_of_lt HM.out.lt)).row.frozenAt v⟩:WX.cell? ⟨W.heap.size,u,none⟩=some (.int .u64 (gD (f j).1 u))/\WX.cell? ⟨W.heap.size,v,none⟩=some (.int .u64 (gD (f j).1 v))/\WX.frozen? ⟨W.heap.size,v,none⟩=false));have X3:=Bi5 (fun WX=>Xd es[j] back WX);rw [hu,hv] at X3;have X5:=Bi5 (fun WX (hz:Below wr.heap.size wr WX)=>X4.out WX (hbl.trans (hz.mono (Nat.le_of_lt HM.out.lt))) j hlt);have HN1:=Bi5 (fun (h:Fb l es[j]=false)=>(HFS.out j hlt).trans (Ar8 h));have HN2:=Bi5 (fun h=>(HFS.out j hlt).trans (Xb (no:=l) hu hv h));have HN3:=Bi5 (fun hc h1 h2=>(HFS.out j hlt).trans (Zr (no:=l) hc hu hv h1 h2));clear hu hv hdl;generalize hbv:Fb l es[j]=cb at*;clear hbv;generalize es[j]=e at*;obtain ⟨ef,et,ew⟩:=e;simp only at y0 y1 y2 y3 e3 e4 HN2 HN3 X3;generalize gD (f j).1 (u:Int)=x at*;generalize gD (f j).1 (v:Int)=y at*;have a0:=Bi6 hbl c0;have b0:=Bi6 hbl o0;have b1:=Bi6 hbl o1;have b2:=Bi6 hbl o2;have b3:=Bi6 hbl o3;have b4:=Bi6 hbl o4;have f1:=fun p=>Ac p q1;have f2:=fun p=>Ac p y0;have f3:=fun p=>Ac p y1;have f4:=fun p=>Ac p y2;have f5:=fun p=>Ac p b0;clear e1 e2 hbl
        go_wp2
        refine Ag (by kernel_rfl) (by kernel_rfl) ?_
        repeat (go_big_quiet_step ((go_at_call 126;exact Calls.ext_of (X3.out _))))
        refine wpQuiet_nil ?_;rintro _ ⟨pq,rfl⟩;have HBq:=Bi5 (Ah wr pq);generalize ext wr pq=wq at HBq ⊢;clear f1 f2 f3 f4 f5 y0 y1 y2;obtain ⟨k1,k2,-⟩:=HAT.out wq HBq.out;have g0:=Bi6 HBq.out a0;have g1:=Bi6 HBq.out q1;have g2:=Bi6 HBq.out b0;have g3:=Bi6 HBq.out b1;have g4:=Bi6 HBq.out b2;have g5:=Bi6 HBq.out b3;have g6:=Bi6 HBq.out b4;have g7:=Bi6 HBq.out y3;have f0:=fun p=>Ac p g0;have f1:=fun p=>Ac p g1;have f2:=fun p=>Ac p g2;have f3:=fun p=>Ac p g3;have f4:=fun p=>Ac p g4;have f5:=fun p=>Ac p g5;have f6:=fun p=>Ac p g6;have f7:=fun p=>Ac p g7;have f8:=fun p=>Ac p k1;have f9:=fun p=>Ac p k2;have X6:=Bi5 (fun p=>X5.out (ext wq p) (HBq.out.st (Ah wq p)));clear a0 b0 b1 b2 b3 b4 q1 y3 X4 X5 X3
        cases cb with
        |false=>
         have HST:=Bi5 (HN1.out rfl)
         go_wp2
         refine Ag (by kernel_rfl) (by kernel_rfl) ?_
         repeat (go_big_quiet_step ((go_at_call 121;exact Calls.ext_of (X6.out _))))
         refine wpQuiet_nil ?_;rintro _ ⟨ps,rfl⟩;have HBs:=Bi5 (Ah wq ps);generalize ext wq ps=ws at HBs ⊢
         go_wp2
         go_roundg (es.length-(j+1))
         case measure=>omega
         case rel=>exact ⟨j+1,by omega,Bi7 _,by go_num,by rw [HST.out];exact ⟨rfl,HM.out.go (HBq.out.st HBs.out) (Nat.le_of_lt HM.out.lt)⟩⟩
        |true=>
         by_cases hx:x<4611686018427387904
         ·by_cases hy:x+ew<y
          ·have HST:=Bi5 (HN3.out rfl hx hy)
           go_wp2
           refine Ag (by kernel_rfl) (by kernel_rfl) ?_
           repeat (go_big_quiet_step ((go_at_call 121;exact Calls.ext_of (X6.out _))))
           refine wpQuiet_nil ?_;rintro _ ⟨ps,rfl⟩;have HBs:=Bi5 (Ah wq ps);generalize ext wq ps=ws at HBs ⊢;clear f0 f1 f2 f3 f4 f5 f6 f7 f8 f9;obtain ⟨k4,k5,k6⟩:=HAT.out ws (HBq.out.st HBs.out);have g8:=Bi6 HBs.out g7
           go_wp2
           go_region
           go_wp2
           go_roundg (es.length-(j+1))
           case measure=>omega
           case rel=>exact ⟨j+1,by omega,Bi7 _,by go_num,by rw [HST.out];exact ⟨rfl,((HM.out.go (HBq.out.st HBs.out) (Nat.le_of_lt HM.out.lt)).set v (x+ew)).drew⟩⟩
          ·have HST:=Bi5 (HN2.out fun h=>hy h.2)
           go_wp2
           refine Ag (by kernel_rfl) (by kernel_rfl) ?_
           repeat (go_big_quiet_step ((go_at_call 121;exact Calls.ext_of (X6.out _))))
           refine wpQuiet_nil ?_;rintro _ ⟨ps,rfl⟩;have HBs:=Bi5 (Ah wq ps);generalize ext wq ps=ws at HBs ⊢
           go_wp2
           go_roundg (es.length-(j+1))
           case measure=>omega
           case rel=>exact ⟨j+1,by omega,Bi7 _,by go_num,by rw [HST.out];exact ⟨rfl,HM.out.go (HBq.out.st HBs.out) (Nat.le_of_lt HM.out.lt)⟩⟩
         ·have HST:=Bi5 (HN2.out fun h=>hx h.1)
          obtain rfl:x=4611686018427387904:=by omega
          go_wp2
          refine Ag (by kernel_rfl) (by kernel_rfl) ?_
          repeat (go_big_quiet_step ((go_at_call 121;exact Calls.ext_of (X6.out _))))
          refine wpQuiet_nil ?_;rintro _ ⟨ps,rfl⟩;have HBs:=Bi5 (Ah wq ps);generalize ext wq ps=ws at HBs ⊢
          go_wp2
          go_roundg (es.length-(j+1))
          case measure=>omega
          case rel=>exact ⟨j+1,by omega,Bi7 _,by go_num,by rw [HST.out];exact ⟨rfl,HM.out.go (HBq.out.st HBs.out) (Nat.le_of_lt HM.out.lt)⟩⟩
       ·obtain rfl:j=es.length:=by omega
        have HFE2:=Bi5 (show Bd2 es back l (s:Int) n aw W (k+1) (.bool (f es.length).2) wr by
         rw [HFE.out];refine ⟨_,_,rfl,HRN.out,?_⟩;have:=HM.out
         rwa [HFE.out] at this)
        go_wp2
        go_roundg (n+1-(k+1))
        case measure=>omega
        case rel=>exact ⟨k+1,by omega,Bi7 _,by go_num,HFE2.out⟩
     ·have hB1:(k:Int)*((es.length:Int)*4294967296)<=101*(300*4294967296):=Int.mul_le_mul (by omega) (by omega) (by omega) (by omega)
      have HX:=Bi5 (show AllIs es n (s:Int) back l d from Exact.is (HRd.out.done HG.out (by cases c;exact .inl rfl;exact .inr (by have:¬k<=n:=fun h=>hgo ⟨h,rfl⟩;omega))) HRd.out.so HG.out HI.out (by omega));have hcase:((k:Int)<=(n:Int)/\c=false)\/¬((k:Int)<=(n:Int)):=by
       cases c
       ·by_cases h:(k:Int)<=(n:Int)
        ·exact .inl ⟨h,rfl⟩
        ·exact .inr h
       ·exact .inr (fun h=>hgo ⟨by omega,rfl⟩)
      clear hgo hB1 HRd
      rcases hcase with ⟨h1,rfl⟩|h1
      all_goals
       go_wp2
       go_loopg [15] n (fun gg v15 wr=>∃j:Nat,j<=n/\n-j<=gg/\v15=.int .i64 j/\Aside (AllM W W.heap.size n aw es d wr))
       case atStart=>exact ⟨0,Bi8 _,by omega,rfl,HM.out⟩
       case round=>
        obtain ⟨j,hj,hgj,rfl,HA⟩:=hrel;have p0:=Bi6 HA.out.bel c0;have b4:=Bi6 HA.out.bel o4
        by_cases hlt:j<n
        ·have hlt3:(j:Int)<(n:Int):=by omega
         have hj0:(0:Int)<=(j:Int):=by omega
         have f1:=fun p=>Ac p b4
         go_wp2
         refine Ag (by kernel_rfl) (by kernel_rfl) ?_
         repeat (go_big_quiet_step (fail))
         refine wpQuiet_nil ?_;rintro _ ⟨pq,rfl⟩;have HBq:=Bi5 (Ah wr pq);generalize ext wr pq=wq at HBq ⊢
         go_wp2
         go_roundg (n-(j+1))
         case measure=>omega
         case rel=>exact ⟨j+1,by omega,Bi7 _,by go_num,HA.out.go HBq.out (Nat.le_of_lt HA.out.lt)⟩
        ·obtain rfl:n=j:=by omega
         go_wp2
         go_ret
         exact HA.out.post HB.out (by have:=HS.out;omega) rfl HX.out
end
section
open Go Go.Proofs Go.RowKit Go.Shelf Ch
theorem AllPost.st {es:List EdgeD} {n:Nat} {s:Int} {back:Bool} {no:List Int} {w W w':World} {e:Ending} (hb:Below w.heap.size w W) (h:AllPost es n s back no W e w'):AllPost es n s back no w e w':=by
 obtain ⟨b,d,h1,h2,h3,h4,h5⟩:=h;have:=hb.size;exact ⟨b,d,h1,h2,hb.st h3,by omega,h5⟩
theorem Zs (n s:Nat) (es:List EdgeD) (ao:Option Addr) (cap:Nat) (back:Bool) (w:World) (hg:Ak ⟨(n:Int),es⟩=0) (hn:n<=100) (hes:es.length<=300) (hs:s<n) (hc:Cel w ao (Ax es)):
  Calls Tryz.prog 43 #[.agg #[.int .i64 (n:Int),.slice ao es.length cap],.int .i64 (s:Int),.bool back] w (AllPost es n s back [] w):=by
 obtain ⟨W,hW⟩:∃W,W=w.alloc (Obj.cells #[.int .i64 (n:Int),.slice ao es.length cap] 24):=⟨_,rfl⟩;have hbw:Below w.heap.size w W:=by rw [hW];exact Below.of_al _ _
 have c0:W.cell? ⟨w.heap.size,0,none⟩=some (.int .i64 (n:Int)):=by rw [hW];go_simp
 have c1:W.cell? ⟨w.heap.size,1,none⟩=some (.slice ao es.length cap):=by rw [hW];go_simp
 have HW:=Bi5 hW;have HB:=Bi5 hbw;have HA:=Bi5 (Zt n s es ao none cap 0 back [] W hg hn hes hs (by simp) (hc.go hbw) (Cel.nil _ _));obtain ⟨Q,hQ⟩:∃Q:Ending->World->Prop,Q=AllPost es n s back [] W:=⟨_,rfl⟩;have HQ:=Bi5 (fun e w' (h:Q e w')=>AllPost.st hbw (show AllPost es n s back [] W e w' by rw [hQ] at h;exact h));rw [<-hQ] at HA;have HQV:=Bi5 (fun e w' (h:Q e w')=>show ∃b,e=.returned (.slice (some ⟨b,0,none⟩) n n) by rw [hQ] at h;obtain ⟨b,_,h,_⟩:=h;exact ⟨b,h⟩);clear hW hbw hc hQ
 go_enter Tryz.func43,Tryz.ntmps43
 go_upto_region 1 with (fail)
 rw [<-HW.out]
 go_wp2_with (go_at_call 71;refine HA.out.mono ?_;rintro e w1 hq;obtain ⟨b,rfl⟩:=HQV.out _ _ hq;(have HH:=Bi5 hq);clear hq)
 go_ret
 exact HQ.out _ _ HH.out
end
section
open Ch
end
section
open Go Go.Proofs Go.RowKit Go.Shelf Ch
section
variable {A:Int->Int->Int->Prop} {r:Int->Int} {s t d:Int} {k:Nat} {l:List Int}
end
theorem Ar4 {wr:World} {b n:Nat} {d:List Int} (h:Cel wr (some ⟨b,0,none⟩) (d.map Bz)) (hl:d.length=n) {u:Nat} (hu:u<n):wr.cell? ⟨b,u,none⟩=some (.int .u64 (gD d (u:Int))):=by
 obtain ⟨b',o',e,h1⟩:=h u (.int .u64 (gD d (u:Int))) (by
  rw [Bk4];unfold gD;rw [Bj9,Bj1,Bj0 (by omega)];rfl)
 cases e
 rw [Nat.zero_add] at h1;exact h1
end
section
namespace Ro
open Go Go.Proofs Go.RowKit Hp Ch
def Cy (n:Nat) (es:List EdgeD) (s t:Int) (l:List Int) (x k:Int):Prop:=
 (k=0/\Aa n s/\Aa n t/\Dist (Am es) s t x/\x<=1152921504606846976/\∃D,ToD es n t D/\RP es D s l)\/(k≠0/\l=[]/\x=0/\DistIs n (Am es) s t 0 k)
def Ul (n:Nat) (es:List EdgeD) (s t:Int) (w:World) (e:Ending) (w':World):Prop:=
 ∃(la:Option Addr) (l:List Int) (lc:Nat) (x k:Int),e=.returned (.tuple #[.agg #[.slice la l.length lc,.int .u64 x],.int .i64 k])/\Cel w' la (l.map Aj)/\Below w.heap.size w w'/\Cy n es s t l x k/\∀y,la=some y->w.heap.size<=y.block
end Ro
end
section
open Go Go.Proofs Go.RowKit Go.Shelf Hp Ch
section
variable {w w':World} {b n:Nat} {f:Int->Option Int}
end
end
section
open Go Go.Proofs Go.RowKit Go.Shelf Hp Ch
section
variable {W2 wr wr':World} {ob hb sb kb n t:Nat} {es:List EdgeD} {lb:List LB} {fb:Nat} {dd:List Int} {B:Nat} {asked asked':List Int}
end
end
end Go.Proofs.YteaaapdjplbljaaGreat
