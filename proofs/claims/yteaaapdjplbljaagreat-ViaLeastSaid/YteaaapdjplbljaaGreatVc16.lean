/- Parts; no condition. -/
import Derived.Test.YteaaapdjplbljaaGreatVc15
set_option linter.unusedVariables false
set_option linter.unusedSimpArgs false
set_option linter.unnecessarySimpa false
set_option maxRecDepth 100000
set_option maxHeartbeats 8000000
namespace Go.Proofs.YteaaapdjplbljaaGreat
section
open Go.Proofs Go.RowKit Go.Shelf
def Kj (n:Nat):List Int:=(List.range n).map Int.ofNat
theorem Dn (n:Nat):(Kj n).length=n:=by simp [Kj]
theorem Cm {n:Nat} {x:Int}:x∈Kj n↔0<=x/\x<n:=by
 unfold Kj;rw [List.mem_map];constructor
 ·rintro ⟨a,ha,rfl⟩
  have:=Bl9.1 ha;exact ⟨Int.natCast_nonneg _,by show (a:Int)<n;omega⟩
 ·rintro ⟨h0,h1⟩
  exact ⟨x.toNat,Bl9.2 (by omega),by show ((x.toNat:Nat):Int)=x;omega⟩
theorem Lg (n:Nat):(Kj n).Nodup:=by
 unfold Kj;refine List.Pairwise.map _ ?_ List.nodup_range;intro a b hab h;exact hab (Int.ofNat.inj h)
theorem Da:∀(a b:List Int),a.Nodup->(∀x∈a,x∈b)->a.length<=b.length
 |[],_,_,_=>by simp
 |x::r,b,hn,hs=>by
  have hx:=hs x (by simp);obtain ⟨h1,h2⟩:=List.nodup_cons.1 hn;have h3:=Da r (b.erase x) h2 (fun y hy=>(List.mem_erase_of_ne (by rintro rfl;exact h1 hy)).2 (hs y (by simp [hy])));have h4:=List.length_erase_of_mem hx;have h5:=List.length_pos_of_mem hx;rw [Bk0];omega
def Bb (l:List Int):Bool:=(List.range l.length).all fun i=>l.contains (i:Int)
theorem Lb {l:List Int} (h:∀x∈Kj l.length,x∈l):Bb l=true:=by
 unfold Bb;rw [List.all_eq_true];intro i hi;rw [List.contains_iff_mem];exact h _ (Cm.2 ⟨by omega,by have:=Bl9.1 hi;omega⟩)
theorem Js {l:List Int} (h:Bb l=true):∀x∈Kj l.length,x∈l:=by
 intro x hx;obtain ⟨h0,h1⟩:=Cm.1 hx;unfold Bb at h;rw [List.all_eq_true] at h;have:=h x.toNat (Bl9.2 (by omega));rw [List.contains_iff_mem] at this
 rwa [Bn2 h0] at this
def Ow (l:List Int) (k:Nat):Prop:=∀i (h:i<l.length),i<k->0<=l[i]/\l[i]<l.length/\∀j (h2:j<i),l[j]≠l[i]
theorem Zw (l:List Int):Ow l 0:=fun _ _ h=>absurd h (Nat.not_lt_zero _)
theorem Zx {l:List Int} {k:Nat} (h:Ow l k) (hk:k<l.length) (h0:0<=l[k]) (h1:l[k]<l.length) (h2:∀j (hj:j<k),l[j]≠l[k]):Ow l (k+1):=by
 intro i hi hik
 by_cases e:i=k
 ·subst e;exact ⟨h0,h1,h2⟩
 ·exact h i hi (by omega)
theorem Jc {l:List Int} (h:Ow l l.length):l.Nodup:=by
 unfold List.Nodup;rw [List.pairwise_iff_getElem];intro i j hi hj hij;exact (h j hj hj).2.2 i hij
theorem As1 {l:List Int} (h:Ow l l.length):Bb l=true:=by
 refine Lb fun x hx=>?_
 by_cases hm:x∈l
 ·exact hm
 ·have h1:=Da (x::l) (Kj l.length) (List.nodup_cons.2 ⟨hm,Jc h⟩) (fun y hy=>by
   rcases Bl7.1 hy with rfl|hy
   ·exact hx
   ·obtain ⟨i,hi,rfl⟩:=Bm9.1 hy
    have:=h i hi hi;exact Cm.2 ⟨this.1,this.2.1⟩)
  rw [Dn] at h1;simp at h1;omega
theorem Es {l:List Int} (h:Bb l=true):∀x∈l,0<=x/\x<l.length:=by
 intro x hx
 by_cases hr:x∈Kj l.length
 ·exact Cm.1 hr
 ·have h1:=Da (Kj l.length) (l.erase x) (Lg _) (fun y hy=>(List.mem_erase_of_ne (by rintro rfl;exact hr hy)).2 (Js h y hy))
  rw [Dn,List.length_erase_of_mem hx] at h1;have:=List.length_pos_of_mem hx;omega
theorem Aj7 {l:List Int} {x:Int} (hx:x∈l) (h:x<0\/(l.length:Int)<=x):Bb l=false:=by
 cases e:Bb l with
 |false=>rfl
 |true=>have:=Es e x hx;omega
theorem Tj {l:List Int} {j k:Nat} (hk:k<l.length) (hj:j<k) (h:l[j]=l[k]):Bb l=false:=by
 cases e:Bb l with
 |false=>rfl
 |true=>
  have h1:=Da (Kj l.length) (l.eraseIdx k) (Lg _) (fun y hy=>by
   obtain ⟨i,hi,rfl⟩:=Bm9.1 (Js e y hy);rw [List.mem_eraseIdx_iff_getElem]
   by_cases c:i=k
   ·subst c;exact ⟨j,by omega,by omega,h⟩
   ·exact ⟨i,hi,c,rfl⟩)
  rw [Dn,List.length_eraseIdx_of_lt hk] at h1;omega
theorem Iz {l:List Int} (h:Bb l=true):Ow l l.length:=by
 intro i hi _;have h1:=Es h l[i] (Bj7 hi);refine ⟨h1.1,h1.2,fun j hj e=>?_⟩;rw [Tj hi hj e] at h
 cases h
def Qt (l:List Int) (k:Nat):List Bool:=(List.range l.length).map fun v=>(l.take k).contains ((v:Nat):Int)
theorem Jd (l:List Int) (k:Nat):(Qt l k).length=l.length:=by simp [Qt]
theorem Ak9 (l:List Int):Qt l 0=List.replicate l.length false:=by
 unfold Qt
 apply List.ext_getElem
 ·simp
 ·intro i h1 h2
  simp
theorem Qs {l:List Int} {k v:Nat} (hv:v<l.length):(Qt l k)[v]? =some ((l.take k).contains (v:Int)):=by
 unfold Qt;rw [Bk4,List.getElem?_range hv];rfl
theorem At8 {l:List Int} {k v:Nat} (hk:k<l.length) (hv:l[k]=(v:Int)) (hl:v<l.length):(Qt l k).set v true=Qt l (k+1):=by
 apply List.ext_getElem?
 intro i;rw [List.getElem?_set]
 by_cases hi:i<l.length
 ·rw [Qs hi,Qs hi,Bk3 hk]
  by_cases e:v=i
  ·subst e
   simp [Jd,hl,hv]
  ·rw [if_neg e]
   congr 1
   rw [List.contains_eq_mem,List.contains_eq_mem]
   congr 1
   rw [Bl8,Bk2,hv];simp;omega
 ·rw [if_neg (by omega),Bm2 (by rw [Jd];omega),Bm2 (by rw [Jd];omega)]
theorem Bb0 {l:List Int} {k v:Nat} (hk:k<l.length) (hv:l[k]=(v:Int)) (h:(l.take k).contains (v:Int)=false):∀j (hj:j<k),l[j]≠l[k]:=by
 intro j hj e;have:(v:Int)∈l.take k:=by
  rw [<-hv,<-e];rw [List.mem_take_iff_getElem];exact ⟨j,by omega,rfl⟩
 rw [List.contains_eq_mem] at h;simp [this] at h
theorem At7 {l:List Int} {k v:Nat} (hk:k<l.length) (hv:l[k]=(v:Int)) (h:(l.take k).contains (v:Int)=true):Bb l=false:=by
 rw [List.contains_iff_mem,List.mem_take_iff_getElem] at h;obtain ⟨j,hj,e⟩:=h;exact Tj hk (j:=j) (by omega) (by rw [hv];exact e)
def No (l:List Int):Nat->List Int
 |0=>List.replicate l.length 0
 |k+1=>(No l k).set (l.getD k 0).toNat k
theorem Gk (l:List Int):∀k,(No l k).length=l.length
 |0=>by simp [No]
 |k+1=>by simp [No,Gk l k]
def Fj (l:List Int):List Int:=if Bb l then No l l.length else []
theorem Hf:Gq Tryz.prog 3 (.int .i64 0) 1 8:=⟨by kernel_rfl,rfl,by decide⟩
theorem Iy (l:List Int) (ao:Option Addr) (cap:Nat) (w:World) (hl:l.length<=1000000) (hc:Cel w ao (l.map Aj)):
  Calls Tryz.prog 160 #[.slice ao l.length cap] w fun e w'=>e=.returned (.bool (Bb l))/\Below w.heap.size w w':=by
 have HC:=Bi5 hc;clear hc;have HOK:=Bi5 (@As1 l);have HOUT:=Bi5 (fun k (hk:k<l.length) (h:l[k]<0\/(l.length:Int)<=l[k])=>Aj7 (Bj7 hk) h);have HYES:=Bi5 (fun (k v:Nat) (hk:k<l.length) h1 h2=>@At7 l k v hk h1 h2);generalize Bb l=r at*
 go_enter Tryz.func160,Tryz.ntmps160
 go_wp2_with (at_make;go_must ((with_reducible refine Ef w.heap.size 4 _ 1 1 Ny Tryz.underlying177 l.length ?_ ?_ ?_ ?_ ?_ ?_ ?_ ?_);rotate_left 4;(· rfl);(· rfl);(· exact ⟨by simp,by simp,by omega,by omega,by simp⟩);intro wm hown hbl hszm;(have Hmo:=Bi5 hown;have Hmb:=Bi5 hbl;clear hown hbl)))
 have HZ0:=Bi5 (show (madeCells (Value.bool false).cells (l.length*1)).toList=(Qt l 0).map Ip by
  show (madeCells #[Value.bool false] (l.length*1)).toList=_
  rw [Nat.mul_one,toList_madeCells_one,Ak9,List.map_replicate])
 go_loopg [11] l.length (fun gg i wr=>∃k:Nat,k<=l.length/\l.length-k<=gg/\i=.int .i64 k/\Aside (Ow l k)/\Aside (w.heap.size<wr.heap.size)/\
  Aside (wr.ownsRow w.heap.size 4 1 (.slice (some ⟨w.heap.size,0,none⟩) l.length l.length) l.length ((Qt l k).map Ip))/\Aside (Below w.heap.size w wr))
 case atStart=>exact ⟨0,Bi8 _,by omega,rfl,Zw l,hszm,by have:=Hmo.out;rw [HZ0.out] at this;exact this,Hmb.out⟩
 case round=>
  obtain ⟨k,hk,hg,rfl,HP,HZ,HO,HB⟩:=hrel;clear HZ0
  by_cases hlt:k<l.length
  ·obtain ⟨b,o,hao,hcell⟩:=(HC.out.go HB.out).at hlt
   subst hao;have hlt3:(k:Int)<(l.length:Int):=by omega
   have hk0:(0:Int)<=(k:Int):=by omega
   have HOUT2:=Bi5 (HOUT.out k hlt);have HYES2:=Bi5 (fun v h1 h2=>HYES.out k v hlt h1 h2);have HPS:=Bi5 (fun h0 h1 h2=>Zx HP.out hlt h0 h1 h2);have HNO:=Bi5 (fun v h1 h2=>@Bb0 l k v hlt h1 h2);have HST:=Bi5 (fun v h1 h2=>@At8 l k v hlt h1 h2);have HGT:=Bi5 (fun v h=>@Qs l k v h);generalize hx:l[k]=x at*
   by_cases h0:x<0
   ·have HR:=Bi5 (HOUT2.out (.inl h0))
    go_wp2
    go_ret
    exact ⟨by rw [HR.out];rfl,by have:=HB.out;repeat (first|exact Below.refl _ _|refine Below.al ?_ _|refine Below.dr ?_ _|refine Below.drew ?_|assumption|(refine Below.st ?_ (by assumption)))⟩
   ·by_cases h1:(l.length:Int)<=x
    ·have HR:=Bi5 (HOUT2.out (.inr h1))
     go_wp2
     go_ret
     exact ⟨by rw [HR.out];rfl,by have:=HB.out;repeat (first|exact Below.refl _ _|refine Below.al ?_ _|refine Below.dr ?_ _|refine Below.drew ?_|assumption|(refine Below.st ?_ (by assumption)))⟩
    ·obtain ⟨v,rfl⟩:∃v:Nat,x=(v:Int):=⟨x.toNat,by omega⟩
     have hv:v<l.length:=by omega
     have hv3:(v:Int)<(l.length:Int):=by omega
     have hv0:(0:Int)<=(v:Int):=by omega
     have j4:wr.cell? ⟨w.heap.size,v,none⟩=some (.bool ((l.take k).contains (v:Int))):=by
      rw [HO.out.cellAt v (by omega),Bk4,HGT.out v hv];rfl
     have j6:=HO.out.frozenAt v
     cases hq:(l.take k).contains (v:Int) with
     |true=>
      have HR:=Bi5 (HYES2.out v rfl hq);rw [hq] at j4;clear hq
      go_wp2
      go_ret
      exact ⟨by rw [HR.out];rfl,by have:=HB.out;repeat (first|exact Below.refl _ _|refine Below.al ?_ _|refine Below.dr ?_ _|refine Below.drew ?_|assumption|(refine Below.st ?_ (by assumption)))⟩
     |false=>
      have HPS2:=Bi5 (HPS.out hv0 hv3 (HNO.out v rfl hq));have HO2:=Bi5 (show (wr.setCell ⟨w.heap.size,v,none⟩ (Ip true)).ownsRow w.heap.size 4 1 (.slice (some ⟨w.heap.size,0,none⟩) l.length l.length) l.length ((Qt l (k+1)).map Ip) by
       have:=(HO.out.stored v (Ip true)).1;rw [<-List.map_set,HST.out v rfl hv] at this;exact this)
      rw [hq] at j4;clear hq hx
      go_wp2
      go_roundg (l.length-(k+1))
      case measure=>omega
      case rel=>exact ⟨k+1,by omega,by omega,by go_num,HPS2.out,(show w.heap.size<(wr.setCell ⟨w.heap.size,v,none⟩ (Ip true)).heap.size by have:=HZ.out;simpa [World.setCell] using this),HO2.out,HB.out.setCell (Bi7 _) _⟩
  ·obtain rfl:k=l.length:=by omega
   have HR:=Bi5 (HOK.out HP.out)
   go_wp2
   go_ret
   exact ⟨by rw [HR.out];rfl,HB.out⟩
def Mq (w:World) (r:List Int) (e:Ending) (w':World):Prop:=
 ∃ao cap,e=.returned (.slice ao r.length cap)/\Cel w' ao (r.map Aj)/\Below w.heap.size w w'/\∀k,(Value.slice ao r.length cap).ownBlock=some k->w.heap.size<=k
theorem Gn (l:List Int) (ao:Option Addr) (cap:Nat) (w:World) (hl:l.length<=1000000) (hc:Cel w ao (l.map Aj)):
  Calls Tryz.prog 108 #[.slice ao l.length cap] w (Mq w (Fj l)):=by
 have HC:=Bi5 hc;have HR:=Bi5 (fun W h=>Iy l ao cap W hl h);clear hc
 cases hr:Bb l with
 |false=>
  have HV:=Bi5 (show Fj l=[] by unfold Fj;rw [hr];rfl);generalize Fj l=r at*;rw [hr] at HR;clear hr
  go_enter Tryz.func108,Tryz.ntmps108
  go_wp2_with (go_at_call 160;refine (HR.out _ HC.out).mono ?_;rintro e w1 ⟨rfl,hb1⟩)
  go_ret
  exact ⟨none,0,by rw [HV.out];rfl,by rw [HV.out];exact Cel.nil _ _,hb1,fun k hk=>by cases hk⟩
 |true=>
  have HV:=Bi5 (show Fj l=No l l.length by unfold Fj;rw [hr];rfl);have HIN:=Bi5 (fun k (hk:k<l.length)=>Es hr l[k] (Bj7 hk));have HS:=Bi5 (fun k (hk:k<l.length)=>(show No l (k+1)=(No l k).set l[k].toNat k by simp [No,List.getD,hk]));have HLN:=Bi5 (Gk l);have HZ:=Bi5 (show No l 0=List.replicate l.length 0 from rfl);generalize Fj l=r at*;generalize No l=I at*;rw [hr] at HR;clear hr
  go_enter Tryz.func108,Tryz.ntmps108
  go_wp2_with fail
  refine (HR.out _ HC.out).mono ?_;rintro e w1 ⟨rfl,hb1⟩;have HB1:=Bi5 hb1;have HC1:=Bi5 (HC.out.go hb1);clear hb1
  go_wp2_with (at_make;go_must ((with_reducible refine Ef w1.heap.size 3 _ 1 8 Hf Tryz.underlying25 l.length ?_ ?_ ?_ ?_ ?_ ?_ ?_ ?_);rotate_left 4;(· rfl);(· rfl);(· exact ⟨by simp,by simp,by omega,by omega,by simp⟩);intro wm hown hbl hszm;(have Hmo:=Bi5 hown;have Hmb:=Bi5 hbl;clear hown hbl)))
  have HZ0:=Bi5 (show (madeCells (Value.int .i64 0).cells (l.length*1)).toList=(I 0).map Aj by
   show (madeCells #[Value.int .i64 0] (l.length*1)).toList=_
   rw [Nat.mul_one,toList_madeCells_one,HZ.out,List.map_replicate])
  go_loopg [14] l.length (fun gg i wr=>∃k:Nat,k<=l.length/\l.length-k<=gg/\i=.int .i64 k/\Aside (w1.heap.size<wr.heap.size)/\
   Aside (wr.ownsRow w1.heap.size 3 1 (.slice (some ⟨w1.heap.size,0,none⟩) l.length l.length) l.length ((I k).map Aj))/\Aside (Below w1.heap.size w1 wr))
  case atStart=>exact ⟨0,Bi8 _,by omega,rfl,hszm,by have:=Hmo.out;rw [HZ0.out] at this;exact this,Hmb.out⟩
  case round=>
   obtain ⟨k,hk,hg,rfl,HZ2,HO,HB⟩:=hrel;clear HZ0
   by_cases hlt:k<l.length
   ·obtain ⟨b,o,hao,hcell⟩:=(HC1.out.go HB.out).at hlt
    subst hao;have hlt3:(k:Int)<(l.length:Int):=by omega
    have hk0:(0:Int)<=(k:Int):=by omega
    have hin:=HIN.out k hlt;have HS2:=Bi5 (HS.out k hlt);generalize l[k]=x at*;obtain ⟨v,rfl⟩:∃v:Nat,x=(v:Int):=⟨x.toNat,by omega⟩;have hv:v<l.length:=by omega
    obtain ⟨u,j4⟩:∃u,wr.cell? ⟨w1.heap.size,v,none⟩=some u:=by
     rw [HO.out.cellAt v (by omega),Bk4,Bj0 (by rw [HLN.out];omega)];exact ⟨_,rfl⟩
    have j6:=HO.out.frozenAt v;have HO2:=Bi5 (show (wr.setCell ⟨w1.heap.size,v,none⟩ (Aj k)).ownsRow w1.heap.size 3 1 (.slice (some ⟨w1.heap.size,0,none⟩) l.length l.length) l.length ((I (k+1)).map Aj) by
     have:=(HO.out.stored v (Aj k)).1;rw [<-List.map_set] at this;rw [HS2.out];exact this)
    go_wp2
    go_roundg (l.length-(k+1))
    case measure=>omega
    case rel=>exact ⟨k+1,by omega,by omega,by go_num,(show w1.heap.size<(wr.setCell ⟨w1.heap.size,v,none⟩ (Aj k)).heap.size by have:=HZ2.out;simpa [World.setCell] using this),HO2.out,HB.out.setCell (Bi7 _) _⟩
   ·obtain rfl:k=l.length:=by omega
    obtain ⟨ao8,cap8,e8,hc8⟩:=Cel.of_owns HO.out
    cases e8
    have HC8:=Bi5 hc8;have HRL:=Bi5 (show r.length=l.length by rw [HV.out];exact HLN.out _);clear hc8
    go_wp2
    go_ret
    exact ⟨_,l.length,by rw [HRL.out];rfl,by rw [HV.out];exact HC8.out,HB1.out.st HB.out,fun k hk=>by cases hk;exact HB1.out.size⟩
end
section
open Ch
theorem Xv {l:List Int} (hn:Ow l l.length):∀(k p:Nat) (_hk:k<=l.length) (hp:p<k),(No l k)[(l.getD p 0).toNat]? =some (p:Int)
 |k+1,p,hk,hp=>by
  have hlt:∀i,i<l.length->l.getD i 0=l[i]!:=fun i hi=>by simp [List.getD,hi]
  have hin:=fun i (hi:i<l.length)=>hn i hi hi;have hkl:k<l.length:=by omega
  have hpl:p<l.length:=by omega
  have ek:l.getD k 0=l[k]:=by simp [List.getD,hkl]
  have ep:l.getD p 0=l[p]:=by simp [List.getD,hpl]
  show ((No l k).set (l.getD k 0).toNat k)[(l.getD p 0).toNat]? =_
  rw [List.getElem?_set]
  by_cases e:p=k
  ·subst e
   rw [if_pos rfl,Gk,if_pos (by rw [ep];have:=hin p hpl;omega)]
  ·rw [if_neg (by
    rw [ek,ep];intro h;have h1:=hin k hkl;have h2:=hin p hpl;exact h1.2.2 p (by omega) (by omega))]
   exact Xv hn k p (by omega) (by omega)
theorem Dp {l:List Int} (h:Bb l=true):(Fj l).length=l.length:=by unfold Fj;rw [if_pos h,Gk]
theorem getD_in {l:List Int} {p:Nat} (hp:p<l.length):l.getD p 0=l[p]:=by simp [List.getD,hp]
theorem Mf {l:List Int} (h:Bb l=true) {p:Nat} (hp:p<l.length):(Fj l)[(l[p]).toNat]? =some (p:Int):=by
 have:=Xv (Iz h) l.length p (Bi7 _) hp;rw [getD_in hp] at this;unfold Fj;rw [if_pos h];exact this
theorem Qf {l:List Int} (h:Bb l=true) {i:Nat} (hi:i<l.length):∃p,∃hp:p<l.length,l[p]=(i:Int):=by
 have:=Js h (i:Int) (Cm.2 ⟨by omega,by omega⟩);obtain ⟨p,hp,e⟩:=Bm9.1 this;exact ⟨p,hp,e⟩
theorem Nn {l:List Int} (h:Bb l=true):Bb (Fj l)=true:=by
 refine Lb fun x hx=>?_;rw [Dp h] at hx;obtain ⟨h0,h1⟩:=Cm.1 hx;have hp:x.toNat<l.length:=by omega
 have:=Bl3 (Mf h hp)
 rwa [Bn2 h0] at this
theorem Al5 {l:List Int} (h:Bb l=true):Fj (Fj l)=l:=by
 have h2:=Nn h;have hl:=Dp h
 apply List.ext_getElem?
 intro p
 by_cases hp:p<l.length
 ·have hin:=Es h l[p] (Bj7 hp)
  have h3:=Mf h hp;have hv:(l[p]).toNat<(Fj l).length:=by omega
  have h4:=Mf h2 hv;have e:(Fj l)[(l[p]).toNat]=(p:Int):=Bl4 ((Bj0 hv).symm.trans h3);rw [e,Bj9] at h4;rw [h4,Bj0 hp,Bn2 hin.1]
 ·rw [Bm2 (by rw [Dp h2];omega),Bm2 (by omega)]
def BuiltOK (es:List EdgeD) (n:Nat) (R:List Int) (S:List SC):Prop:=
 ∃out c,Core (Am es) (Yl es) n out c/\c.S=S/\Bb out=true/\out.length=n/\R=Fj out
theorem Ba1 {n:Nat} {out:List Int} (h1:∀u∈out,Aa n u) (h2:out.Nodup) (h3:∀u,Aa n u->u∈out):Bb out=true/\out.length=n:=by
 have hl:out.length=n:=by
  have a1:=Da out (Kj n) h2 (fun x hx=>Cm.2 (h1 x hx));have a2:=Da (Kj n) out (Lg n) (fun x hx=>h3 x (Cm.1 hx));rw [Dn] at a1 a2;omega
 exact ⟨Lb (fun x hx=>h3 x (by rw [hl] at hx;exact Cm.1 hx)),hl⟩
theorem Ba2 {out:List Int} (h:Bb out=true) {v:Int} (hv:Aa out.length v):(Fj out)[v.toNat]? =some (rk out v):=by
 obtain ⟨p,hp,e⟩:=Qf h (i:=v.toNat) (by have:=hv.1;have:=hv.2;omega);have e2:out[p]=v:=by rw [e];have:=hv.1;omega
 have h1:=Mf h hp;rw [e2] at h1;rw [h1];have hn:=Jc (Iz h);have:out.idxOf v=p:=by
  rw [<-e2];exact hn.idxOf_getElem p hp
 unfold rk;rw [this]
structure HierOK (es:List EdgeD) (n:Nat) (R:List Int) (S:List SC) (out:List Int):Prop where
 h:Hier (Am es) (Ls S) (rk out) (Aa n)
 len:R.length=n
 rank:Bb R=true
 at1:∀v,Aa n v->R[v.toNat]? =some (rk out v)
 made:Made (Yl es) (rk out) S
 ends:∀x∈S,Aa n x.f/\Aa n x.t/\x.f≠x.t/\1<=x.w
 big:∀x∈S,x.w<=4294967296*2 ^ n
 ltr:∀(i j:Nat) (x y:SC),i<j->S[i]? =some x->S[j]? =some y->x.f=y.f->x.t=y.t->y.w<x.w
theorem BuiltOK.hier {es:List EdgeD} {n:Nat} {R:List Int} {S:List SC} (hE:EdgesOK n es) (h:BuiltOK es n R S):∃out,HierOK es n R S out:=by
 obtain ⟨out,c,hc,rfl,hr,hl,rfl⟩:=h;have hall:∀v,Aa n v->v∈out:=fun v hv=>Js hr v (by rw [hl];exact Cm.2 hv);refine ⟨out,hc.part.hier ?_ ?_ hall,by rw [Dp hr,hl],Nn hr,?_,hc.made,hc.inv.ends,?_,hc.inv.ltr⟩
 ·rintro u v w ⟨x,hx,_,_,rfl⟩
  exact (hE.ok x hx).2.2.2.1
 ·rintro u v w ⟨x,hx,rfl,rfl,rfl⟩
  exact ⟨(hE.ok x hx).1,(hE.ok x hx).2.1⟩
 ·intro v hv
  exact Ba2 hr (by rw [hl];exact hv)
 ·intro x hx
  have:=hc.big x hx
  rwa [hl] at this
end
section
open Go Go.Proofs Go.RowKit Go.Shelf Hp Ch
def inB (x:Int):Bool:=decide (1<=x)&&decide (x<=1000)
def Ak1 (hops settles:Int) (r:List Int):Bool:=inB hops&&inB settles&&Bb r
theorem Qb (x:Int) (w:World):Calls Tryz.prog 159 (#[.int .i64 x]++#[]) w fun e w'=>e=.returned (.bool (inB x))/\w=w':=by
 unfold inB
 go_enter Tryz.func159,Tryz.ntmps159
 go_wp2
 all_goals
  go_ret
  exact ⟨by simp [*]<;>omega,rfl⟩
theorem Pc (hops settles:Int) (r:List Int) (ao:Option Addr) (cap:Nat) (w:World) (hl:r.length<=1000000) (hc:Cel w ao (r.map Aj)):
  Calls Tryz.prog 106 #[.agg #[.int .i64 hops,.int .i64 settles,.slice ao r.length cap]] w fun e w'=>e=.returned (.bool (Ak1 hops settles r))/\Below w.heap.size w w':=by
 have HR:=Bi5 (fun W h=>Iy r ao cap W hl h);have HC:=Bi5 hc;have H1:=Bi5 (fun W=>Qb hops W);have H2:=Bi5 (fun W=>Qb settles W);have HO:=Bi5 (show Ak1 hops settles r=(inB hops&&inB settles&&Bb r) from rfl);generalize Ak1 hops settles r=ob at*;generalize inB hops=b1 at*;generalize inB settles=b2 at*;generalize Bb r=b3 at*;clear hc
 cases b1<;>cases b2
 all_goals
  go_enter Tryz.func106,Tryz.ntmps106
  go_wp2_with (first
   |(go_at_call 160;refine (HR.out _ (HC.out.go (Below.of_al _ _))).mono ?_;rintro e w1 ⟨rfl,hb1⟩)
   |(go_at_call_of 159 (Value.int .i64 hops);refine (H1.out _).mono ?_;rintro e w1 ⟨rfl,rfl⟩)
   |(go_at_call_of 159 (Value.int .i64 settles);refine (H2.out _).mono ?_;rintro e w1 ⟨rfl,rfl⟩))
  go_ret
  first
   |exact ⟨by rw [HO.out];rfl,(Below.of_al _ _).st hb1⟩
   |exact ⟨by rw [HO.out];rfl,Below.of_al _ _⟩
end
section
open Go Go.Proofs Go.RowKit Go.Shelf Hp Ch
def Fp (n:Nat) (xs:List Value) (w:World) (e:Ending) (w':World):Prop:=
 ∃ao cap,e=.returned (.slice ao n cap)/\Cel w' ao xs/\Below w.heap.size w w'/\∀k,(Value.slice ao n cap).ownBlock=some k->w.heap.size<=k
theorem Rr (n:Nat) (xs:List Value) (ao:Option Addr) (cap:Nat) (w:World) (hx:xs.length=n*1) (h:Cel w ao xs) (h1:∀u∈xs,u.oneCell'=true) (hl:n<=1000000):
  Calls Tryz.prog 67 #[.slice ao n cap] w (Fp n xs w):=by
 have heq:=Lib.run_eql_slice_nil (P:=Tryz.prog) w 25 3 ao n cap 0 0 Tryz.underlying25;unfold Fp
 cases ao with
 |none=>
  have hn:n=0:=by
   rcases xs with _|⟨x,r⟩
   ·have:n*1=0:=hx.symm
    omega
   ·obtain ⟨b,o,e,_⟩:=h 0 x rfl
    cases e
  subst hn;have hn2:xs=[]:=List.length_eq_zero_iff.1 (by simpa using hx);subst hn2;simp only [Option.isNone] at heq;clear h h1 hx
  go_enter Tryz.func67,Tryz.ntmps67
  go_wp2
  go_ret
  exact ⟨none,_,rfl,Cel.nil _ _,Below.refl _ _,fun k hk=>by cases hk⟩
 |some a=>
  simp only [Option.isNone] at heq
  by_cases hn:n=0
  ·subst hn
   have hn2:xs=[]:=List.length_eq_zero_iff.1 (by simpa using hx);subst hn2;clear h h1 hx
   go_enter Tryz.func67,Tryz.ntmps67
   go_wp2
   go_ret
   exact ⟨_,_,rfl,Cel.nil _ _,Below.of_al _ _,fun k hk=>by cases hk;exact Bi7 _⟩
  ·have hpos:0<n:=Nat.pos_of_ne_zero hn
   obtain ⟨gb,gof,e,-⟩:=h 0 _ (Bj0 (by omega))
   cases e
   have hlit:(w.alloc (.cells #[] 3)).ownsRow w.heap.size 3 1 (.slice (some ⟨w.heap.size,0,none⟩) 0 0) 0 []:=World.ownsRow_lit (base:=w.heap.size) (e:=3) (size:=1) w #[] 0 (Bi7 _) (by unfold maxLen;omega) rfl;obtain ⟨i0,hi,hz0,hsz,hby⟩:=info_parts Dc.1;have HL:=Bi5 hlit;have HC:=Bi5 (h.go (Below.of_al w (.cells #[] 3)));have HX:=Bi5 hx;have H1:=Bi5 h1;clear hlit h hx h1
   go_enter Tryz.func67,Tryz.ntmps67
   go_wp2_with (at_builtin;refine wpList_append_own _ rfl _ _ _ rfl w.heap.size 3 i0 (.int .i64 0) 1 8 Tryz.underlying25 hi hz0 hsz hby rfl (by decide) (.slice (some ⟨w.heap.size,0,none⟩) 0 0) 0 [] rfl HL.out ⟨gb,gof,none⟩ n cap xs rfl HX.out (fun j u hj=>by rw [Addr.add_lit];obtain ⟨b',o',e,h⟩:=HC.out j u hj;cases e;exact h) H1.out (by unfold maxLen;omega) (by omega) (by simp) ?_;intro v1 w1 ho1 hg1 hn1)
   have hbl:=(Below.of_al w (.cells #[] 3)).grown hg1 (by simp) (fun k hk=>(HL.out.lt k hk).1);rw [Nat.zero_add,List.nil_append] at ho1;obtain ⟨g,cap,rfl⟩:=Ap ho1 hpos
   go_ret
   obtain ⟨a2,c2,e,hc⟩:=Cel.of_owns ho1
   cases e
   exact ⟨_,_,rfl,hc,hbl,fun k hk=>(ho1.lt k hk).1⟩
theorem An9:Gq Tryz.prog 109 (.agg #[.int .i64 0,.int .i64 0,.int .u64 0]) 3 24:=⟨by kernel_rfl,rfl,by decide⟩
theorem Ad3 (n:Nat) (xs:List Value) (ao:Option Addr) (cap:Nat) (w:World) (hx:xs.length=n*3) (h:Cel w ao xs) (h1:∀u∈xs,u.oneCell'=true) (hl:n<=1000000):
  Calls Tryz.prog 171 #[.slice ao n cap] w (Fp n xs w):=by
 have heq:=Lib.run_eql_slice_nil (P:=Tryz.prog) w 22 109 ao n cap 0 0 Tryz.underlying22;unfold Fp
 cases ao with
 |none=>
  have hn:n=0:=by
   rcases xs with _|⟨x,r⟩
   ·have:n*3=0:=hx.symm
    omega
   ·obtain ⟨b,o,e,_⟩:=h 0 x rfl
    cases e
  subst hn;have hn2:xs=[]:=List.length_eq_zero_iff.1 (by simpa using hx);subst hn2;simp only [Option.isNone] at heq;clear h h1 hx
  go_enter Tryz.func171,Tryz.ntmps171
  go_wp2
  go_ret
  exact ⟨none,_,rfl,Cel.nil _ _,Below.refl _ _,fun k hk=>by cases hk⟩
 |some a=>
  simp only [Option.isNone] at heq
  by_cases hn:n=0
  ·subst hn
   have hn2:xs=[]:=List.length_eq_zero_iff.1 (by simpa using hx);subst hn2;clear h h1 hx
   go_enter Tryz.func171,Tryz.ntmps171
   go_wp2
   go_ret
   exact ⟨_,_,rfl,Cel.nil _ _,Below.of_al _ _,fun k hk=>by cases hk;exact Bi7 _⟩
  ·have hpos:0<n:=Nat.pos_of_ne_zero hn
   obtain ⟨gb,gof,e,-⟩:=h 0 _ (Bj0 (by omega))
   cases e
   have hlit:(w.alloc (.cells #[] 109)).ownsRow w.heap.size 109 3 (.slice (some ⟨w.heap.size,0,none⟩) 0 0) 0 []:=World.ownsRow_lit (base:=w.heap.size) (e:=109) (size:=3) w #[] 0 (Bi7 _) (by unfold maxLen;omega) rfl;obtain ⟨i0,hi,hz0,hsz,hby⟩:=info_parts An9.1;have HL:=Bi5 hlit;have HC:=Bi5 (h.go (Below.of_al w (.cells #[] 109)));have HX:=Bi5 hx;have H1:=Bi5 h1;clear hlit h hx h1
   go_enter Tryz.func171,Tryz.ntmps171
   go_wp2_with (at_builtin;refine wpList_append_own _ rfl _ _ _ rfl w.heap.size 109 i0 (.agg #[.int .i64 0,.int .i64 0,.int .u64 0]) 3 24 Tryz.underlying22 hi hz0 hsz hby rfl (by decide) (.slice (some ⟨w.heap.size,0,none⟩) 0 0) 0 [] rfl HL.out ⟨gb,gof,none⟩ n cap xs rfl HX.out (fun j u hj=>by rw [Addr.add_lit];obtain ⟨b',o',e,h⟩:=HC.out j u hj;cases e;exact h) H1.out (by unfold maxLen;omega) (by omega) (by simp) ?_;intro v1 w1 ho1 hg1 hn1)
   have hbl:=(Below.of_al w (.cells #[] 109)).grown hg1 (by simp) (fun k hk=>(HL.out.lt k hk).1);rw [Nat.zero_add,List.nil_append] at ho1;obtain ⟨g,cap,rfl⟩:=Ap ho1 hpos
   go_ret
   obtain ⟨a2,c2,e,hc⟩:=Cel.of_owns ho1
   cases e
   exact ⟨_,_,rfl,hc,hbl,fun k hk=>(ho1.lt k hk).1⟩
theorem Ad1 (n:Nat) (xs:List Value) (ao:Option Addr) (cap:Nat) (w:World) (hx:xs.length=n*6) (h:Cel w ao xs) (h1:∀u∈xs,u.oneCell'=true) (hl:n<=1000000):
  Calls Tryz.prog 150 #[.slice ao n cap] w (Fp n xs w):=by
 have heq:=Lib.run_eql_slice_nil (P:=Tryz.prog) w 79 187 ao n cap 0 0 Tryz.underlying79;unfold Fp
 cases ao with
 |none=>
  have hn:n=0:=by
   rcases xs with _|⟨x,r⟩
   ·have:n*6=0:=hx.symm
    omega
   ·obtain ⟨b,o,e,_⟩:=h 0 x rfl
    cases e
  subst hn;have hn2:xs=[]:=List.length_eq_zero_iff.1 (by simpa using hx);subst hn2;simp only [Option.isNone] at heq;clear h h1 hx
  go_enter Tryz.func150,Tryz.ntmps150
  go_wp2
  go_ret
  exact ⟨none,_,rfl,Cel.nil _ _,Below.refl _ _,fun k hk=>by cases hk⟩
 |some a=>
  simp only [Option.isNone] at heq
  by_cases hn:n=0
  ·subst hn
   have hn2:xs=[]:=List.length_eq_zero_iff.1 (by simpa using hx);subst hn2;clear h h1 hx
   go_enter Tryz.func150,Tryz.ntmps150
   go_wp2
   go_ret
   exact ⟨_,_,rfl,Cel.nil _ _,Below.of_al _ _,fun k hk=>by cases hk;exact Bi7 _⟩
  ·have hpos:0<n:=Nat.pos_of_ne_zero hn
   obtain ⟨gb,gof,e,-⟩:=h 0 _ (Bj0 (by omega))
   cases e
   have hlit:(w.alloc (.cells #[] 187)).ownsRow w.heap.size 187 6 (.slice (some ⟨w.heap.size,0,none⟩) 0 0) 0 []:=World.ownsRow_lit (base:=w.heap.size) (e:=187) (size:=6) w #[] 0 (Bi7 _) (by unfold maxLen;omega) rfl;obtain ⟨i0,hi,hz0,hsz,hby⟩:=info_parts Ah3.1;have HL:=Bi5 hlit;have HC:=Bi5 (h.go (Below.of_al w (.cells #[] 187)));have HX:=Bi5 hx;have H1:=Bi5 h1;clear hlit h hx h1
   go_enter Tryz.func150,Tryz.ntmps150
   go_wp2_with (at_builtin;refine wpList_append_own _ rfl _ _ _ rfl w.heap.size 187 i0 (.agg #[.int .i64 0,.int .i64 0,.int .u64 0,.int .i64 0,.int .i64 0,.int .i64 0]) 6 48 Tryz.underlying79 hi hz0 hsz hby rfl (by decide) (.slice (some ⟨w.heap.size,0,none⟩) 0 0) 0 [] rfl HL.out ⟨gb,gof,none⟩ n cap xs rfl HX.out (fun j u hj=>by rw [Addr.add_lit];obtain ⟨b',o',e,h⟩:=HC.out j u hj;cases e;exact h) H1.out (by unfold maxLen;omega) (by omega) (by simp) ?_;intro v1 w1 ho1 hg1 hn1)
   have hbl:=(Below.of_al w (.cells #[] 187)).grown hg1 (by simp) (fun k hk=>(HL.out.lt k hk).1);rw [Nat.zero_add,List.nil_append] at ho1;obtain ⟨g,cap,rfl⟩:=Ap ho1 hpos
   go_ret
   obtain ⟨a2,c2,e,hc⟩:=Cel.of_owns ho1
   cases e
   exact ⟨_,_,rfl,hc,hbl,fun k hk=>(ho1.lt k hk).1⟩
end
end Go.Proofs.YteaaapdjplbljaaGreat
