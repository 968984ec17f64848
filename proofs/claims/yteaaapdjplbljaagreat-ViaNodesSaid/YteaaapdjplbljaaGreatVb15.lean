/- Parts; no condition. -/
import Derived.Test.YteaaapdjplbljaaGreatVb14
set_option linter.unusedVariables false
set_option linter.unusedSimpArgs false
set_option linter.unnecessarySimpa false
set_option maxRecDepth 100000
set_option maxHeartbeats 8000000
namespace Go.Proofs.YteaaapdjplbljaaGreat
section
open Go.Proofs Go.RowKit Go.Shelf
def La (n:Nat):List Int:=(List.range n).map Int.ofNat
theorem Du (n:Nat):(La n).length=n:=by simp [La]
theorem Co {n:Nat} {x:Int}:x∈La n↔0<=x/\x<n:=by
 unfold La;rw [List.mem_map];constructor
 ·rintro ⟨a,ha,rfl⟩
  have:=Bp4.1 ha;exact ⟨Int.natCast_nonneg _,by show (a:Int)<n;omega⟩
 ·rintro ⟨h0,h1⟩
  exact ⟨x.toNat,Bp4.2 (by omega),by show ((x.toNat:Nat):Int)=x;omega⟩
theorem Mc (n:Nat):(La n).Nodup:=by
 unfold La;refine List.Pairwise.map _ ?_ List.nodup_range;intro a b hab h;exact hab (Int.ofNat.inj h)
theorem Dc:∀(a b:List Int),a.Nodup->(∀x∈a,x∈b)->a.length<=b.length
 |[],_,_,_=>by simp
 |x::r,b,hn,hs=>by
  have hx:=hs x (by simp);obtain ⟨h1,h2⟩:=List.nodup_cons.1 hn;have h3:=Dc r (b.erase x) h2 (fun y hy=>(List.mem_erase_of_ne (by rintro rfl;exact h1 hy)).2 (hs y (by simp [hy])));have h4:=List.length_erase_of_mem hx;have h5:=List.length_pos_of_mem hx;rw [Bn5];omega
def Be (l:List Int):Bool:=(List.range l.length).all fun i=>l.contains (i:Int)
theorem Lw {l:List Int} (h:∀x∈La l.length,x∈l):Be l=true:=by
 unfold Be;rw [List.all_eq_true];intro i hi;rw [List.contains_iff_mem];exact h _ (Co.2 ⟨by omega,by have:=Bp4.1 hi;omega⟩)
theorem Kf {l:List Int} (h:Be l=true):∀x∈La l.length,x∈l:=by
 intro x hx;obtain ⟨h0,h1⟩:=Co.1 hx;unfold Be at h;rw [List.all_eq_true] at h;have:=h x.toNat (Bp4.2 (by omega));rw [List.contains_iff_mem] at this
 rwa [Bq7 h0] at this
def Pr (l:List Int) (k:Nat):Prop:=∀i (h:i<l.length),i<k->0<=l[i]/\l[i]<l.length/\∀j (h2:j<i),l[j]≠l[i]
theorem Ac4 (l:List Int):Pr l 0:=fun _ _ h=>absurd h (Nat.not_lt_zero _)
theorem Ac5 {l:List Int} {k:Nat} (h:Pr l k) (hk:k<l.length) (h0:0<=l[k]) (h1:l[k]<l.length) (h2:∀j (hj:j<k),l[j]≠l[k]):Pr l (k+1):=by
 intro i hi hik
 by_cases e:i=k
 ·subst e;exact ⟨h0,h1,h2⟩
 ·exact h i hi (by omega)
theorem Js {l:List Int} (h:Pr l l.length):l.Nodup:=by
 unfold List.Nodup;rw [List.pairwise_iff_getElem];intro i j hi hj hij;exact (h j hj hj).2.2 i hij
theorem Av1 {l:List Int} (h:Pr l l.length):Be l=true:=by
 refine Lw fun x hx=>?_
 by_cases hm:x∈l
 ·exact hm
 ·have h1:=Dc (x::l) (La l.length) (List.nodup_cons.2 ⟨hm,Js h⟩) (fun y hy=>by
   rcases Bp2.1 hy with rfl|hy
   ·exact hx
   ·obtain ⟨i,hi,rfl⟩:=Bq4.1 hy
    have:=h i hi hi;exact Co.2 ⟨this.1,this.2.1⟩)
  rw [Du] at h1;simp at h1;omega
theorem Ez {l:List Int} (h:Be l=true):∀x∈l,0<=x/\x<l.length:=by
 intro x hx
 by_cases hr:x∈La l.length
 ·exact Co.1 hr
 ·have h1:=Dc (La l.length) (l.erase x) (Mc _) (fun y hy=>(List.mem_erase_of_ne (by rintro rfl;exact hr hy)).2 (Kf h y hy))
  rw [Du,List.length_erase_of_mem hx] at h1;have:=List.length_pos_of_mem hx;omega
theorem An2 {l:List Int} {x:Int} (hx:x∈l) (h:x<0\/(l.length:Int)<=x):Be l=false:=by
 cases e:Be l with
 |false=>rfl
 |true=>have:=Ez e x hx;omega
theorem Uf {l:List Int} {j k:Nat} (hk:k<l.length) (hj:j<k) (h:l[j]=l[k]):Be l=false:=by
 cases e:Be l with
 |false=>rfl
 |true=>
  have h1:=Dc (La l.length) (l.eraseIdx k) (Mc _) (fun y hy=>by
   obtain ⟨i,hi,rfl⟩:=Bq4.1 (Kf e y hy);rw [List.mem_eraseIdx_iff_getElem]
   by_cases c:i=k
   ·subst c;exact ⟨j,by omega,by omega,h⟩
   ·exact ⟨i,hi,c,rfl⟩)
  rw [Du,List.length_eraseIdx_of_lt hk] at h1;omega
theorem Jp {l:List Int} (h:Be l=true):Pr l l.length:=by
 intro i hi _;have h1:=Ez h l[i] (Bn2 hi);refine ⟨h1.1,h1.2,fun j hj e=>?_⟩;rw [Uf hi hj e] at h
 cases h
def Rn (l:List Int) (k:Nat):List Bool:=(List.range l.length).map fun v=>(l.take k).contains ((v:Nat):Int)
theorem Jt (l:List Int) (k:Nat):(Rn l k).length=l.length:=by simp [Rn]
theorem Ao3 (l:List Int):Rn l 0=List.replicate l.length false:=by
 unfold Rn
 apply List.ext_getElem
 ·simp
 ·intro i h1 h2
  simp
theorem Rm {l:List Int} {k v:Nat} (hv:v<l.length):(Rn l k)[v]? =some ((l.take k).contains (v:Int)):=by
 unfold Rn;rw [Bn9,List.getElem?_range hv];rfl
theorem Aw9 {l:List Int} {k v:Nat} (hk:k<l.length) (hv:l[k]=(v:Int)) (hl:v<l.length):(Rn l k).set v true=Rn l (k+1):=by
 apply List.ext_getElem?
 intro i;rw [List.getElem?_set]
 by_cases hi:i<l.length
 ·rw [Rm hi,Rm hi,Bn8 hk]
  by_cases e:v=i
  ·subst e
   simp [Jt,hl,hv]
  ·rw [if_neg e]
   congr 1
   rw [List.contains_eq_mem,List.contains_eq_mem]
   congr 1
   rw [Bp3,Bn7,hv];simp;omega
 ·rw [if_neg (by omega),Bp7 (by rw [Jt];omega),Bp7 (by rw [Jt];omega)]
theorem Be5 {l:List Int} {k v:Nat} (hk:k<l.length) (hv:l[k]=(v:Int)) (h:(l.take k).contains (v:Int)=false):∀j (hj:j<k),l[j]≠l[k]:=by
 intro j hj e;have:(v:Int)∈l.take k:=by
  rw [<-hv,<-e];rw [List.mem_take_iff_getElem];exact ⟨j,by omega,rfl⟩
 rw [List.contains_eq_mem] at h;simp [this] at h
theorem Aw8 {l:List Int} {k v:Nat} (hk:k<l.length) (hv:l[k]=(v:Int)) (h:(l.take k).contains (v:Int)=true):Be l=false:=by
 rw [List.contains_iff_mem,List.mem_take_iff_getElem] at h;obtain ⟨j,hj,e⟩:=h;exact Uf hk (j:=j) (by omega) (by rw [hv];exact e)
def Oi (l:List Int):Nat->List Int
 |0=>List.replicate l.length 0
 |k+1=>(Oi l k).set (l.getD k 0).toNat k
theorem Gv (l:List Int):∀k,(Oi l k).length=l.length
 |0=>by simp [Oi]
 |k+1=>by simp [Oi,Gv l k]
def Fr (l:List Int):List Int:=if Be l then Oi l l.length else []
theorem Gk:Gm Tryz.prog 3 (.int .i64 0) 1 8:=⟨by kernel_rfl,rfl,by decide⟩
theorem Jn (l:List Int) (ao:Option Addr) (cap:Nat) (w:World) (hl:l.length<=1000000) (hc:Cel w ao (l.map Ai)):
  Calls Tryz.prog 160 #[.slice ao l.length cap] w fun e w'=>e=.returned (.bool (Be l))/\Below w.heap.size w w':=by
 have HC:=Bm0 hc;clear hc;have HOK:=Bm0 (@Av1 l);have HOUT:=Bm0 (fun k (hk:k<l.length) (h:l[k]<0\/(l.length:Int)<=l[k])=>An2 (Bn2 hk) h);have HYES:=Bm0 (fun (k v:Nat) (hk:k<l.length) h1 h2=>@Aw8 l k v hk h1 h2);generalize Be l=r at*
 go_enter Tryz.func160,Tryz.ntmps160
 go_wp2_with (at_make;go_must ((with_reducible refine Em w.heap.size 4 _ 1 1 Ov Tryz.underlying177 l.length ?_ ?_ ?_ ?_ ?_ ?_ ?_ ?_);rotate_left 4;(· rfl);(· rfl);(· exact ⟨by simp,by simp,by omega,by omega,by simp⟩);intro wm hown hbl hszm;(have Hmo:=Bm0 hown;have Hmb:=Bm0 hbl;clear hown hbl)))
 have HZ0:=Bm0 (show (madeCells (Value.bool false).cells (l.length*1)).toList=(Rn l 0).map Je by
  show (madeCells #[Value.bool false] (l.length*1)).toList=_
  rw [Nat.mul_one,toList_madeCells_one,Ao3,List.map_replicate])
 go_loopg [11] l.length (fun gg i wr=>∃k:Nat,k<=l.length/\l.length-k<=gg/\i=.int .i64 k/\Aside (Pr l k)/\Aside (w.heap.size<wr.heap.size)/\
  Aside (wr.ownsRow w.heap.size 4 1 (.slice (some ⟨w.heap.size,0,none⟩) l.length l.length) l.length ((Rn l k).map Je))/\Aside (Below w.heap.size w wr))
 case atStart=>exact ⟨0,Bm3 _,by omega,rfl,Ac4 l,hszm,by have:=Hmo.out;rw [HZ0.out] at this;exact this,Hmb.out⟩
 case round=>
  obtain ⟨k,hk,hg,rfl,HP,HZ,HO,HB⟩:=hrel;clear HZ0
  by_cases hlt:k<l.length
  ·obtain ⟨b,o,hao,hcell⟩:=(HC.out.go HB.out).at hlt
   subst hao;have hlt3:(k:Int)<(l.length:Int):=by omega
   have hk0:(0:Int)<=(k:Int):=by omega
   have HOUT2:=Bm0 (HOUT.out k hlt);have HYES2:=Bm0 (fun v h1 h2=>HYES.out k v hlt h1 h2);have HPS:=Bm0 (fun h0 h1 h2=>Ac5 HP.out hlt h0 h1 h2);have HNO:=Bm0 (fun v h1 h2=>@Be5 l k v hlt h1 h2);have HST:=Bm0 (fun v h1 h2=>@Aw9 l k v hlt h1 h2);have HGT:=Bm0 (fun v h=>@Rm l k v h);generalize hx:l[k]=x at*
   by_cases h0:x<0
   ·have HR:=Bm0 (HOUT2.out (.inl h0))
    go_wp2
    go_ret
    exact ⟨by rw [HR.out];rfl,by have:=HB.out;repeat (first|exact Below.refl _ _|refine Below.al ?_ _|refine Below.dr ?_ _|refine Below.drew ?_|assumption|(refine Below.st ?_ (by assumption)))⟩
   ·by_cases h1:(l.length:Int)<=x
    ·have HR:=Bm0 (HOUT2.out (.inr h1))
     go_wp2
     go_ret
     exact ⟨by rw [HR.out];rfl,by have:=HB.out;repeat (first|exact Below.refl _ _|refine Below.al ?_ _|refine Below.dr ?_ _|refine Below.drew ?_|assumption|(refine Below.st ?_ (by assumption)))⟩
    ·obtain ⟨v,rfl⟩:∃v:Nat,x=(v:Int):=⟨x.toNat,by omega⟩
     have hv:v<l.length:=by omega
     have hv3:(v:Int)<(l.length:Int):=by omega
     have hv0:(0:Int)<=(v:Int):=by omega
     have j4:wr.cell? ⟨w.heap.size,v,none⟩=some (.bool ((l.take k).contains (v:Int))):=by
      rw [HO.out.cellAt v (by omega),Bn9,HGT.out v hv];rfl
     have j6:=HO.out.frozenAt v
     cases hq:(l.take k).contains (v:Int) with
     |true=>
      have HR:=Bm0 (HYES2.out v rfl hq);rw [hq] at j4;clear hq
      go_wp2
      go_ret
      exact ⟨by rw [HR.out];rfl,by have:=HB.out;repeat (first|exact Below.refl _ _|refine Below.al ?_ _|refine Below.dr ?_ _|refine Below.drew ?_|assumption|(refine Below.st ?_ (by assumption)))⟩
     |false=>
      have HPS2:=Bm0 (HPS.out hv0 hv3 (HNO.out v rfl hq));have HO2:=Bm0 (show (wr.setCell ⟨w.heap.size,v,none⟩ (Je true)).ownsRow w.heap.size 4 1 (.slice (some ⟨w.heap.size,0,none⟩) l.length l.length) l.length ((Rn l (k+1)).map Je) by
       have:=(HO.out.stored v (Je true)).1;rw [<-List.map_set,HST.out v rfl hv] at this;exact this)
      rw [hq] at j4;clear hq hx
      go_wp2
      go_roundg (l.length-(k+1))
      case measure=>omega
      case rel=>exact ⟨k+1,by omega,by omega,by go_num,HPS2.out,(show w.heap.size<(wr.setCell ⟨w.heap.size,v,none⟩ (Je true)).heap.size by have:=HZ.out;simpa [World.setCell] using this),HO2.out,HB.out.setCell (Bm2 _) _⟩
  ·obtain rfl:k=l.length:=by omega
   have HR:=Bm0 (HOK.out HP.out)
   go_wp2
   go_ret
   exact ⟨by rw [HR.out];rfl,HB.out⟩
def Nn (w:World) (r:List Int) (e:Ending) (w':World):Prop:=
 ∃ao cap,e=.returned (.slice ao r.length cap)/\Cel w' ao (r.map Ai)/\Below w.heap.size w w'/\∀k,(Value.slice ao r.length cap).ownBlock=some k->w.heap.size<=k
theorem Gy (l:List Int) (ao:Option Addr) (cap:Nat) (w:World) (hl:l.length<=1000000) (hc:Cel w ao (l.map Ai)):
  Calls Tryz.prog 108 #[.slice ao l.length cap] w (Nn w (Fr l)):=by
 have HC:=Bm0 hc;have HR:=Bm0 (fun W h=>Jn l ao cap W hl h);clear hc
 cases hr:Be l with
 |false=>
  have HV:=Bm0 (show Fr l=[] by unfold Fr;rw [hr];rfl);generalize Fr l=r at*;rw [hr] at HR;clear hr
  go_enter Tryz.func108,Tryz.ntmps108
  go_wp2_with (go_at_call 160;refine (HR.out _ HC.out).mono ?_;rintro e w1 ⟨rfl,hb1⟩)
  go_ret
  exact ⟨none,0,by rw [HV.out];rfl,by rw [HV.out];exact Cel.nil _ _,hb1,fun k hk=>by cases hk⟩
 |true=>
  have HV:=Bm0 (show Fr l=Oi l l.length by unfold Fr;rw [hr];rfl);have HIN:=Bm0 (fun k (hk:k<l.length)=>Ez hr l[k] (Bn2 hk));have HS:=Bm0 (fun k (hk:k<l.length)=>(show Oi l (k+1)=(Oi l k).set l[k].toNat k by simp [Oi,List.getD,hk]));have HLN:=Bm0 (Gv l);have HZ:=Bm0 (show Oi l 0=List.replicate l.length 0 from rfl);generalize Fr l=r at*;generalize Oi l=I at*;rw [hr] at HR;clear hr
  go_enter Tryz.func108,Tryz.ntmps108
  go_wp2_with fail
  refine (HR.out _ HC.out).mono ?_;rintro e w1 ⟨rfl,hb1⟩;have HB1:=Bm0 hb1;have HC1:=Bm0 (HC.out.go hb1);clear hb1
  go_wp2_with (at_make;go_must ((with_reducible refine Em w1.heap.size 3 _ 1 8 Gk Tryz.underlying25 l.length ?_ ?_ ?_ ?_ ?_ ?_ ?_ ?_);rotate_left 4;(· rfl);(· rfl);(· exact ⟨by simp,by simp,by omega,by omega,by simp⟩);intro wm hown hbl hszm;(have Hmo:=Bm0 hown;have Hmb:=Bm0 hbl;clear hown hbl)))
  have HZ0:=Bm0 (show (madeCells (Value.int .i64 0).cells (l.length*1)).toList=(I 0).map Ai by
   show (madeCells #[Value.int .i64 0] (l.length*1)).toList=_
   rw [Nat.mul_one,toList_madeCells_one,HZ.out,List.map_replicate])
  go_loopg [14] l.length (fun gg i wr=>∃k:Nat,k<=l.length/\l.length-k<=gg/\i=.int .i64 k/\Aside (w1.heap.size<wr.heap.size)/\
   Aside (wr.ownsRow w1.heap.size 3 1 (.slice (some ⟨w1.heap.size,0,none⟩) l.length l.length) l.length ((I k).map Ai))/\Aside (Below w1.heap.size w1 wr))
  case atStart=>exact ⟨0,Bm3 _,by omega,rfl,hszm,by have:=Hmo.out;rw [HZ0.out] at this;exact this,Hmb.out⟩
  case round=>
   obtain ⟨k,hk,hg,rfl,HZ2,HO,HB⟩:=hrel;clear HZ0
   by_cases hlt:k<l.length
   ·obtain ⟨b,o,hao,hcell⟩:=(HC1.out.go HB.out).at hlt
    subst hao;have hlt3:(k:Int)<(l.length:Int):=by omega
    have hk0:(0:Int)<=(k:Int):=by omega
    have hin:=HIN.out k hlt;have HS2:=Bm0 (HS.out k hlt);generalize l[k]=x at*;obtain ⟨v,rfl⟩:∃v:Nat,x=(v:Int):=⟨x.toNat,by omega⟩;have hv:v<l.length:=by omega
    obtain ⟨u,j4⟩:∃u,wr.cell? ⟨w1.heap.size,v,none⟩=some u:=by
     rw [HO.out.cellAt v (by omega),Bn9,Bm5 (by rw [HLN.out];omega)];exact ⟨_,rfl⟩
    have j6:=HO.out.frozenAt v;have HO2:=Bm0 (show (wr.setCell ⟨w1.heap.size,v,none⟩ (Ai k)).ownsRow w1.heap.size 3 1 (.slice (some ⟨w1.heap.size,0,none⟩) l.length l.length) l.length ((I (k+1)).map Ai) by
     have:=(HO.out.stored v (Ai k)).1;rw [<-List.map_set] at this;rw [HS2.out];exact this)
    go_wp2
    go_roundg (l.length-(k+1))
    case measure=>omega
    case rel=>exact ⟨k+1,by omega,by omega,by go_num,(show w1.heap.size<(wr.setCell ⟨w1.heap.size,v,none⟩ (Ai k)).heap.size by have:=HZ2.out;simpa [World.setCell] using this),HO2.out,HB.out.setCell (Bm2 _) _⟩
   ·obtain rfl:k=l.length:=by omega
    obtain ⟨ao8,cap8,e8,hc8⟩:=Cel.of_owns HO.out
    cases e8
    have HC8:=Bm0 hc8;have HRL:=Bm0 (show r.length=l.length by rw [HV.out];exact HLN.out _);clear hc8
    go_wp2
    go_ret
    exact ⟨_,l.length,by rw [HRL.out];rfl,by rw [HV.out];exact HC8.out,HB1.out.st HB.out,fun k hk=>by cases hk;exact HB1.out.size⟩
end
section
open Ch
theorem Yv {l:List Int} (hn:Pr l l.length):∀(k p:Nat) (_hk:k<=l.length) (hp:p<k),(Oi l k)[(l.getD p 0).toNat]? =some (p:Int)
 |k+1,p,hk,hp=>by
  have hlt:∀i,i<l.length->l.getD i 0=l[i]!:=fun i hi=>by simp [List.getD,hi]
  have hin:=fun i (hi:i<l.length)=>hn i hi hi;have hkl:k<l.length:=by omega
  have hpl:p<l.length:=by omega
  have ek:l.getD k 0=l[k]:=by simp [List.getD,hkl]
  have ep:l.getD p 0=l[p]:=by simp [List.getD,hpl]
  show ((Oi l k).set (l.getD k 0).toNat k)[(l.getD p 0).toNat]? =_
  rw [List.getElem?_set]
  by_cases e:p=k
  ·subst e
   rw [if_pos rfl,Gv,if_pos (by rw [ep];have:=hin p hpl;omega)]
  ·rw [if_neg (by
    rw [ek,ep];intro h;have h1:=hin k hkl;have h2:=hin p hpl;exact h1.2.2 p (by omega) (by omega))]
   exact Yv hn k p (by omega) (by omega)
theorem Dv {l:List Int} (h:Be l=true):(Fr l).length=l.length:=by unfold Fr;rw [if_pos h,Gv]
theorem getD_in {l:List Int} {p:Nat} (hp:p<l.length):l.getD p 0=l[p]:=by simp [List.getD,hp]
theorem Na {l:List Int} (h:Be l=true) {p:Nat} (hp:p<l.length):(Fr l)[(l[p]).toNat]? =some (p:Int):=by
 have:=Yv (Jp h) l.length p (Bm2 _) hp;rw [getD_in hp] at this;unfold Fr;rw [if_pos h];exact this
theorem Rd {l:List Int} (h:Be l=true) {i:Nat} (hi:i<l.length):∃p,∃hp:p<l.length,l[p]=(i:Int):=by
 have:=Kf h (i:Int) (Co.2 ⟨by omega,by omega⟩);obtain ⟨p,hp,e⟩:=Bq4.1 this;exact ⟨p,hp,e⟩
theorem Oh {l:List Int} (h:Be l=true):Be (Fr l)=true:=by
 refine Lw fun x hx=>?_;rw [Dv h] at hx;obtain ⟨h0,h1⟩:=Co.1 hx;have hp:x.toNat<l.length:=by omega
 have:=Bo8 (Na h hp)
 rwa [Bq7 h0] at this
theorem Ao9 {l:List Int} (h:Be l=true):Fr (Fr l)=l:=by
 have h2:=Oh h;have hl:=Dv h
 apply List.ext_getElem?
 intro p
 by_cases hp:p<l.length
 ·have hin:=Ez h l[p] (Bn2 hp)
  have h3:=Na h hp;have hv:(l[p]).toNat<(Fr l).length:=by omega
  have h4:=Na h2 hv;have e:(Fr l)[(l[p]).toNat]=(p:Int):=Bo9 ((Bm5 hv).symm.trans h3);rw [e,Bn4] at h4;rw [h4,Bm5 hp,Bq7 hin.1]
 ·rw [Bp7 (by rw [Dv h2];omega),Bp7 (by omega)]
def BuiltOK (es:List EdgeD) (n:Nat) (R:List Int) (S:List SC):Prop:=
 ∃out c,Core (Am es) (Zn es) n out c/\c.S=S/\Be out=true/\out.length=n/\R=Fr out
theorem Bd4 {n:Nat} {out:List Int} (h1:∀u∈out,Ac n u) (h2:out.Nodup) (h3:∀u,Ac n u->u∈out):Be out=true/\out.length=n:=by
 have hl:out.length=n:=by
  have a1:=Dc out (La n) h2 (fun x hx=>Co.2 (h1 x hx));have a2:=Dc (La n) out (Mc n) (fun x hx=>h3 x (Co.1 hx));rw [Du] at a1 a2;omega
 exact ⟨Lw (fun x hx=>h3 x (by rw [hl] at hx;exact Co.1 hx)),hl⟩
theorem Bd5 {out:List Int} (h:Be out=true) {v:Int} (hv:Ac out.length v):(Fr out)[v.toNat]? =some (rk out v):=by
 obtain ⟨p,hp,e⟩:=Rd h (i:=v.toNat) (by have:=hv.1;have:=hv.2;omega);have e2:out[p]=v:=by rw [e];have:=hv.1;omega
 have h1:=Na h hp;rw [e2] at h1;rw [h1];have hn:=Js (Jp h);have:out.idxOf v=p:=by
  rw [<-e2];exact hn.idxOf_getElem p hp
 unfold rk;rw [this]
structure HierOK (es:List EdgeD) (n:Nat) (R:List Int) (S:List SC) (out:List Int):Prop where
 h:Hier (Am es) (Mn S) (rk out) (Ac n)
 len:R.length=n
 rank:Be R=true
 at1:∀v,Ac n v->R[v.toNat]? =some (rk out v)
 made:Made (Zn es) (rk out) S
 ends:∀x∈S,Ac n x.f/\Ac n x.t/\x.f≠x.t/\1<=x.w
 big:∀x∈S,x.w<=4294967296*2 ^ n
 ltr:∀(i j:Nat) (x y:SC),i<j->S[i]? =some x->S[j]? =some y->x.f=y.f->x.t=y.t->y.w<x.w
theorem BuiltOK.hier {es:List EdgeD} {n:Nat} {R:List Int} {S:List SC} (hE:EdgesOK n es) (h:BuiltOK es n R S):∃out,HierOK es n R S out:=by
 obtain ⟨out,c,hc,rfl,hr,hl,rfl⟩:=h;have hall:∀v,Ac n v->v∈out:=fun v hv=>Kf hr v (by rw [hl];exact Co.2 hv);refine ⟨out,hc.part.hier ?_ ?_ hall,by rw [Dv hr,hl],Oh hr,?_,hc.made,hc.inv.ends,?_,hc.inv.ltr⟩
 ·rintro u v w ⟨x,hx,_,_,rfl⟩
  exact (hE.ok x hx).2.2.2.1
 ·rintro u v w ⟨x,hx,rfl,rfl,rfl⟩
  exact ⟨(hE.ok x hx).1,(hE.ok x hx).2.1⟩
 ·intro v hv
  exact Bd5 hr (by rw [hl];exact hv)
 ·intro x hx
  have:=hc.big x hx
  rwa [hl] at this
end
section
open Go Go.Proofs Go.RowKit Go.Shelf Hp Ch
def inB (x:Int):Bool:=decide (1<=x)&&decide (x<=1000)
def An6 (hops settles:Int) (r:List Int):Bool:=inB hops&&inB settles&&Be r
theorem Qz (x:Int) (w:World):Calls Tryz.prog 159 (#[.int .i64 x]++#[]) w fun e w'=>e=.returned (.bool (inB x))/\w=w':=by
 unfold inB
 go_enter Tryz.func159,Tryz.ntmps159
 go_wp2
 all_goals
  go_ret
  exact ⟨by simp [*]<;>omega,rfl⟩
theorem Px (hops settles:Int) (r:List Int) (ao:Option Addr) (cap:Nat) (w:World) (hl:r.length<=1000000) (hc:Cel w ao (r.map Ai)):
  Calls Tryz.prog 106 #[.agg #[.int .i64 hops,.int .i64 settles,.slice ao r.length cap]] w fun e w'=>e=.returned (.bool (An6 hops settles r))/\Below w.heap.size w w':=by
 have HR:=Bm0 (fun W h=>Jn r ao cap W hl h);have HC:=Bm0 hc;have H1:=Bm0 (fun W=>Qz hops W);have H2:=Bm0 (fun W=>Qz settles W);have HO:=Bm0 (show An6 hops settles r=(inB hops&&inB settles&&Be r) from rfl);generalize An6 hops settles r=ob at*;generalize inB hops=b1 at*;generalize inB settles=b2 at*;generalize Be r=b3 at*;clear hc
 cases b1<;>cases b2
 all_goals
  go_enter Tryz.func106,Tryz.ntmps106
  go_wp2_with (first
   |(go_at_call 160;refine (HR.out _ (HC.out.go (Below.of_al _ _))).mono ?_;rintro e w1 ⟨rfl,hb1⟩)
   |(go_at_call_of 159 (Value.int .i64 hops);refine (H1.out _).mono ?_;rintro e w1 ⟨rfl,rfl⟩)
   |(go_at_call_of 159 (Value.int .i64 settles);refine (H2.out _).mono ?_;rintro e w1 ⟨rfl,rfl⟩))
  go_ret
  first
   |exact ⟨by rw [HO.out];rfl,(Below.of_al _ _).st hb1⟩
   |exact ⟨by rw [HO.out];rfl,Below.of_al _ _⟩
end
section
open Go Go.Proofs Go.RowKit Go.Shelf Hp Ch
def Fu (n:Nat) (xs:List Value) (w:World) (e:Ending) (w':World):Prop:=
 ∃ao cap,e=.returned (.slice ao n cap)/\Cel w' ao xs/\Below w.heap.size w w'/\∀k,(Value.slice ao n cap).ownBlock=some k->w.heap.size<=k
theorem Sm (n:Nat) (xs:List Value) (ao:Option Addr) (cap:Nat) (w:World) (hx:xs.length=n*1) (h:Cel w ao xs) (h1:∀u∈xs,u.oneCell'=true) (hl:n<=1000000):
  Calls Tryz.prog 67 #[.slice ao n cap] w (Fu n xs w):=by
 have heq:=Lib.run_eql_slice_nil (P:=Tryz.prog) w 25 3 ao n cap 0 0 Tryz.underlying25;unfold Fu
 cases ao with
 |none=>
  have hn:n=0:=by
   rcases xs with _|⟨x,r⟩
   ·have:n*1=0:=hx.symm
    omega
   ·obtain ⟨b,o,e,_⟩:=h 0 x rfl
    cases e
  subst hn;have hn2:xs=[]:=List.length_eq_zero_iff.1 (by simpa using hx);subst hn2;simp only [Option.isNone] at heq;clear h h1 hx
  go_enter Tryz.func67,Tryz.ntmps67
  go_wp2
  go_ret
  exact ⟨none,_,rfl,Cel.nil _ _,Below.refl _ _,fun k hk=>by cases hk⟩
 |some a=>
  simp only [Option.isNone] at heq
  by_cases hn:n=0
  ·subst hn
   have hn2:xs=[]:=List.length_eq_zero_iff.1 (by simpa using hx);subst hn2;clear h h1 hx
   go_enter Tryz.func67,Tryz.ntmps67
   go_wp2
   go_ret
   exact ⟨_,_,rfl,Cel.nil _ _,Below.of_al _ _,fun k hk=>by cases hk;exact Bm2 _⟩
  ·have hpos:0<n:=Nat.pos_of_ne_zero hn
   obtain ⟨gb,gof,e,-⟩:=h 0 _ (Bm5 (by omega))
   cases e
   have hlit:(w.alloc (.cells #[] 3)).ownsRow w.heap.size 3 1 (.slice (some ⟨w.heap.size,0,none⟩) 0 0) 0 []:=World.ownsRow_lit (base:=w.heap.size) (e:=3) (size:=1) w #[] 0 (Bm2 _) (by unfold maxLen;omega) rfl;obtain ⟨i0,hi,hz0,hsz,hby⟩:=info_parts Ce.1;have HL:=Bm0 hlit;have HC:=Bm0 (h.go (Below.of_al w (.cells #[] 3)));have HX:=Bm0 hx;have H1:=Bm0 h1;clear hlit h hx h1
   go_enter Tryz.func67,Tryz.ntmps67
   go_wp2_with (at_builtin;refine wpList_append_own _ rfl _ _ _ rfl w.heap.size 3 i0 (.int .i64 0) 1 8 Tryz.underlying25 hi hz0 hsz hby rfl (by decide) (.slice (some ⟨w.heap.size,0,none⟩) 0 0) 0 [] rfl HL.out ⟨gb,gof,none⟩ n cap xs rfl HX.out (fun j u hj=>by rw [Addr.add_lit];obtain ⟨b',o',e,h⟩:=HC.out j u hj;cases e;exact h) H1.out (by unfold maxLen;omega) (by omega) (by simp) ?_;intro v1 w1 ho1 hg1 hn1)
   have hbl:=(Below.of_al w (.cells #[] 3)).grown hg1 (by simp) (fun k hk=>(HL.out.lt k hk).1);rw [Nat.zero_add,List.nil_append] at ho1;obtain ⟨g,cap,rfl⟩:=Ao ho1 hpos
   go_ret
   obtain ⟨a2,c2,e,hc⟩:=Cel.of_owns ho1
   cases e
   exact ⟨_,_,rfl,hc,hbl,fun k hk=>(ho1.lt k hk).1⟩
theorem Ar1:Gm Tryz.prog 109 (.agg #[.int .i64 0,.int .i64 0,.int .u64 0]) 3 24:=⟨by kernel_rfl,rfl,by decide⟩
theorem Ag0 (n:Nat) (xs:List Value) (ao:Option Addr) (cap:Nat) (w:World) (hx:xs.length=n*3) (h:Cel w ao xs) (h1:∀u∈xs,u.oneCell'=true) (hl:n<=1000000):
  Calls Tryz.prog 171 #[.slice ao n cap] w (Fu n xs w):=by
 have heq:=Lib.run_eql_slice_nil (P:=Tryz.prog) w 22 109 ao n cap 0 0 Tryz.underlying22;unfold Fu
 cases ao with
 |none=>
  have hn:n=0:=by
   rcases xs with _|⟨x,r⟩
   ·have:n*3=0:=hx.symm
    omega
   ·obtain ⟨b,o,e,_⟩:=h 0 x rfl
    cases e
  subst hn;have hn2:xs=[]:=List.length_eq_zero_iff.1 (by simpa using hx);subst hn2;simp only [Option.isNone] at heq;clear h h1 hx
  go_enter Tryz.func171,Tryz.ntmps171
  go_wp2
  go_ret
  exact ⟨none,_,rfl,Cel.nil _ _,Below.refl _ _,fun k hk=>by cases hk⟩
 |some a=>
  simp only [Option.isNone] at heq
  by_cases hn:n=0
  ·subst hn
   have hn2:xs=[]:=List.length_eq_zero_iff.1 (by simpa using hx);subst hn2;clear h h1 hx
   go_enter Tryz.func171,Tryz.ntmps171
   go_wp2
   go_ret
   exact ⟨_,_,rfl,Cel.nil _ _,Below.of_al _ _,fun k hk=>by cases hk;exact Bm2 _⟩
  ·have hpos:0<n:=Nat.pos_of_ne_zero hn
   obtain ⟨gb,gof,e,-⟩:=h 0 _ (Bm5 (by omega))
   cases e
   have hlit:(w.alloc (.cells #[] 109)).ownsRow w.heap.size 109 3 (.slice (some ⟨w.heap.size,0,none⟩) 0 0) 0 []:=World.ownsRow_lit (base:=w.heap.size) (e:=109) (size:=3) w #[] 0 (Bm2 _) (by unfold maxLen;omega) rfl;obtain ⟨i0,hi,hz0,hsz,hby⟩:=info_parts Ar1.1;have HL:=Bm0 hlit;have HC:=Bm0 (h.go (Below.of_al w (.cells #[] 109)));have HX:=Bm0 hx;have H1:=Bm0 h1;clear hlit h hx h1
   go_enter Tryz.func171,Tryz.ntmps171
   go_wp2_with (at_builtin;refine wpList_append_own _ rfl _ _ _ rfl w.heap.size 109 i0 (.agg #[.int .i64 0,.int .i64 0,.int .u64 0]) 3 24 Tryz.underlying22 hi hz0 hsz hby rfl (by decide) (.slice (some ⟨w.heap.size,0,none⟩) 0 0) 0 [] rfl HL.out ⟨gb,gof,none⟩ n cap xs rfl HX.out (fun j u hj=>by rw [Addr.add_lit];obtain ⟨b',o',e,h⟩:=HC.out j u hj;cases e;exact h) H1.out (by unfold maxLen;omega) (by omega) (by simp) ?_;intro v1 w1 ho1 hg1 hn1)
   have hbl:=(Below.of_al w (.cells #[] 109)).grown hg1 (by simp) (fun k hk=>(HL.out.lt k hk).1);rw [Nat.zero_add,List.nil_append] at ho1;obtain ⟨g,cap,rfl⟩:=Ao ho1 hpos
   go_ret
   obtain ⟨a2,c2,e,hc⟩:=Cel.of_owns ho1
   cases e
   exact ⟨_,_,rfl,hc,hbl,fun k hk=>(ho1.lt k hk).1⟩
theorem Af8 (n:Nat) (xs:List Value) (ao:Option Addr) (cap:Nat) (w:World) (hx:xs.length=n*6) (h:Cel w ao xs) (h1:∀u∈xs,u.oneCell'=true) (hl:n<=1000000):
  Calls Tryz.prog 150 #[.slice ao n cap] w (Fu n xs w):=by
 have heq:=Lib.run_eql_slice_nil (P:=Tryz.prog) w 79 187 ao n cap 0 0 Tryz.underlying79;unfold Fu
 cases ao with
 |none=>
  have hn:n=0:=by
   rcases xs with _|⟨x,r⟩
   ·have:n*6=0:=hx.symm
    omega
   ·obtain ⟨b,o,e,_⟩:=h 0 x rfl
    cases e
  subst hn;have hn2:xs=[]:=List.length_eq_zero_iff.1 (by simpa using hx);subst hn2;simp only [Option.isNone] at heq;clear h h1 hx
  go_enter Tryz.func150,Tryz.ntmps150
  go_wp2
  go_ret
  exact ⟨none,_,rfl,Cel.nil _ _,Below.refl _ _,fun k hk=>by cases hk⟩
 |some a=>
  simp only [Option.isNone] at heq
  by_cases hn:n=0
  ·subst hn
   have hn2:xs=[]:=List.length_eq_zero_iff.1 (by simpa using hx);subst hn2;clear h h1 hx
   go_enter Tryz.func150,Tryz.ntmps150
   go_wp2
   go_ret
   exact ⟨_,_,rfl,Cel.nil _ _,Below.of_al _ _,fun k hk=>by cases hk;exact Bm2 _⟩
  ·have hpos:0<n:=Nat.pos_of_ne_zero hn
   obtain ⟨gb,gof,e,-⟩:=h 0 _ (Bm5 (by omega))
   cases e
   have hlit:(w.alloc (.cells #[] 187)).ownsRow w.heap.size 187 6 (.slice (some ⟨w.heap.size,0,none⟩) 0 0) 0 []:=World.ownsRow_lit (base:=w.heap.size) (e:=187) (size:=6) w #[] 0 (Bm2 _) (by unfold maxLen;omega) rfl;obtain ⟨i0,hi,hz0,hsz,hby⟩:=info_parts Ak2.1;have HL:=Bm0 hlit;have HC:=Bm0 (h.go (Below.of_al w (.cells #[] 187)));have HX:=Bm0 hx;have H1:=Bm0 h1;clear hlit h hx h1
   go_enter Tryz.func150,Tryz.ntmps150
   go_wp2_with (at_builtin;refine wpList_append_own _ rfl _ _ _ rfl w.heap.size 187 i0 (.agg #[.int .i64 0,.int .i64 0,.int .u64 0,.int .i64 0,.int .i64 0,.int .i64 0]) 6 48 Tryz.underlying79 hi hz0 hsz hby rfl (by decide) (.slice (some ⟨w.heap.size,0,none⟩) 0 0) 0 [] rfl HL.out ⟨gb,gof,none⟩ n cap xs rfl HX.out (fun j u hj=>by rw [Addr.add_lit];obtain ⟨b',o',e,h⟩:=HC.out j u hj;cases e;exact h) H1.out (by unfold maxLen;omega) (by omega) (by simp) ?_;intro v1 w1 ho1 hg1 hn1)
   have hbl:=(Below.of_al w (.cells #[] 187)).grown hg1 (by simp) (fun k hk=>(HL.out.lt k hk).1);rw [Nat.zero_add,List.nil_append] at ho1;obtain ⟨g,cap,rfl⟩:=Ao ho1 hpos
   go_ret
   obtain ⟨a2,c2,e,hc⟩:=Cel.of_owns ho1
   cases e
   exact ⟨_,_,rfl,hc,hbl,fun k hk=>(ho1.lt k hk).1⟩
end
end Go.Proofs.YteaaapdjplbljaaGreat
