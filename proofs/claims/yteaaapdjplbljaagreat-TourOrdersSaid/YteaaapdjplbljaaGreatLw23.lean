/- Walks of package rank that the hierarchies want: which lists are ranks, and their inverse. What a hierarchy that is built is, in plain Lean: a rank, and shortcuts that are its hierarchy. Walk of package contract: which options may be. slices.Clone at ints, edges and shortcuts. -/
import Derived.Test.YteaaapdjplbljaaGreatProg
import Derived.Test.YteaaapdjplbljaaGreatLw13
import Derived.Deep.RegionLaw
import Derived.Test.YteaaapdjplbljaaGreatLw18
import Derived.Test.YteaaapdjplbljaaGreatLw22
set_option linter.unusedVariables false
set_option linter.unusedSimpArgs false
set_option linter.unnecessarySimpa false
section
namespace Go.Proofs.YteaaapdjplbljaaGreat
open Go.Proofs Go.RowKit Go.Shelf
def rngI (n:Nat):List Int:=(List.range n).map Int.ofNat
theorem rngI_length (n:Nat):(rngI n).length=n:=by simp [rngI]
theorem mem_rngI {n:Nat} {x:Int}:x∈rngI n↔0≤x∧x<n:=by
 unfold rngI
 rw [List.mem_map]
 constructor
 ·rintro ⟨a,ha,rfl⟩
  have:=List.mem_range.1 ha
  exact ⟨Int.natCast_nonneg _,by show (a:Int)<n;omega⟩
 ·rintro ⟨h0,h1⟩
  exact ⟨x.toNat,List.mem_range.2 (by omega),by show ((x.toNat:Nat):Int)=x;omega⟩
theorem nodup_rngI (n:Nat):(rngI n).Nodup:=by
 unfold rngI
 refine List.Pairwise.map _ ?_ List.nodup_range
 intro a b hab h
 exact hab (Int.ofNat.inj h)
theorem sub_length:∀(a b:List Int),a.Nodup→(∀x∈a,x∈b)→a.length≤b.length
 |[],_,_,_=>by simp
 |x::r,b,hn,hs=>by
  have hx:=hs x (by simp)
  obtain ⟨h1,h2⟩:=List.nodup_cons.1 hn
  have h3:=sub_length r (b.erase x) h2 (fun y hy=>(List.mem_erase_of_ne (by rintro rfl;exact h1 hy)).2 (hs y (by simp [hy])))
  have h4:=List.length_erase_of_mem hx
  have h5:=List.length_pos_of_mem hx
  rw [List.length_cons]
  omega
def rankB (l:List Int):Bool:=(List.range l.length).all fun i=>l.contains (i:Int)
theorem rankB_true {l:List Int} (h:∀x∈rngI l.length,x∈l):rankB l=true:=by
 unfold rankB
 rw [List.all_eq_true]
 intro i hi
 rw [List.contains_iff_mem]
 exact h _ (mem_rngI.2 ⟨by omega,by have:=List.mem_range.1 hi;omega⟩)
theorem rankB_sub {l:List Int} (h:rankB l=true):∀x∈rngI l.length,x∈l:=by
 intro x hx
 obtain ⟨h0,h1⟩:=mem_rngI.1 hx
 unfold rankB at h
 rw [List.all_eq_true] at h
 have:=h x.toNat (List.mem_range.2 (by omega))
 rw [List.contains_iff_mem] at this
 rwa [Int.toNat_of_nonneg h0] at this
def okPre (l:List Int) (k:Nat):Prop:=∀i (h:i<l.length),i<k→0≤l[i]∧l[i]<l.length∧∀j (h2:j<i),l[j]≠l[i]
theorem okPre_zero (l:List Int):okPre l 0:=fun _ _ h=>absurd h (Nat.not_lt_zero _)
theorem okPre_succ {l:List Int} {k:Nat} (h:okPre l k) (hk:k<l.length) (h0:0≤l[k]) (h1:l[k]<l.length) (h2:∀j (hj:j<k),l[j]≠l[k]):okPre l (k+1):=by
 intro i hi hik
 by_cases e:i=k
 ·subst e;exact ⟨h0,h1,h2⟩
 ·exact h i hi (by omega)
theorem okPre_nodup {l:List Int} (h:okPre l l.length):l.Nodup:=by
 unfold List.Nodup
 rw [List.pairwise_iff_getElem]
 intro i j hi hj hij
 exact (h j hj hj).2.2 i hij
theorem rankB_ok {l:List Int} (h:okPre l l.length):rankB l=true:=by
 refine rankB_true fun x hx=>?_
 by_cases hm:x∈l
 ·exact hm
 ·have h1:=sub_length (x::l) (rngI l.length) (List.nodup_cons.2 ⟨hm,okPre_nodup h⟩) (fun y hy=>by
   rcases List.mem_cons.1 hy with rfl|hy
   ·exact hx
   ·obtain ⟨i,hi,rfl⟩:=List.mem_iff_getElem.1 hy
    have:=h i hi hi
    exact mem_rngI.2 ⟨this.1,this.2.1⟩)
  rw [rngI_length] at h1
  simp at h1
  omega
theorem rankB_in {l:List Int} (h:rankB l=true):∀x∈l,0≤x∧x<l.length:=by
 intro x hx
 by_cases hr:x∈rngI l.length
 ·exact mem_rngI.1 hr
 ·have h1:=sub_length (rngI l.length) (l.erase x) (nodup_rngI _) (fun y hy=>(List.mem_erase_of_ne (by rintro rfl;exact hr hy)).2 (rankB_sub h y hy))
  rw [rngI_length,List.length_erase_of_mem hx] at h1
  have:=List.length_pos_of_mem hx
  omega
theorem rankB_out {l:List Int} {x:Int} (hx:x∈l) (h:x<0∨(l.length:Int)≤x):rankB l=false:=by
 cases e:rankB l with
 |false=>rfl
 |true=>have:=rankB_in e x hx;omega
theorem rankB_dup {l:List Int} {j k:Nat} (hk:k<l.length) (hj:j<k) (h:l[j]=l[k]):rankB l=false:=by
 cases e:rankB l with
 |false=>rfl
 |true=>
  have h1:=sub_length (rngI l.length) (l.eraseIdx k) (nodup_rngI _) (fun y hy=>by
   obtain ⟨i,hi,rfl⟩:=List.mem_iff_getElem.1 (rankB_sub e y hy)
   rw [List.mem_eraseIdx_iff_getElem]
   by_cases c:i=k
   ·subst c;exact ⟨j,by omega,by omega,h⟩
   ·exact ⟨i,hi,c,rfl⟩)
  rw [rngI_length,List.length_eraseIdx_of_lt hk] at h1
  omega
theorem rankB_nodup {l:List Int} (h:rankB l=true):okPre l l.length:=by
 intro i hi _
 have h1:=rankB_in h l[i] (List.getElem_mem hi)
 refine ⟨h1.1,h1.2,fun j hj e=>?_⟩
 rw [rankB_dup hi hj e] at h
 cases h
def metL (l:List Int) (k:Nat):List Bool:=(List.range l.length).map fun v=>(l.take k).contains ((v:Nat):Int)
theorem metL_length (l:List Int) (k:Nat):(metL l k).length=l.length:=by simp [metL]
theorem metL_zero (l:List Int):metL l 0=List.replicate l.length false:=by
 unfold metL
 apply List.ext_getElem
 ·simp
 ·intro i h1 h2
  simp
theorem metL_get {l:List Int} {k v:Nat} (hv:v<l.length):(metL l k)[v]? =some ((l.take k).contains (v:Int)):=by
 unfold metL
 rw [List.getElem?_map,List.getElem?_range hv]
 rfl
theorem metL_set {l:List Int} {k v:Nat} (hk:k<l.length) (hv:l[k]=(v:Int)) (hl:v<l.length):(metL l k).set v true=metL l (k+1):=by
 apply List.ext_getElem?
 intro i
 rw [List.getElem?_set]
 by_cases hi:i<l.length
 ·rw [metL_get hi,metL_get hi,List.take_succ_eq_append_getElem hk]
  by_cases e:v=i
  ·subst e
   simp [metL_length,hl,hv]
  ·rw [if_neg e]
   congr 1
   rw [List.contains_eq_mem,List.contains_eq_mem]
   congr 1
   rw [List.mem_append,List.mem_singleton,hv]
   simp
   omega
 ·rw [if_neg (by omega),List.getElem?_eq_none (by rw [metL_length];omega),List.getElem?_eq_none (by rw [metL_length];omega)]
theorem metL_no {l:List Int} {k v:Nat} (hk:k<l.length) (hv:l[k]=(v:Int)) (h:(l.take k).contains (v:Int)=false):∀j (hj:j<k),l[j]≠l[k]:=by
 intro j hj e
 have:(v:Int)∈l.take k:=by
  rw [←hv,←e]
  rw [List.mem_take_iff_getElem]
  exact ⟨j,by omega,rfl⟩
 rw [List.contains_eq_mem] at h
 simp [this] at h
theorem metL_yes {l:List Int} {k v:Nat} (hk:k<l.length) (hv:l[k]=(v:Int)) (h:(l.take k).contains (v:Int)=true):rankB l=false:=by
 rw [List.contains_iff_mem,List.mem_take_iff_getElem] at h
 obtain ⟨j,hj,e⟩:=h
 exact rankB_dup hk (j:=j) (by omega) (by rw [hv];exact e)
def invK (l:List Int):Nat→List Int
 |0=>List.replicate l.length 0
 |k+1=>(invK l k).set (l.getD k 0).toNat k
theorem invK_length (l:List Int):∀k,(invK l k).length=l.length
 |0=>by simp [invK]
 |k+1=>by simp [invK,invK_length l k]
def invL (l:List Int):List Int:=if rankB l then invK l l.length else []
theorem elem_int:Elem Tryz.prog 3 (.int .i64 0) 1 8:=⟨by kernel_rfl,rfl,by decide⟩
set_option maxHeartbeats 1000000 in
theorem rkRight_any (l:List Int) (ao:Option Addr) (cap:Nat) (w:World) (hl:l.length≤1000000) (hc:Cel w ao (l.map encI)):
  Calls Tryz.prog 160 #[.slice ao l.length cap] w fun e w'=>e=.returned (.bool (rankB l))∧Below w.heap.size w w':=by
 have HC:=Lib.hid hc
 clear hc
 have HOK:=Lib.hid (@rankB_ok l)
 have HOUT:=Lib.hid (fun k (hk:k<l.length) (h:l[k]<0∨(l.length:Int)≤l[k])=>rankB_out (List.getElem_mem hk) h)
 have HYES:=Lib.hid (fun (k v:Nat) (hk:k<l.length) h1 h2=>@metL_yes l k v hk h1 h2)
 generalize rankB l=r at*
 go_enter Tryz.func160,Tryz.ntmps160
 go_wp2_with (at_make;go_must ((with_reducible refine wpList_mk w.heap.size 4 _ 1 1 elem_bool Tryz.underlying177 l.length ?_ ?_ ?_ ?_ ?_ ?_ ?_ ?_);rotate_left 4;(· rfl);(· rfl);(· exact ⟨by simp,by simp,by omega,by omega,by simp⟩);intro wm hown hbl hszm;(have Hmo:=Lib.hid hown;have Hmb:=Lib.hid hbl;clear hown hbl)))
 have HZ0:=Lib.hid (show (madeCells (Value.bool false).cells (l.length*1)).toList=(metL l 0).map encB by
  show (madeCells #[Value.bool false] (l.length*1)).toList=_
  rw [Nat.mul_one,toList_madeCells_one,metL_zero,List.map_replicate])
 go_loopg [11] l.length (fun gg i wr=>∃k:Nat,k≤l.length∧l.length-k≤gg∧i=.int .i64 k∧Aside (okPre l k)∧Aside (w.heap.size<wr.heap.size)∧
  Aside (wr.ownsRow w.heap.size 4 1 (.slice (some ⟨w.heap.size,0,none⟩) l.length l.length) l.length ((metL l k).map encB))∧Aside (Below w.heap.size w wr))
 case atStart=>exact ⟨0,Nat.zero_le _,by omega,rfl,okPre_zero l,hszm,by have:=Hmo.out;rw [HZ0.out] at this;exact this,Hmb.out⟩
 case round=>
  obtain ⟨k,hk,hg,rfl,HP,HZ,HO,HB⟩:=hrel
  clear HZ0
  by_cases hlt:k<l.length
  ·obtain ⟨b,o,hao,hcell⟩:=(HC.out.go HB.out).at hlt
   subst hao
   have hlt3:(k:Int)<(l.length:Int):=by omega
   have hk0:(0:Int)≤(k:Int):=by omega
   have HOUT2:=Lib.hid (HOUT.out k hlt)
   have HYES2:=Lib.hid (fun v h1 h2=>HYES.out k v hlt h1 h2)
   have HPS:=Lib.hid (fun h0 h1 h2=>okPre_succ HP.out hlt h0 h1 h2)
   have HNO:=Lib.hid (fun v h1 h2=>@metL_no l k v hlt h1 h2)
   have HST:=Lib.hid (fun v h1 h2=>@metL_set l k v hlt h1 h2)
   have HGT:=Lib.hid (fun v h=>@metL_get l k v h)
   generalize hx:l[k]=x at*
   by_cases h0:x<0
   ·have HR:=Lib.hid (HOUT2.out (.inl h0))
    go_wp2
    go_ret
    exact ⟨by rw [HR.out];rfl,by have:=HB.out;repeat (first|exact Below.refl _ _|refine Below.al ?_ _|refine Below.dr ?_ _|refine Below.drew ?_|assumption|(refine Below.st ?_ (by assumption)))⟩
   ·by_cases h1:(l.length:Int)≤x
    ·have HR:=Lib.hid (HOUT2.out (.inr h1))
     go_wp2
     go_ret
     exact ⟨by rw [HR.out];rfl,by have:=HB.out;repeat (first|exact Below.refl _ _|refine Below.al ?_ _|refine Below.dr ?_ _|refine Below.drew ?_|assumption|(refine Below.st ?_ (by assumption)))⟩
    ·obtain ⟨v,rfl⟩:∃v:Nat,x=(v:Int):=⟨x.toNat,by omega⟩
     have hv:v<l.length:=by omega
     have hv3:(v:Int)<(l.length:Int):=by omega
     have hv0:(0:Int)≤(v:Int):=by omega
     have j4:wr.cell? ⟨w.heap.size,v,none⟩=some (.bool ((l.take k).contains (v:Int))):=by
      rw [HO.out.cellAt v (by omega),List.getElem?_map,HGT.out v hv];rfl
     have j6:=HO.out.frozenAt v
     cases hq:(l.take k).contains (v:Int) with
     |true=>
      have HR:=Lib.hid (HYES2.out v rfl hq)
      rw [hq] at j4
      clear hq
      go_wp2
      go_ret
      exact ⟨by rw [HR.out];rfl,by have:=HB.out;repeat (first|exact Below.refl _ _|refine Below.al ?_ _|refine Below.dr ?_ _|refine Below.drew ?_|assumption|(refine Below.st ?_ (by assumption)))⟩
     |false=>
      have HPS2:=Lib.hid (HPS.out hv0 hv3 (HNO.out v rfl hq))
      have HO2:=Lib.hid (show (wr.setCell ⟨w.heap.size,v,none⟩ (encB true)).ownsRow w.heap.size 4 1 (.slice (some ⟨w.heap.size,0,none⟩) l.length l.length) l.length ((metL l (k+1)).map encB) by
       have:=(HO.out.stored v (encB true)).1
       rw [←List.map_set,HST.out v rfl hv] at this
       exact this)
      rw [hq] at j4
      clear hq hx
      go_wp2
      go_roundg (l.length-(k+1))
      case measure=>omega
      case rel=>exact ⟨k+1,by omega,by omega,by go_num,HPS2.out,(show w.heap.size<(wr.setCell ⟨w.heap.size,v,none⟩ (encB true)).heap.size by have:=HZ.out;simpa [World.setCell] using this),HO2.out,HB.out.setCell (Nat.le_refl _) _⟩
  ·obtain rfl:k=l.length:=by omega
   have HR:=Lib.hid (HOK.out HP.out)
   go_wp2
   go_ret
   exact ⟨by rw [HR.out];rfl,HB.out⟩
def IntsPost (w:World) (r:List Int) (e:Ending) (w':World):Prop:=
 ∃ao cap,e=.returned (.slice ao r.length cap)∧Cel w' ao (r.map encI)∧Below w.heap.size w w'∧∀k,(Value.slice ao r.length cap).ownBlock=some k→w.heap.size≤k
set_option maxHeartbeats 1000000 in
theorem rkInverse_any (l:List Int) (ao:Option Addr) (cap:Nat) (w:World) (hl:l.length≤1000000) (hc:Cel w ao (l.map encI)):
  Calls Tryz.prog 108 #[.slice ao l.length cap] w (IntsPost w (invL l)):=by
 have HC:=Lib.hid hc
 have HR:=Lib.hid (fun W h=>rkRight_any l ao cap W hl h)
 clear hc
 cases hr:rankB l with
 |false=>
  have HV:=Lib.hid (show invL l=[] by unfold invL;rw [hr];rfl)
  generalize invL l=r at*
  rw [hr] at HR
  clear hr
  go_enter Tryz.func108,Tryz.ntmps108
  go_wp2_with (go_at_call 160;refine (HR.out _ HC.out).mono ?_;rintro e w1 ⟨rfl,hb1⟩)
  go_ret
  exact ⟨none,0,by rw [HV.out];rfl,by rw [HV.out];exact Cel.nil _ _,hb1,fun k hk=>by cases hk⟩
 |true=>
  have HV:=Lib.hid (show invL l=invK l l.length by unfold invL;rw [hr];rfl)
  have HIN:=Lib.hid (fun k (hk:k<l.length)=>rankB_in hr l[k] (List.getElem_mem hk))
  have HS:=Lib.hid (fun k (hk:k<l.length)=>(show invK l (k+1)=(invK l k).set l[k].toNat k by simp [invK,List.getD,hk]))
  have HLN:=Lib.hid (invK_length l)
  have HZ:=Lib.hid (show invK l 0=List.replicate l.length 0 from rfl)
  generalize invL l=r at*
  generalize invK l=I at*
  rw [hr] at HR
  clear hr
  go_enter Tryz.func108,Tryz.ntmps108
  go_wp2_with fail
  refine (HR.out _ HC.out).mono ?_
  rintro e w1 ⟨rfl,hb1⟩
  have HB1:=Lib.hid hb1
  have HC1:=Lib.hid (HC.out.go hb1)
  clear hb1
  go_wp2_with (at_make;go_must ((with_reducible refine wpList_mk w1.heap.size 3 _ 1 8 elem_int Tryz.underlying25 l.length ?_ ?_ ?_ ?_ ?_ ?_ ?_ ?_);rotate_left 4;(· rfl);(· rfl);(· exact ⟨by simp,by simp,by omega,by omega,by simp⟩);intro wm hown hbl hszm;(have Hmo:=Lib.hid hown;have Hmb:=Lib.hid hbl;clear hown hbl)))
  have HZ0:=Lib.hid (show (madeCells (Value.int .i64 0).cells (l.length*1)).toList=(I 0).map encI by
   show (madeCells #[Value.int .i64 0] (l.length*1)).toList=_
   rw [Nat.mul_one,toList_madeCells_one,HZ.out,List.map_replicate])
  go_loopg [14] l.length (fun gg i wr=>∃k:Nat,k≤l.length∧l.length-k≤gg∧i=.int .i64 k∧Aside (w1.heap.size<wr.heap.size)∧
   Aside (wr.ownsRow w1.heap.size 3 1 (.slice (some ⟨w1.heap.size,0,none⟩) l.length l.length) l.length ((I k).map encI))∧Aside (Below w1.heap.size w1 wr))
  case atStart=>exact ⟨0,Nat.zero_le _,by omega,rfl,hszm,by have:=Hmo.out;rw [HZ0.out] at this;exact this,Hmb.out⟩
  case round=>
   obtain ⟨k,hk,hg,rfl,HZ2,HO,HB⟩:=hrel
   clear HZ0
   by_cases hlt:k<l.length
   ·obtain ⟨b,o,hao,hcell⟩:=(HC1.out.go HB.out).at hlt
    subst hao
    have hlt3:(k:Int)<(l.length:Int):=by omega
    have hk0:(0:Int)≤(k:Int):=by omega
    have hin:=HIN.out k hlt
    have HS2:=Lib.hid (HS.out k hlt)
    generalize l[k]=x at*
    obtain ⟨v,rfl⟩:∃v:Nat,x=(v:Int):=⟨x.toNat,by omega⟩
    have hv:v<l.length:=by omega
    obtain ⟨u,j4⟩:∃u,wr.cell? ⟨w1.heap.size,v,none⟩=some u:=by
     rw [HO.out.cellAt v (by omega),List.getElem?_map,List.getElem?_eq_getElem (by rw [HLN.out];omega)]
     exact ⟨_,rfl⟩
    have j6:=HO.out.frozenAt v
    have HO2:=Lib.hid (show (wr.setCell ⟨w1.heap.size,v,none⟩ (encI k)).ownsRow w1.heap.size 3 1 (.slice (some ⟨w1.heap.size,0,none⟩) l.length l.length) l.length ((I (k+1)).map encI) by
     have:=(HO.out.stored v (encI k)).1
     rw [←List.map_set] at this
     rw [HS2.out]
     exact this)
    go_wp2
    go_roundg (l.length-(k+1))
    case measure=>omega
    case rel=>exact ⟨k+1,by omega,by omega,by go_num,(show w1.heap.size<(wr.setCell ⟨w1.heap.size,v,none⟩ (encI k)).heap.size by have:=HZ2.out;simpa [World.setCell] using this),HO2.out,HB.out.setCell (Nat.le_refl _) _⟩
   ·obtain rfl:k=l.length:=by omega
    obtain ⟨ao8,cap8,e8,hc8⟩:=Cel.of_owns HO.out
    cases e8
    have HC8:=Lib.hid hc8
    have HRL:=Lib.hid (show r.length=l.length by rw [HV.out];exact HLN.out _)
    clear hc8
    go_wp2
    go_ret
    exact ⟨_,l.length,by rw [HRL.out];rfl,by rw [HV.out];exact HC8.out,HB1.out.st HB.out,fun k hk=>by cases hk;exact HB1.out.size⟩
end Go.Proofs.YteaaapdjplbljaaGreat
end
section
namespace Go.Proofs.YteaaapdjplbljaaGreat
open Go.Proofs.YteaaapdjplbljaaGreat.Ch
theorem invK_get {l:List Int} (hn:okPre l l.length):∀(k p:Nat) (_hk:k≤l.length) (hp:p<k),(invK l k)[(l.getD p 0).toNat]? =some (p:Int)
 |k+1,p,hk,hp=>by
  have hlt:∀i,i<l.length→l.getD i 0=l[i]!:=fun i hi=>by simp [List.getD,hi]
  have hin:=fun i (hi:i<l.length)=>hn i hi hi
  have hkl:k<l.length:=by omega
  have hpl:p<l.length:=by omega
  have ek:l.getD k 0=l[k]:=by simp [List.getD,hkl]
  have ep:l.getD p 0=l[p]:=by simp [List.getD,hpl]
  show ((invK l k).set (l.getD k 0).toNat k)[(l.getD p 0).toNat]? =_
  rw [List.getElem?_set]
  by_cases e:p=k
  ·subst e
   rw [if_pos rfl,invK_length,if_pos (by rw [ep];have:=hin p hpl;omega)]
  ·rw [if_neg (by
    rw [ek,ep]
    intro h
    have h1:=hin k hkl
    have h2:=hin p hpl
    exact h1.2.2 p (by omega) (by omega))]
   exact invK_get hn k p (by omega) (by omega)
theorem invL_length {l:List Int} (h:rankB l=true):(invL l).length=l.length:=by unfold invL;rw [if_pos h,invK_length]
theorem getD_in {l:List Int} {p:Nat} (hp:p<l.length):l.getD p 0=l[p]:=by simp [List.getD,hp]
theorem invL_at {l:List Int} (h:rankB l=true) {p:Nat} (hp:p<l.length):(invL l)[(l[p]).toNat]? =some (p:Int):=by
 have:=invK_get (rankB_nodup h) l.length p (Nat.le_refl _) hp
 rw [getD_in hp] at this
 unfold invL
 rw [if_pos h]
 exact this
theorem rank_place {l:List Int} (h:rankB l=true) {i:Nat} (hi:i<l.length):∃p,∃hp:p<l.length,l[p]=(i:Int):=by
 have:=rankB_sub h (i:Int) (mem_rngI.2 ⟨by omega,by omega⟩)
 obtain ⟨p,hp,e⟩:=List.mem_iff_getElem.1 this
 exact ⟨p,hp,e⟩
theorem invL_rank {l:List Int} (h:rankB l=true):rankB (invL l)=true:=by
 refine rankB_true fun x hx=>?_
 rw [invL_length h] at hx
 obtain ⟨h0,h1⟩:=mem_rngI.1 hx
 have hp:x.toNat<l.length:=by omega
 have:=List.mem_of_getElem? (invL_at h hp)
 rwa [Int.toNat_of_nonneg h0] at this
theorem invL_invL {l:List Int} (h:rankB l=true):invL (invL l)=l:=by
 have h2:=invL_rank h
 have hl:=invL_length h
 apply List.ext_getElem?
 intro p
 by_cases hp:p<l.length
 ·have hin:=rankB_in h l[p] (List.getElem_mem hp)
  have h3:=invL_at h hp
  have hv:(l[p]).toNat<(invL l).length:=by omega
  have h4:=invL_at h2 hv
  have e:(invL l)[(l[p]).toNat]=(p:Int):=Option.some.inj ((List.getElem?_eq_getElem hv).symm.trans h3)
  rw [e,Int.toNat_natCast] at h4
  rw [h4,List.getElem?_eq_getElem hp,Int.toNat_of_nonneg hin.1]
 ·rw [List.getElem?_eq_none (by rw [invL_length h2];omega),List.getElem?_eq_none (by omega)]
def BuiltOK (es:List EdgeD) (n:Nat) (R:List Int) (S:List SC):Prop:=
 ∃out c,Core (arcG es) (edgG es) n out c∧c.S=S∧rankB out=true∧out.length=n∧R=invL out
theorem rank_of {n:Nat} {out:List Int} (h1:∀u∈out,nodeN n u) (h2:out.Nodup) (h3:∀u,nodeN n u→u∈out):rankB out=true∧out.length=n:=by
 have hl:out.length=n:=by
  have a1:=sub_length out (rngI n) h2 (fun x hx=>mem_rngI.2 (h1 x hx))
  have a2:=sub_length (rngI n) out (nodup_rngI n) (fun x hx=>h3 x (mem_rngI.1 hx))
  rw [rngI_length] at a1 a2
  omega
 exact ⟨rankB_true (fun x hx=>h3 x (by rw [hl] at hx;exact mem_rngI.1 hx)),hl⟩
theorem rank_at {out:List Int} (h:rankB out=true) {v:Int} (hv:nodeN out.length v):(invL out)[v.toNat]? =some (rk out v):=by
 obtain ⟨p,hp,e⟩:=rank_place h (i:=v.toNat) (by have:=hv.1;have:=hv.2;omega)
 have e2:out[p]=v:=by rw [e];have:=hv.1;omega
 have h1:=invL_at h hp
 rw [e2] at h1
 rw [h1]
 have hn:=okPre_nodup (rankB_nodup h)
 have:out.idxOf v=p:=by
  rw [←e2]
  exact hn.idxOf_getElem p hp
 unfold rk
 rw [this]
structure HierOK (es:List EdgeD) (n:Nat) (R:List Int) (S:List SC) (out:List Int):Prop where
 h:Hier (arcG es) (srel S) (rk out) (nodeN n)
 len:R.length=n
 rank:rankB R=true
 at1:∀v,nodeN n v→R[v.toNat]? =some (rk out v)
 made:Made (edgG es) (rk out) S
 ends:∀x∈S,nodeN n x.f∧nodeN n x.t∧x.f≠x.t∧1≤x.w
 big:∀x∈S,x.w≤4294967296*2 ^ n
 ltr:∀(i j:Nat) (x y:SC),i<j→S[i]? =some x→S[j]? =some y→x.f=y.f→x.t=y.t→y.w<x.w
theorem BuiltOK.hier {es:List EdgeD} {n:Nat} {R:List Int} {S:List SC} (hE:EdgesOK n es) (h:BuiltOK es n R S):∃out,HierOK es n R S out:=by
 obtain ⟨out,c,hc,rfl,hr,hl,rfl⟩:=h
 have hall:∀v,nodeN n v→v∈out:=fun v hv=>rankB_sub hr v (by rw [hl];exact mem_rngI.2 hv)
 refine ⟨out,hc.part.hier ?_ ?_ hall,by rw [invL_length hr,hl],invL_rank hr,?_,hc.made,hc.inv.ends,?_,hc.inv.ltr⟩
 ·rintro u v w ⟨x,hx,_,_,rfl⟩
  exact (hE.ok x hx).2.2.2.1
 ·rintro u v w ⟨x,hx,rfl,rfl,rfl⟩
  exact ⟨(hE.ok x hx).1,(hE.ok x hx).2.1⟩
 ·intro v hv
  exact rank_at hr (by rw [hl];exact hv)
 ·intro x hx
  have:=hc.big x hx
  rwa [hl] at this
end Go.Proofs.YteaaapdjplbljaaGreat
end
section
namespace Go.Proofs.YteaaapdjplbljaaGreat
open Go Go.Proofs Go.RowKit Go.Shelf Go.Proofs.YteaaapdjplbljaaGreat.Hp Go.Proofs.YteaaapdjplbljaaGreat.Ch
def inB (x:Int):Bool:=decide (1≤x)&&decide (x≤1000)
def optB (hops settles:Int) (r:List Int):Bool:=inB hops&&inB settles&&rankB r
theorem right1_any (x:Int) (w:World):Calls Tryz.prog 159 (#[.int .i64 x]++#[]) w fun e w'=>e=.returned (.bool (inB x))∧w=w':=by
 unfold inB
 go_enter Tryz.func159,Tryz.ntmps159
 go_wp2
 all_goals
  go_ret
  exact ⟨by simp [*]<;>omega,rfl⟩
set_option maxHeartbeats 1000000 in
theorem coRight_any (hops settles:Int) (r:List Int) (ao:Option Addr) (cap:Nat) (w:World) (hl:r.length≤1000000) (hc:Cel w ao (r.map encI)):
  Calls Tryz.prog 106 #[.agg #[.int .i64 hops,.int .i64 settles,.slice ao r.length cap]] w fun e w'=>e=.returned (.bool (optB hops settles r))∧Below w.heap.size w w':=by
 have HR:=Lib.hid (fun W h=>rkRight_any r ao cap W hl h)
 have HC:=Lib.hid hc
 have H1:=Lib.hid (fun W=>right1_any hops W)
 have H2:=Lib.hid (fun W=>right1_any settles W)
 have HO:=Lib.hid (show optB hops settles r=(inB hops&&inB settles&&rankB r) from rfl)
 generalize optB hops settles r=ob at*
 generalize inB hops=b1 at*
 generalize inB settles=b2 at*
 generalize rankB r=b3 at*
 clear hc
 cases b1<;>cases b2
 all_goals
  go_enter Tryz.func106,Tryz.ntmps106
  go_wp2_with (first
   |(go_at_call 160;refine (HR.out _ (HC.out.go (Below.of_al _ _))).mono ?_;rintro e w1 ⟨rfl,hb1⟩)
   |(go_at_call_of 159 (Value.int .i64 hops);refine (H1.out _).mono ?_;rintro e w1 ⟨rfl,rfl⟩)
   |(go_at_call_of 159 (Value.int .i64 settles);refine (H2.out _).mono ?_;rintro e w1 ⟨rfl,rfl⟩))
  go_ret
  first
   |exact ⟨by rw [HO.out];rfl,(Below.of_al _ _).st hb1⟩
   |exact ⟨by rw [HO.out];rfl,Below.of_al _ _⟩
end Go.Proofs.YteaaapdjplbljaaGreat
end
section
namespace Go.Proofs.YteaaapdjplbljaaGreat
open Go Go.Proofs Go.RowKit Go.Shelf Go.Proofs.YteaaapdjplbljaaGreat.Hp Go.Proofs.YteaaapdjplbljaaGreat.Ch
def CloPost (n:Nat) (xs:List Value) (w:World) (e:Ending) (w':World):Prop:=
 ∃ao cap,e=.returned (.slice ao n cap)∧Cel w' ao xs∧Below w.heap.size w w'∧∀k,(Value.slice ao n cap).ownBlock=some k→w.heap.size≤k
set_option maxRecDepth 100000 in
set_option maxHeartbeats 1000000 in
theorem cloneI_any (n:Nat) (xs:List Value) (ao:Option Addr) (cap:Nat) (w:World) (hx:xs.length=n*1) (h:Cel w ao xs) (h1:∀u∈xs,u.oneCell'=true) (hl:n≤1000000):
  Calls Tryz.prog 67 #[.slice ao n cap] w (CloPost n xs w):=by
 have heq:=Lib.run_eql_slice_nil (P:=Tryz.prog) w 25 3 ao n cap 0 0 Tryz.underlying25
 unfold CloPost
 cases ao with
 |none=>
  have hn:n=0:=by
   rcases xs with _|⟨x,r⟩
   ·have:n*1=0:=hx.symm
    omega
   ·obtain ⟨b,o,e,_⟩:=h 0 x rfl
    cases e
  subst hn
  have hn2:xs=[]:=List.length_eq_zero_iff.1 (by simpa using hx)
  subst hn2
  simp only [Option.isNone] at heq
  clear h h1 hx
  go_enter Tryz.func67,Tryz.ntmps67
  go_wp2
  go_ret
  exact ⟨none,_,rfl,Cel.nil _ _,Below.refl _ _,fun k hk=>by cases hk⟩
 |some a=>
  simp only [Option.isNone] at heq
  by_cases hn:n=0
  ·subst hn
   have hn2:xs=[]:=List.length_eq_zero_iff.1 (by simpa using hx)
   subst hn2
   clear h h1 hx
   go_enter Tryz.func67,Tryz.ntmps67
   go_wp2
   go_ret
   exact ⟨_,_,rfl,Cel.nil _ _,Below.of_al _ _,fun k hk=>by cases hk;exact Nat.le_refl _⟩
  ·have hpos:0<n:=Nat.pos_of_ne_zero hn
   obtain ⟨gb,gof,e,-⟩:=h 0 _ (List.getElem?_eq_getElem (by omega))
   cases e
   have hlit:(w.alloc (.cells #[] 3)).ownsRow w.heap.size 3 1 (.slice (some ⟨w.heap.size,0,none⟩) 0 0) 0 []:=World.ownsRow_lit (base:=w.heap.size) (e:=3) (size:=1) w #[] 0 (Nat.le_refl _) (by unfold maxLen;omega) rfl
   obtain ⟨i0,hi,hz0,hsz,hby⟩:=info_parts hp_elemi.1
   have HL:=Lib.hid hlit
   have HC:=Lib.hid (h.go (Below.of_al w (.cells #[] 3)))
   have HX:=Lib.hid hx
   have H1:=Lib.hid h1
   clear hlit h hx h1
   go_enter Tryz.func67,Tryz.ntmps67
   go_wp2_with (at_builtin;refine wpList_append_own _ rfl _ _ _ rfl w.heap.size 3 i0 (.int .i64 0) 1 8 Tryz.underlying25 hi hz0 hsz hby rfl (by decide) (.slice (some ⟨w.heap.size,0,none⟩) 0 0) 0 [] rfl HL.out ⟨gb,gof,none⟩ n cap xs rfl HX.out (fun j u hj=>by rw [Addr.add_lit];obtain ⟨b',o',e,h⟩:=HC.out j u hj;cases e;exact h) H1.out (by unfold maxLen;omega) (by omega) (by simp) ?_;intro v1 w1 ho1 hg1 hn1)
   have hbl:=(Below.of_al w (.cells #[] 3)).grown hg1 (by simp) (fun k hk=>(HL.out.lt k hk).1)
   rw [Nat.zero_add,List.nil_append] at ho1
   obtain ⟨g,cap,rfl⟩:=own_form ho1 hpos
   go_ret
   obtain ⟨a2,c2,e,hc⟩:=Cel.of_owns ho1
   cases e
   exact ⟨_,_,rfl,hc,hbl,fun k hk=>(ho1.lt k hk).1⟩
theorem elem_edge:Elem Tryz.prog 109 (.agg #[.int .i64 0,.int .i64 0,.int .u64 0]) 3 24:=⟨by kernel_rfl,rfl,by decide⟩
set_option maxRecDepth 100000 in
set_option maxHeartbeats 1000000 in
theorem cloneE_any (n:Nat) (xs:List Value) (ao:Option Addr) (cap:Nat) (w:World) (hx:xs.length=n*3) (h:Cel w ao xs) (h1:∀u∈xs,u.oneCell'=true) (hl:n≤1000000):
  Calls Tryz.prog 171 #[.slice ao n cap] w (CloPost n xs w):=by
 have heq:=Lib.run_eql_slice_nil (P:=Tryz.prog) w 22 109 ao n cap 0 0 Tryz.underlying22
 unfold CloPost
 cases ao with
 |none=>
  have hn:n=0:=by
   rcases xs with _|⟨x,r⟩
   ·have:n*3=0:=hx.symm
    omega
   ·obtain ⟨b,o,e,_⟩:=h 0 x rfl
    cases e
  subst hn
  have hn2:xs=[]:=List.length_eq_zero_iff.1 (by simpa using hx)
  subst hn2
  simp only [Option.isNone] at heq
  clear h h1 hx
  go_enter Tryz.func171,Tryz.ntmps171
  go_wp2
  go_ret
  exact ⟨none,_,rfl,Cel.nil _ _,Below.refl _ _,fun k hk=>by cases hk⟩
 |some a=>
  simp only [Option.isNone] at heq
  by_cases hn:n=0
  ·subst hn
   have hn2:xs=[]:=List.length_eq_zero_iff.1 (by simpa using hx)
   subst hn2
   clear h h1 hx
   go_enter Tryz.func171,Tryz.ntmps171
   go_wp2
   go_ret
   exact ⟨_,_,rfl,Cel.nil _ _,Below.of_al _ _,fun k hk=>by cases hk;exact Nat.le_refl _⟩
  ·have hpos:0<n:=Nat.pos_of_ne_zero hn
   obtain ⟨gb,gof,e,-⟩:=h 0 _ (List.getElem?_eq_getElem (by omega))
   cases e
   have hlit:(w.alloc (.cells #[] 109)).ownsRow w.heap.size 109 3 (.slice (some ⟨w.heap.size,0,none⟩) 0 0) 0 []:=World.ownsRow_lit (base:=w.heap.size) (e:=109) (size:=3) w #[] 0 (Nat.le_refl _) (by unfold maxLen;omega) rfl
   obtain ⟨i0,hi,hz0,hsz,hby⟩:=info_parts elem_edge.1
   have HL:=Lib.hid hlit
   have HC:=Lib.hid (h.go (Below.of_al w (.cells #[] 109)))
   have HX:=Lib.hid hx
   have H1:=Lib.hid h1
   clear hlit h hx h1
   go_enter Tryz.func171,Tryz.ntmps171
   go_wp2_with (at_builtin;refine wpList_append_own _ rfl _ _ _ rfl w.heap.size 109 i0 (.agg #[.int .i64 0,.int .i64 0,.int .u64 0]) 3 24 Tryz.underlying22 hi hz0 hsz hby rfl (by decide) (.slice (some ⟨w.heap.size,0,none⟩) 0 0) 0 [] rfl HL.out ⟨gb,gof,none⟩ n cap xs rfl HX.out (fun j u hj=>by rw [Addr.add_lit];obtain ⟨b',o',e,h⟩:=HC.out j u hj;cases e;exact h) H1.out (by unfold maxLen;omega) (by omega) (by simp) ?_;intro v1 w1 ho1 hg1 hn1)
   have hbl:=(Below.of_al w (.cells #[] 109)).grown hg1 (by simp) (fun k hk=>(HL.out.lt k hk).1)
   rw [Nat.zero_add,List.nil_append] at ho1
   obtain ⟨g,cap,rfl⟩:=own_form ho1 hpos
   go_ret
   obtain ⟨a2,c2,e,hc⟩:=Cel.of_owns ho1
   cases e
   exact ⟨_,_,rfl,hc,hbl,fun k hk=>(ho1.lt k hk).1⟩
set_option maxRecDepth 100000 in
set_option maxHeartbeats 1000000 in
theorem cloneS_any (n:Nat) (xs:List Value) (ao:Option Addr) (cap:Nat) (w:World) (hx:xs.length=n*6) (h:Cel w ao xs) (h1:∀u∈xs,u.oneCell'=true) (hl:n≤1000000):
  Calls Tryz.prog 150 #[.slice ao n cap] w (CloPost n xs w):=by
 have heq:=Lib.run_eql_slice_nil (P:=Tryz.prog) w 79 187 ao n cap 0 0 Tryz.underlying79
 unfold CloPost
 cases ao with
 |none=>
  have hn:n=0:=by
   rcases xs with _|⟨x,r⟩
   ·have:n*6=0:=hx.symm
    omega
   ·obtain ⟨b,o,e,_⟩:=h 0 x rfl
    cases e
  subst hn
  have hn2:xs=[]:=List.length_eq_zero_iff.1 (by simpa using hx)
  subst hn2
  simp only [Option.isNone] at heq
  clear h h1 hx
  go_enter Tryz.func150,Tryz.ntmps150
  go_wp2
  go_ret
  exact ⟨none,_,rfl,Cel.nil _ _,Below.refl _ _,fun k hk=>by cases hk⟩
 |some a=>
  simp only [Option.isNone] at heq
  by_cases hn:n=0
  ·subst hn
   have hn2:xs=[]:=List.length_eq_zero_iff.1 (by simpa using hx)
   subst hn2
   clear h h1 hx
   go_enter Tryz.func150,Tryz.ntmps150
   go_wp2
   go_ret
   exact ⟨_,_,rfl,Cel.nil _ _,Below.of_al _ _,fun k hk=>by cases hk;exact Nat.le_refl _⟩
  ·have hpos:0<n:=Nat.pos_of_ne_zero hn
   obtain ⟨gb,gof,e,-⟩:=h 0 _ (List.getElem?_eq_getElem (by omega))
   cases e
   have hlit:(w.alloc (.cells #[] 187)).ownsRow w.heap.size 187 6 (.slice (some ⟨w.heap.size,0,none⟩) 0 0) 0 []:=World.ownsRow_lit (base:=w.heap.size) (e:=187) (size:=6) w #[] 0 (Nat.le_refl _) (by unfold maxLen;omega) rfl
   obtain ⟨i0,hi,hz0,hsz,hby⟩:=info_parts elem_sc.1
   have HL:=Lib.hid hlit
   have HC:=Lib.hid (h.go (Below.of_al w (.cells #[] 187)))
   have HX:=Lib.hid hx
   have H1:=Lib.hid h1
   clear hlit h hx h1
   go_enter Tryz.func150,Tryz.ntmps150
   go_wp2_with (at_builtin;refine wpList_append_own _ rfl _ _ _ rfl w.heap.size 187 i0 (.agg #[.int .i64 0,.int .i64 0,.int .u64 0,.int .i64 0,.int .i64 0,.int .i64 0]) 6 48 Tryz.underlying79 hi hz0 hsz hby rfl (by decide) (.slice (some ⟨w.heap.size,0,none⟩) 0 0) 0 [] rfl HL.out ⟨gb,gof,none⟩ n cap xs rfl HX.out (fun j u hj=>by rw [Addr.add_lit];obtain ⟨b',o',e,h⟩:=HC.out j u hj;cases e;exact h) H1.out (by unfold maxLen;omega) (by omega) (by simp) ?_;intro v1 w1 ho1 hg1 hn1)
   have hbl:=(Below.of_al w (.cells #[] 187)).grown hg1 (by simp) (fun k hk=>(HL.out.lt k hk).1)
   rw [Nat.zero_add,List.nil_append] at ho1
   obtain ⟨g,cap,rfl⟩:=own_form ho1 hpos
   go_ret
   obtain ⟨a2,c2,e,hc⟩:=Cel.of_owns ho1
   cases e
   exact ⟨_,_,rfl,hc,hbl,fun k hk=>(ho1.lt k hk).1⟩
end Go.Proofs.YteaaapdjplbljaaGreat
end
