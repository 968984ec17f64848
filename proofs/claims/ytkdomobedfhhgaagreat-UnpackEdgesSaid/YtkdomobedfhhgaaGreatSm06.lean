/- Walk of package unpack: Depth. The library's contracts that the proof uses, laid at this program by the kit's own command; no condition. The search's reference in plain Lean: round by round over all edges; what it is, and what it says of peaks. The sweep down a hierarchy, and which labels are exact, in plain Lean. Walks at labels: slices.IndexFunc, slices.DeleteFunc, upward.Find. What the laws of upward ask of labels, in plain Lean. Walk of package upward: Way. -/
import Derived.Test.YtkdomobedfhhgaaGreatProg
import Derived.Test.YtkdomobedfhhgaaGreatSm01
import Derived.Test.YtkdomobedfhhgaaGreatQm26
import Derived.Deep.CutRange
import Derived.Shelf.Small.Bits
import Derived.Shelf.Small.Wraps
import Derived.Shelf.Strconv.Itoa0
import Derived.Shelf.Bits.Mul64
import Derived.Shelf.Slices.Reverse
import Derived.Ground.Names2Prog
import Derived.Shelf.Slices.Clone
import Derived.Shelf.Slices.SearchI
import Derived.Shelf.Slices.Cells
import Derived.Ground.SlgnProg
import Derived.Shelf.SlicesE.Clone
import Derived.Ground.SlsfProg
import Derived.Shelf.SlSortCmp.Insertion
import Derived.Test.YtkdomobedfhhgaaGreatSm04
import Derived.Test.YtkdomobedfhhgaaGreatQm30
import Derived.Test.YtkdomobedfhhgaaGreatQm35
import Derived.Test.YtkdomobedfhhgaaGreatQm13
import Derived.Sort.Row
set_option linter.unusedVariables false
set_option linter.unusedSimpArgs false
set_option linter.unnecessarySimpa false
section
namespace Go.Proofs.YtkdomobedfhhgaaGreat
open Go Go.Proofs Go.RowKit Go.Shelf Go.Proofs.YtkdomobedfhhgaaGreat.Hp Go.Proofs.YtkdomobedfhhgaaGreat.Ch
def dpL (S:List SC) (m k:Nat):List Int:=(List.range m).map fun j=>if j<k then ((deL S j:Nat):Int) else 0
theorem dpL_len (S:List SC) (m k:Nat):(dpL S m k).length=m:=by simp [dpL]
theorem dpL_get {S:List SC} {m k j:Nat} (h:j<m):(dpL S m k)[j]? =some (if j<k then ((deL S j:Nat):Int) else 0):=by
 unfold dpL
 rw [List.getElem?_map,List.getElem?_range h]
 rfl
theorem dpL_zero (S:List SC) (m:Nat):dpL S m 0=List.replicate m 0:=by
 apply List.ext_getElem?
 intro j
 by_cases h:j<m
 ·rw [dpL_get h,List.getElem?_replicate,if_pos h,if_neg (by omega)]
 ·rw [List.getElem?_eq_none (by rw [dpL_len];omega),List.getElem?_eq_none (by simp;omega)]
theorem dpL_set {S:List SC} {m k:Nat} (h:k<m):(dpL S m k).set k ((deL S k:Nat):Int)=dpL S m (k+1):=by
 apply List.ext_getElem?
 intro j
 rw [List.getElem?_set]
 by_cases hj:j<m
 ·rw [dpL_get hj]
  split
  ·rename_i e
   subst e
   rw [if_pos (by rw [dpL_len];exact h),dpL_get hj,if_pos (by omega)]
  ·rename_i e
   rw [dpL_get hj]
   congr 1
   by_cases hk:j<k
   ·rw [if_pos hk,if_pos (by omega)]
   ·rw [if_neg hk,if_neg (by omega)]
 ·rw [if_neg (by omega),List.getElem?_eq_none (by rw [dpL_len];omega),List.getElem?_eq_none (by rw [dpL_len];omega)]
theorem dpL_same {S:List SC} {m k:Nat} (h:deL S k=0):dpL S m k=dpL S m (k+1):=by
 apply List.ext_getElem?
 intro j
 by_cases hj:j<m
 ·rw [dpL_get hj,dpL_get hj]
  congr 1
  by_cases hk:j<k
  ·rw [if_pos hk,if_pos (by omega)]
  ·rw [if_neg hk]
   split
   ·obtain rfl:j=k:=by omega
    rw [h]
    rfl
   ·rfl
 ·rw [List.getElem?_eq_none (by rw [dpL_len];omega),List.getElem?_eq_none (by rw [dpL_len];omega)]
set_option maxRecDepth 100000 in
set_option maxHeartbeats 4000000 in
theorem unDepth_any (hb n:Nat) (es:List EdgeD) (R:List Int) (S:List SC) (O I:List (List Int)) (hF:FedS S) (i:Nat) (hi:i<S.length) (w:World) (hH:HierM w hb n es R S O I) (hsl:S.length≤50000):
  Calls Tryz.prog 56 #[.pointer (some ⟨hb,0,none⟩),.int .i64 (i:Int)] w fun e w'=>e=.returned (.tuple #[.int .i64 ((deL S i:Nat):Int),.bool true])∧Below w.heap.size w w':=by
 have HSC0:=Lib.hid (shortcut_any hb n es R S O I w hH i hi)
 have HH:=Lib.hid hH
 have HF:=Lib.hid hF
 have hdl:=deL_le hF
 have HDL:=Lib.hid hdl
 obtain ⟨m,hm⟩:∃m:Nat,m=i+1:=⟨_,rfl⟩
 have hm1:(i:Int)+1=(m:Int):=by omega
 have HM:=Lib.hid hm
 have hmS:m≤50000:=by omega
 have HMS:=Lib.hid (show m≤S.length by omega)
 clear hH hdl
 generalize S[i]=x at*
 obtain ⟨xf,xt,xw,xe,xa,xb⟩:=x
 simp only [scV] at HSC0
 clear hF
 go_enter Tryz.func56,Tryz.ntmps56
 go_upto_region 4 with (go_at_call 40;refine HSC0.out.mono ?_;rintro e w1 ⟨rfl,hb1⟩;(have HB1:=Lib.hid hb1);clear hb1)
 obtain ⟨W1,hW1⟩:∃W1,W1=w1.alloc (Obj.cells #[.int .i64 xf,.int .i64 xt,.int .u64 xw,.int .i64 xe,.int .i64 xa,.int .i64 xb] 79):=⟨_,rfl⟩
 rw [←hW1]
 have HB1:=Lib.hid (show Below w.heap.size w W1 by rw [hW1];exact HB1.out.st (Below.of_al _ _))
 clear hW1 hm hi
 go_wp2_with (at_make;go_must ((with_reducible refine wpList_mk W1.heap.size 3 _ 1 8 elem_int Tryz.underlying25 m ?_ ?_ ?_ ?_ ?_ ?_ ?_ ?_);rotate_left 4;(· rfl);(· rfl);(· exact ⟨by simp,by simp,by omega,by omega,by simp⟩);intro wm hown hbl hszm;(have Hmo:=Lib.hid hown;have Hmb:=Lib.hid hbl;clear hown hbl)))
 have HZ0:=Lib.hid (show (madeCells (Value.int .i64 0).cells (m*1)).toList=(dpL S m 0).map encI by
  show (madeCells #[Value.int .i64 0] (m*1)).toList=_
  rw [Nat.mul_one,toList_madeCells_one,dpL_zero,List.map_replicate])
 go_loopg [25] m (fun gg v25 wr=>∃k:Nat,k≤m∧m-k≤gg∧v25=.int .i64 k∧Aside (W1.heap.size<wr.heap.size)∧
  Aside (wr.ownsRow W1.heap.size 3 1 (.slice (some ⟨W1.heap.size,0,none⟩) m m) m ((dpL S m k).map encI))∧Aside (Below W1.heap.size W1 wr))
 case atStart=>exact ⟨0,Nat.zero_le _,by omega,rfl,hszm,by have:=Hmo.out;rw [HZ0.out] at this;exact this,Hmb.out⟩
 case round=>
  obtain ⟨k,hk,hg,rfl,HZ,HO,HBr⟩:=hrel
  clear HZ0 Hmo Hmb hszm
  by_cases hlt:k<m
  ·have hkS:k<S.length:=by have:=HMS.out;omega
   have hlt2:(k:Int)<(m:Int):=by omega
   have HB2:=Lib.hid (HB1.out.st HBr.out)
   have HSC:=Lib.hid (shortcut_any hb n es R S O I wr (HH.out.go HB2.out) k hkS)
   have hgk:S.getD k scZ=S[k]:=by rw [List.getD_eq_getElem?_getD,List.getElem?_eq_getElem hkS];rfl
   have hfd:=HF.out k hkS
   rw [hgk] at hfd
   have HG:=Lib.hid hgk
   clear hgk
   generalize S[k]=y at*
   obtain ⟨yf,yt,yw,ye,ya,yb⟩:=y
   simp only [scV] at HSC hfd
   rcases hfd with he|⟨he,a,b,rfl,rfl,hab,hbb⟩
   ·have HD:=Lib.hid (dpL_same (m:=m) (deL_edge (S:=S) (i:=k) (by rw [HG.out];exact he)))
    have he1:decide (ye<0)=false:=by rw [decide_eq_false_iff_not];omega
    go_upto_region 9 with (go_at_call 40;refine HSC.out.mono ?_;rintro e w2 ⟨rfl,hb2⟩;(have HB3:=Lib.hid hb2);clear hb2)
    obtain ⟨W2,hW2⟩:∃W2,W2=w2.alloc (Obj.cells #[.int .i64 yf,.int .i64 yt,.int .u64 yw,.int .i64 ye,.int .i64 ya,.int .i64 yb] 79):=⟨_,rfl⟩
    rw [←hW2]
    have hb2:Below wr.heap.size wr W2:=by rw [hW2];exact HB3.out.st (Below.of_al _ _)
    have HO2:=Lib.hid (hp_owns_go HO.out hb2)
    have HB4:=Lib.hid (HBr.out.st hb2)
    have HZ2:=Lib.hid hb2.size
    have y3:W2.cell? ⟨w2.heap.size,3,none⟩=some (.int .i64 ye):=by rw [hW2];go_simp
    clear hW2 hb2 he
    go_wp2
    go_roundg (m-(k+1))
    case measure=>omega
    case rel=>exact ⟨k+1,by omega,by omega,by go_num,Nat.lt_of_lt_of_le HZ.out HZ2.out,by rw [←HD.out];exact HO2.out,HB4.out⟩
   ·have HD:=Lib.hid (deL_two HF.out hkS (by rw [HG.out];exact he) (by rw [HG.out]) (by rw [HG.out]) hab hbb)
    have HDS:=Lib.hid (dpL_set (S:=S) (m:=m) (k:=k) hlt)
    have he1:decide (ye<0)=true:=by simpa using he
    have hla:=HDL.out a (by omega)
    have hlb:=HDL.out b (by omega)
    go_upto_region 9 with (go_at_call 40;refine HSC.out.mono ?_;rintro e w2 ⟨rfl,hb2⟩;(have HB3:=Lib.hid hb2);clear hb2)
    obtain ⟨W2,hW2⟩:∃W2,W2=w2.alloc (Obj.cells #[.int .i64 yf,.int .i64 yt,.int .u64 yw,.int .i64 ye,.int .i64 (a:Int),.int .i64 (b:Int)] 79):=⟨_,rfl⟩
    rw [←hW2]
    have hb2:Below wr.heap.size wr W2:=by rw [hW2];exact HB3.out.st (Below.of_al _ _)
    have HO2:=Lib.hid (hp_owns_go HO.out hb2)
    have HB4:=Lib.hid (HBr.out.st hb2)
    have HZ2:=Lib.hid hb2.size
    have y3:W2.cell? ⟨w2.heap.size,3,none⟩=some (.int .i64 ye):=by rw [hW2];go_simp
    have y4:W2.cell? ⟨w2.heap.size,4,none⟩=some (.int .i64 (a:Int)):=by rw [hW2];go_simp
    have y5:W2.cell? ⟨w2.heap.size,5,none⟩=some (.int .i64 (b:Int)):=by rw [hW2];go_simp
    have ja:W2.cell? ⟨W1.heap.size,a,none⟩=some (.int .i64 ((deL S a:Nat):Int)):=by
     rw [HO2.out.cellAt a (by omega),List.getElem?_map,dpL_get (by omega),if_pos hab]
     rfl
    have jb:W2.cell? ⟨W1.heap.size,b,none⟩=some (.int .i64 ((deL S b:Nat):Int)):=by
     rw [HO2.out.cellAt b (by omega),List.getElem?_map,dpL_get (by omega),if_pos hbb]
     rfl
    obtain ⟨u,jk⟩:∃u,W2.cell? ⟨W1.heap.size,k,none⟩=some u:=by
     rw [HO2.out.cellAt k (by omega),List.getElem?_map,dpL_get (by omega)]
     exact ⟨_,rfl⟩
    have jf:=HO2.out.frozenAt k
    have ha0:(0:Int)≤(a:Int):=by omega
    have hb0:(0:Int)≤(b:Int):=by omega
    have ha1:(a:Int)<(m:Int):=by omega
    have hb1:(b:Int)<(m:Int):=by omega
    have hk0:(0:Int)≤(k:Int):=by omega
    have HX:=Lib.hid (show ((deL S k:Nat):Int)=1+max ((deL S a:Nat):Int) ((deL S b:Nat):Int) by rw [HD.out];omega)
    have hda:((deL S a:Nat):Int)≤1000000:=by omega
    have hdb:((deL S b:Nat):Int)≤1000000:=by omega
    have hda0:0≤((deL S a:Nat):Int):=by omega
    have hdb0:0≤((deL S b:Nat):Int):=by omega
    clear hW2 hb2 he hla hlb HD
    generalize ((deL S k:Nat):Int)=dk at*
    generalize ((deL S a:Nat):Int)=da at*
    generalize ((deL S b:Nat):Int)=db at*
    have HO3:=Lib.hid (show (W2.setCell ⟨W1.heap.size,k,none⟩ (encI (1+max da db))).ownsRow W1.heap.size 3 1 (.slice (some ⟨W1.heap.size,0,none⟩) m m) m ((dpL S m (k+1)).map encI) by
     have:=(HO2.out.stored k (encI dk)).1
     rw [←List.map_set,HDS.out] at this
     rw [←HX.out]
     exact this)
    go_upto_region 10 with (fail)
    by_cases hmx:db≤da
    ·have HO4:=Lib.hid (show (W2.setCell ⟨W1.heap.size,k,none⟩ (.int .i64 (1+da))).ownsRow W1.heap.size 3 1 (.slice (some ⟨W1.heap.size,0,none⟩) m m) m ((dpL S m (k+1)).map encI) by
      have:=HO3.out
      rw [show max da db=da by omega] at this
      exact this)
     go_region
     go_wp2
     go_roundg (m-(k+1))
     case measure=>omega
     case rel=>exact ⟨k+1,by omega,by omega,by go_num,(show W1.heap.size<_ from by have:=Nat.lt_of_lt_of_le HZ.out HZ2.out;simpa [World.setCell] using this),(by first|exact hp_owns_go HO4.out (Below.refl _ _).drew|exact hp_owns_go HO3.out (Below.refl _ _).drew),(HB4.out.setCell (Nat.le_refl _) _).drew⟩
    ·have HO4:=Lib.hid (show (W2.setCell ⟨W1.heap.size,k,none⟩ (.int .i64 (1+db))).ownsRow W1.heap.size 3 1 (.slice (some ⟨W1.heap.size,0,none⟩) m m) m ((dpL S m (k+1)).map encI) by
      have:=HO3.out
      rw [show max da db=db by omega] at this
      exact this)
     go_region
     go_wp2
     go_roundg (m-(k+1))
     case measure=>omega
     case rel=>exact ⟨k+1,by omega,by omega,by go_num,(show W1.heap.size<_ from by have:=Nat.lt_of_lt_of_le HZ.out HZ2.out;simpa [World.setCell] using this),(by first|exact hp_owns_go HO4.out (Below.refl _ _).drew|exact hp_owns_go HO3.out (Below.refl _ _).drew),(HB4.out.setCell (Nat.le_refl _) _).drew⟩
  ·obtain rfl:k=m:=by omega
   have jx:wr.cell? ⟨W1.heap.size,i,none⟩=some (.int .i64 ((deL S i:Nat):Int)):=by
    have:=HM.out
    rw [HO.out.cellAt i (by omega),List.getElem?_map,dpL_get (by omega),if_pos (by omega)]
    rfl
   have hi0:(0:Int)≤(i:Int):=by omega
   have hi1:(i:Int)<(k:Int):=by have:=HM.out;omega
   obtain ⟨di,hdi⟩:∃di,di=((deL S i:Nat):Int):=⟨_,rfl⟩
   rw [←hdi] at jx
   have HDI:=Lib.hid hdi
   clear hdi
   go_wp2
   refine bodyPost_ret (v:=.tuple #[.int .i64 di,.bool true]) (by simp [results,Tryz.results56,go_sem];try rfl) rfl ?_
   exact ⟨by rw [HDI.out],HB1.out.st HBr.out⟩
end Go.Proofs.YtkdomobedfhhgaaGreat
end
section
namespace Go.Proofs
open Go.Shelf
def Tryz.lays112_ren:Go.Shelf.Ren:=⟨fun|112=>91|n=>n,fun|28=>25|3=>3|4=>4|0=>0|n=>n,fun|n=>n⟩
theorem Tryz.lays112:Go.Proofs.Lays.n112 Tryz.prog Tryz.lays112_ren:={
 mixed:=by kernel_rfl
 f112:=Tryz.func91.trans (congrArg some (by kernel_rfl))
 t0:=Tryz.underlying0
 a0:=Tryz.isAgg0
 z0:=Tryz.sizeOf0
 v0:=Tryz.zeroValue0
 t3:=Tryz.underlying3
 a3:=Tryz.isAgg3
 z3:=Tryz.sizeOf3
 v3:=Tryz.zeroValue3
 t4:=Tryz.underlying4
 a4:=Tryz.isAgg4
 z4:=Tryz.sizeOf4
 v4:=Tryz.zeroValue4
 t28:=Tryz.underlying25
 a28:=Tryz.isAgg25
 z28:=Tryz.sizeOf25
 v28:=Tryz.zeroValue25 }
open Go.RowKit Go.Lib Go.Sort in
theorem Tryz.slices_Reverse_int (blk off cap:Nat) (zs:List Int) (w:World) (hH:Holds (Value.int .i64) w blk off zs.toArray) (hsz:zs.length≤9223372036854775807):
  Calls Tryz.prog 91 #[.slice (some ⟨blk,off,none⟩) zs.length cap] w fun e w'=>e=.returned (.tuple #[])∧∃n,w'=putRow (Value.int .i64) (Sort.ahead w n) blk off zs.reverse.toArray:=Any.slices_Reverse_int Tryz.lays112 blk off cap zs w hH hsz
open Go.RowKit Go.Lib Go.Sort in
theorem Tryz.slices_Reverse_int_empty (a:Option Addr) (cap:Nat) (w:World):
  Calls Tryz.prog 91 #[.slice a 0 cap] w fun e w'=>e=.returned (.tuple #[])∧w'=w:=Any.slices_Reverse_int_empty Tryz.lays112 a cap w
end Go.Proofs
end
section
namespace Go.Proofs.YtkdomobedfhhgaaGreat
open Go.Proofs.YtkdomobedfhhgaaGreat.Ch
def arcOf (back:Bool) (e:EdgeD):Arc:=⟨(endsC back e).1,(endsC back e).2,e.w⟩
def arcsC (es:List EdgeD) (back:Bool) (no:List Int):List Arc:=(es.filter (countB no)).map (arcOf back)
theorem countB_iff {no:List Int} {e:EdgeD}:countB no e=true↔e.f∉no∧e.t∉no:=by
 unfold countB
 simp
theorem rel_arcs {es:List EdgeD} {back:Bool} {no:List Int} {u v w:Int}:rel (arcsC es back no) u v w↔relB back (arcG es) u v w∧u∉no∧v∉no:=by
 unfold rel arcsC relB arcG
 simp only [List.mem_map,List.mem_filter,countB_iff]
 cases back
 ·simp only [Bool.false_eq_true,if_false]
  constructor
  ·rintro ⟨e,⟨h1,h2,h3⟩,h4⟩
   cases h4
   exact ⟨⟨e,h1,rfl,rfl,rfl⟩,h2,h3⟩
  ·rintro ⟨⟨e,h1,rfl,rfl,rfl⟩,h2,h3⟩
   exact ⟨e,⟨h1,h2,h3⟩,rfl⟩
 ·simp only [if_true,Turn]
  constructor
  ·rintro ⟨e,⟨h1,h2,h3⟩,h4⟩
   cases h4
   exact ⟨⟨e,h1,rfl,rfl,rfl⟩,h3,h2⟩
  ·rintro ⟨⟨e,h1,rfl,rfl,rfl⟩,h2,h3⟩
   exact ⟨e,⟨h1,h3,h2⟩,rfl⟩
def AllIs (es:List EdgeD) (n:Nat) (s:Int) (back:Bool) (no d:List Int):Prop:=
 d.length=n∧(∀v,node n v→gD d v=FAR∨(0≤gD d v∧gD d v≤1152921504606846976))∧(s∈no→∀v,node n v→gD d v=FAR)∧(s∉no→Exact (arcsC es back no) s n d)
structure Rds (L:List Arc) (s:Int) (n k:Nat) (B:Int) (d:List Int) (c:Bool):Prop where
 so:Sofar L s n (k*B) d
 left:left L s n d+k≤n∨left L s n d=0
 ex:c=false→Exact L s n d
theorem Rds.start (L:List Arc) {s:Int} {n:Nat} (B:Int) (hs:node n s):Rds L s n 0 B ((List.replicate n FAR).set s.toNat 0) true:=
 ⟨by rw [show ((0:Nat):Int)*B=0 by simp];exact Sofar.begin L hs,.inl (by have:=left_le L s n ((List.replicate n FAR).set s.toNat 0);omega),fun h=>by cases h⟩
theorem Rds.go {L:List Arc} {s:Int} {n k:Nat} {W B:Int} {d:List Int} {c:Bool} (hg:Ch.Good L n W) (hW:0≤W) (hs:node n s) (hB:(L.length:Int)*W≤B) (hk:k≤4096) (hm:4097*B+W<FAR) (h:Rds L s n k B d c):Rds L s n (k+1) B (roundC d L).1 (roundC d L).2:=by
 have h0:(0:Int)≤(L.length:Int)*W:=Int.mul_nonneg (by omega) hW
 have h1:(k:Int)*B≤4096*B:=Int.mul_le_mul_of_nonneg_right (by omega) (by omega)
 obtain ⟨a1,a2,a3⟩:=Sofar.round hg hW hs h.so (by omega)
 have e:((k+1:Nat):Int)*B=k*B+B:=by push_cast;rw [Int.add_mul];omega
 refine ⟨a1.mono (by rw [e];omega),?_,a3⟩
 rcases a2 with a2|a2
 ·rcases h.left with h2|h2<;>omega
 ·exact .inr a2
theorem Rds.done {L:List Arc} {s:Int} {n k:Nat} {W B:Int} {d:List Int} {c:Bool} (hg:Ch.Good L n W) (h:Rds L s n k B d c) (he:c=false∨n<k):Exact L s n d:=by
 rcases he with he|he
 ·exact h.ex he
 ·exact h.so.zero hg (by rcases h.left with h2|h2<;>omega)
theorem Exact.is {es:List EdgeD} {n:Nat} {s:Int} {back:Bool} {no d:List Int} {k:Nat} {B:Int} (h:Exact (arcsC es back no) s n d) (hso:Sofar (arcsC es back no) s n (k*B) d) {W:Int} (hg:Ch.Good (arcsC es back no) n W) (hs:s∉no) (hb:(k:Int)*B≤1152921504606846976):AllIs es n s back no d:=
 ⟨h.len,fun v hv=>(hso.way v hv).imp id fun k=>⟨k.1.nonneg hg.hA,by have:=k.2;omega⟩,fun k=>absurd k hs,fun _=>h⟩
theorem AllIs.out {es:List EdgeD} {n:Nat} {s:Int} {back:Bool} {no:List Int} (hs:s∈no):AllIs es n s back no (List.replicate n FAR):=by
 have h:∀v,node n v→gD (List.replicate n FAR) v=FAR:=by
  intro v hv
  unfold gD
  rw [List.getD_eq_getElem?_getD,List.getElem?_replicate]
  split<;>rfl
 exact ⟨by simp,fun v hv=>.inl (h v hv),fun _=>h,fun k=>absurd hs k⟩
theorem arcs_good {es:List EdgeD} {n:Nat} {back:Bool} {no:List Int} (hA:∀u v w,arcG es u v w→nodeN n u∧nodeN n v∧1≤w∧w≤4294967296):Ch.Good (arcsC es back no) n 4294967296:=by
 have key:∀e∈arcsC es back no,node n e.u∧node n e.v∧1≤e.w∧e.w≤4294967296:=by
  intro e he
  have h:=(rel_arcs.1 (show rel (arcsC es back no) e.u e.v e.w from he)).1
  unfold relB at h
  cases back
  ·exact hA _ _ _ h
  ·have:=hA _ _ _ (show arcG es e.v e.u e.w from h)
   exact ⟨this.2.1,this.1,this.2.2⟩
 exact ⟨fun e he=>⟨(key e he).1,(key e he).2.1⟩,fun e he=>⟨(key e he).2.2.1,(key e he).2.2.2⟩⟩
theorem arcs_len {es:List EdgeD} {back:Bool} {no:List Int}:(arcsC es back no).length≤es.length:=by
 unfold arcsC
 rw [List.length_map]
 exact List.length_filter_le _ _
def FarV (A:Int→Int→Int→Prop) (s v x:Int):Prop:=(Dist A s v x∧0≤x∧x≤1152921504606846976)∨(x=FAR∧∀e,¬Way0 A Any s v e)
theorem FarV.uniq {A:Int→Int→Int→Prop} {s v x y:Int} (h:FarV A s v x) (k:FarV A s v y):x=y:=by
 rcases h with ⟨h,_⟩|⟨rfl,h⟩<;>rcases k with ⟨k,_⟩|⟨rfl,k⟩
 ·exact h.uniq k
 ·exact absurd h.1 (k _)
 ·exact absurd k.1 (h _)
 ·rfl
theorem FarV.lt {A:Int→Int→Int→Prop} {s v x:Int} (h:FarV A s v x) (hx:x<FAR):Dist A s v x∧0≤x∧x≤1152921504606846976:=by
 rcases h with h|⟨rfl,_⟩
 ·exact h
 ·exact absurd hx (by decide)
theorem FarV.ge {A:Int→Int→Int→Prop} {s v x:Int} (h:FarV A s v x) (hx:¬x<FAR):x=FAR∧∀e,¬Way0 A Any s v e:=by
 rcases h with ⟨_,_,h⟩|h
 ·unfold FAR at hx;omega
 ·exact h
theorem FarV.in {A:Int→Int→Int→Prop} {s v x:Int} (h:FarV A s v x):0≤x∧x≤4611686018427387904:=by
 rcases h with ⟨_,h⟩|⟨rfl,_⟩
 ·omega
 ·unfold FAR;omega
theorem rel_none (es:List EdgeD) (back:Bool):rel (arcsC es back [])=relB back (arcG es):=by
 funext u v w
 exact propext (rel_arcs.trans ⟨fun h=>h.1,fun h=>⟨h,by simp,by simp⟩⟩)
theorem AllIs.farX {es:List EdgeD} {n:Nat} {s:Int} {back:Bool} {no d:List Int} (hA:∀u v w,rel (arcsC es back no) u v w→1≤w) (h:AllIs es n s back no d) (hs:s∉no) {v:Int} (hv:node n v):FarV (rel (arcsC es back no)) s v (gD d v):=by
 obtain ⟨h1,h2,h3,h4⟩:=h
 have hE:=h4 hs
 by_cases hd:∃e,Dist (rel (arcsC es back no)) s v e
 ·obtain ⟨e,he⟩:=hd
  refine .inl ⟨by rw [hE.dist v e hv he];exact he,?_⟩
  rcases h2 v hv with k|k
  ·exact absurd k (hE.fin v e hv he)
  ·exact k
 ·exact .inr ⟨hE.none v hv fun e he=>hd ⟨e,he⟩,fun e he=>hd (dist_some hA he)⟩
theorem AllIs.far {es:List EdgeD} {n:Nat} {s:Int} {back:Bool} {d:List Int} (hA:∀u v w,relB back (arcG es) u v w→1≤w) (h:AllIs es n s back [] d) {v:Int} (hv:node n v):FarV (relB back (arcG es)) s v (gD d v):=by
 have:=h.farX (fun u v w k=>hA u v w (rel_arcs.1 k).1) (by simp) hv
 rwa [rel_none] at this
end Go.Proofs.YtkdomobedfhhgaaGreat
end
section
namespace Go.Proofs.YtkdomobedfhhgaaGreat
open Go Go.Proofs Go.RowKit Go.Shelf Go.Proofs.YtkdomobedfhhgaaGreat.Hp Go.Proofs.YtkdomobedfhhgaaGreat.Ch
section
variable {es:List EdgeD} {n:Nat} {R:List Int} {S:List SC} {ro:List Int}
end
end Go.Proofs.YtkdomobedfhhgaaGreat
end
section
namespace Go.Proofs.YtkdomobedfhhgaaGreat
open Go Go.Proofs Go.RowKit Go.Shelf Go.Proofs.YtkdomobedfhhgaaGreat.Hp Go.Proofs.YtkdomobedfhhgaaGreat.Ch
end Go.Proofs.YtkdomobedfhhgaaGreat
end
section
namespace Go.Proofs.YtkdomobedfhhgaaGreat
open Go Go.Proofs Go.RowKit Go.Shelf Go.Proofs.YtkdomobedfhhgaaGreat.Hp Go.Proofs.YtkdomobedfhhgaaGreat.Ch
end Go.Proofs.YtkdomobedfhhgaaGreat
end
section
namespace Go.Proofs.YtkdomobedfhhgaaGreat
open Go Go.Proofs Go.RowKit Go.Shelf Go.Proofs.YtkdomobedfhhgaaGreat.Hp Go.Proofs.YtkdomobedfhhgaaGreat.Ch
end Go.Proofs.YtkdomobedfhhgaaGreat
end
