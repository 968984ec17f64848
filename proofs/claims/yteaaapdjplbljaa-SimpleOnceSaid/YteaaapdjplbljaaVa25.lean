/- Walks: the reference's Weight; Is, Simple and their references; Light. -/
import Derived.Test.YteaaapdjplbljaaProg
import Derived.Test.YteaaapdjplbljaaVa24
set_option linter.unusedVariables false
set_option linter.unusedSimpArgs false
set_option linter.unnecessarySimpa false
namespace Go.Proofs.Yteaaapdjplbljaa
open Go.Proofs Go.RowKit Go.Shelf
set_option maxHeartbeats 1000000 in
theorem refWeight_any (g:GD) (ao bo:Option Addr) (cap cb:Nat) (l:List Int) (w:World) (hl:g.es.length≤9223372036854775807) (hll:l.length≤1048576) (hc:Cel w ao (flat g.es)) (hd:Cel w bo (l.map encI)):
  Calls Try.prog 10 #[.agg #[.int .i64 g.n,.slice ao g.es.length cap],.slice bo l.length cb] w fun e w'=>e=.returned (.tuple #[.int .u64 ((weightG g l).getD 0),.bool (weightG g l).isSome])∧Below w.heap.size w w':=by
 have HC:=Lib.hid hc
 have HD:=Lib.hid hd
 clear hc hd
 have X1:=Lib.hid (fun W h1 h2=>refedges_any g ao bo cap cb l W hl (by omega) h1 h2)
 cases q1:edgesB g l with
 |false=>
  have HR:=Lib.hid (weightG_no (offG_no q1))
  rw [q1] at X1
  clear q1
  generalize weightG g l=r at*
  go_enter Try.func10,Try.ntmps10
  go_wp2_with (go_at_call 25;refine (X1.out _ (HC.out.go (by repeat (first|exact Below.refl _ _|refine Below.al ?_ _|refine Below.dr ?_ _|refine Below.drew ?_|assumption|(refine Below.st ?_ (by assumption))))) (HD.out.go (by repeat (first|exact Below.refl _ _|refine Below.al ?_ _|refine Below.dr ?_ _|refine Below.drew ?_|assumption|(refine Below.st ?_ (by assumption)))))).mono ?_;rintro e w1 ⟨rfl,hb1⟩)
  go_ret2
  exact ⟨by rw [HR.out];rfl,by repeat (first|exact Below.refl _ _|refine Below.al ?_ _|refine Below.dr ?_ _|refine Below.drew ?_|assumption|(refine Below.st ?_ (by assumption)))⟩
 |true=>
  have hwg:weightG g l=some (((offF g.es 0 l)[l.length]?).getD 0):=by unfold weightG;rw [offG_yes q1];rfl
  have HM:=Lib.hid (fun e he=>edgesB_mem q1 (e:=e) he)
  have HWT:=Lib.hid (fun e he=>wt_bd q1 (e:=e) he)
  have HOB:=Lib.hid (offF_bd g.es l 0 (fun e he=>⟨(wt_bd q1 he).1,(wt_bd q1 he).2.1⟩))
  have HR:=Lib.hid (offG_yes q1)
  rw [q1] at X1
  clear q1
  have HL:=Lib.hid (offF_length g.es l 0)
  have HZ:=Lib.hid (offF_zero g.es l 0)
  have HS:=Lib.hid (offF_step g.es l 0)
  generalize offG g l=r at*
  generalize offF g.es 0 l=L at*
  generalize weightG g l=rw at*
  have HRW:=Lib.hid hwg
  clear hwg
  go_enter Try.func10,Try.ntmps10
  go_wp2_with fail
  obtain ⟨W,hW,c0,c1,hsW⟩:∃W,W=w.alloc (Obj.cells #[.int .i64 g.n,.slice ao g.es.length cap] 24)∧W.cell? ⟨w.heap.size,0,none⟩=some (.int .i64 g.n)∧W.cell? ⟨w.heap.size,1,none⟩=some (.slice ao g.es.length cap)∧w.heap.size<W.heap.size:=⟨_,rfl,by go_simp,by go_simp,by simp⟩
  rw [←hW]
  have HW:=Lib.hid (show Below w.heap.size w W by rw [hW];repeat (first|exact Below.refl _ _|refine Below.al ?_ _|refine Below.dr ?_ _|refine Below.drew ?_|assumption|(refine Below.st ?_ (by assumption))))
  clear hW
  refine (X1.out _ (HC.out.go HW.out) (HD.out.go HW.out)).mono ?_
  rintro e w1 ⟨rfl,hb1⟩
  have m0:=cell_later hb1 c0
  have m1:=cell_later hb1 c1
  have HW1:=Lib.hid (HW.out.st hb1)
  have hs1:w.heap.size<w1.heap.size:=by have:=hb1.size;omega
  clear c0 c1 hb1 hsW HW
  go_wp2
  go_loopg [6,7] l.length (fun gg v i wr=>∃(k q:Nat) (x:Int),k≤l.length∧l.length-k≤gg∧i=.int .i64 k∧v=.int .u64 x∧wr=w1.drewN q∧Aside (L[k]? =some x))
  case atStart=>exact ⟨0,0,0,Nat.zero_le _,by omega,rfl,rfl,rfl,HZ.out⟩
  case round=>
   obtain ⟨k,qn,x',hk,hg,rfl,rfl,rfl,HX⟩:=hrel
   by_cases hlt:k<l.length
   ·have HA:=Lib.hid (And.intro True.intro (Below.refl w1.heap.size w1))
    obtain ⟨b,o,hbo,f1⟩:=(HD.out.go (HW1.out.st HA.out.2)).at hlt
    obtain ⟨hw1,hw2,hj,hw3⟩:=HWT.out l[k] (List.getElem_mem hlt)
    have hin:=HM.out l[k] (List.getElem_mem hlt)
    obtain ⟨b2,o2,hao2,j1,j2,j3⟩:=(HC.out.go (HW1.out.st HA.out.2)).edge hj
    rw [←hw3] at j3
    clear j1 j2 hw3
    have hLk:∃x,L[k]? =some x:=⟨_,List.getElem?_eq_getElem (by rw [HL.out];omega)⟩
    obtain ⟨x,hx⟩:=hLk
    have hxb:=HOB.out k x hx
    have hx1:=HS.out k hlt
    rw [hx] at hx1
    have HX1:=Lib.hid hx1
    have x0:0≤x:=hxb.1
    have x1:x+wt g.es l[k]≤4503603922337792:=by
     have:=hxb.2
     have h3:(k:Int)*4294967296≤1048576*4294967296:=Int.mul_le_mul_of_nonneg_right (by omega) (by omega)
     omega
    have i0:0≤l[k]:=hin.1
    have i1:l[k]<(g.es.length:Int):=hin.2
    have k0:(0:Int)≤(k:Int):=by omega
    have k1:(k:Int)<(l.length:Int):=by omega
    have hxx:x'=x:=by have:=HX.out;rw [hx] at this;cases this;rfl
    subst hxx
    clear hx hx1 hxb hin
    generalize wt g.es l[k]=wv at*
    generalize l[k]=ei at*
    subst hbo hao2
    have i2:0≤x'+wv:=by omega
    have w5:IntKind.u64.wrap (x'+wv)=x'+wv:=IntWalk.u64_in _ (by omega)
    go_wp2
    go_quiet (fail)
    go_wp2
    go_roundg (l.length-(k+1))
    case measure=>omega
    case rel=>exact ⟨k+1,qn+nq,x'+wv,by omega,by omega,by go_num,rfl,rfl,HX1.out⟩
   ·obtain rfl:k=l.length:=by omega
    go_wp2
    go_ret2
    exact ⟨by rw [HRW.out,HX.out];rfl,HW1.out.dr _⟩
theorem walkGo_length (es:List EdgeD):∀(l:List Int) (s:Int) (out O:List Int),walkGo es s out l=some O→O.length=out.length+l.length
 |[],_,out,O,h=>by simp [walkGo] at h;subst h;rfl
 |e::r,s,out,O,h=>by
  unfold walkGo at h
  split at h
  ·have:=walkGo_length es r _ _ O h
   simp at this ⊢
   omega
  ·cases h
theorem nodesG_length {g:GD} {s:Int} {l O:List Int} (h:nodesG g s l=some O):O.length=l.length+1:=by
 unfold nodesG at h
 split at h
 ·have:=walkGo_length _ _ _ _ _ h
  simp at this;omega
 ·cases h
def isB (g:GD) (s t:Int) (l:List Int):Bool:=match nodesG g s l with|some O=>((O[O.length-1]?).getD 0==t)|none=>false
set_option maxHeartbeats 1000000 in
theorem Is_any (g:GD) (ao bo:Option Addr) (cap cb:Nat) (s t:Int) (l:List Int) (w:World) (hl:g.es.length≤9223372036854775807) (hll:l.length≤1099511627776) (hc:Cel w ao (flat g.es)) (hd:Cel w bo (l.map encI)):
  Calls Try.prog 16 #[.agg #[.int .i64 g.n,.slice ao g.es.length cap],.int .i64 s,.int .i64 t,.slice bo l.length cb] w fun e w'=>e=.returned (.bool (isB g s t l))∧Below w.heap.size w w':=by
 have HC:=Lib.hid hc
 have HD:=Lib.hid hd
 clear hc hd
 have X1:=Lib.hid (fun W h1 h2=>Nodes_any g ao bo cap cb s l W hl hll h1 h2)
 cases hr:nodesG g s l with
 |none=>
  have HR:=Lib.hid (show isB g s t l=false by unfold isB;rw [hr])
  rw [hr] at X1
  generalize isB g s t l=r at*
  go_enter Try.func16,Try.ntmps16
  go_wp2_with (go_at_call 31;refine (X1.out _ (HC.out.go (by repeat (first|exact Below.refl _ _|refine Below.al ?_ _|refine Below.dr ?_ _|refine Below.drew ?_|assumption|(refine Below.st ?_ (by assumption))))) (HD.out.go (by repeat (first|exact Below.refl _ _|refine Below.al ?_ _|refine Below.dr ?_ _|refine Below.drew ?_|assumption|(refine Below.st ?_ (by assumption)))))).mono ?_;rintro e w1 ⟨a1,p1,rfl,hc1,hb1,-⟩;simp only [Option.isSome_none])
  go_ret
  exact ⟨by rw [HR.out];rfl,by repeat (first|exact Below.refl _ _|refine Below.al ?_ _|refine Below.dr ?_ _|refine Below.drew ?_|assumption|(refine Below.st ?_ (by assumption)))⟩
 |some O=>
  have hO:=nodesG_length hr
  have HR:=Lib.hid (show isB g s t l=((O[O.length-1]?).getD 0==t) by unfold isB;rw [hr])
  rw [hr] at X1
  clear hr
  generalize isB g s t l=r at*
  have h1:1≤O.length:=by omega
  have h2:O.length≤1099511627777:=by omega
  clear hO
  go_enter Try.func16,Try.ntmps16
  go_wp2_with fail
  refine (X1.out _ (HC.out.go (by repeat (first|exact Below.refl _ _|refine Below.al ?_ _|refine Below.dr ?_ _|refine Below.drew ?_|assumption|(refine Below.st ?_ (by assumption))))) (HD.out.go (by repeat (first|exact Below.refl _ _|refine Below.al ?_ _|refine Below.dr ?_ _|refine Below.drew ?_|assumption|(refine Below.st ?_ (by assumption)))))).mono ?_
  rintro e w1 ⟨a1,p1,rfl,hc1,hb1,-⟩
  have HB1:=Lib.hid hb1
  have hx:∃x,O[O.length-1]? =some x:=⟨_,List.getElem?_eq_getElem (by omega)⟩
  obtain ⟨x,hx⟩:=hx
  have hcell:∃b1 o1,a1=some ⟨b1,o1,none⟩∧w1.cell? ⟨b1,o1+(O.length-1),none⟩=some (.int .i64 x):=by
   obtain ⟨b',o',e',h'⟩:=hc1 (O.length-1) (.int .i64 x) (by simp [hx])
   exact ⟨b',o',e',h'⟩
  obtain ⟨b1,o1,rfl,hcell⟩:=hcell
  have HX:=Lib.hid hx
  clear hx hc1 hb1
  simp only [Option.getD_some,Option.isSome_some]
  go_wp2
  go_ret
  exact ⟨by rw [HR.out,HX.out];rfl,by have:=HB1.out;repeat (first|exact Below.refl _ _|refine Below.al ?_ _|refine Below.dr ?_ _|refine Below.drew ?_|assumption|(refine Below.st ?_ (by assumption)))⟩
set_option maxHeartbeats 1000000 in
theorem refIs_any (g:GD) (ao bo:Option Addr) (cap cb:Nat) (s t:Int) (l:List Int) (w:World) (hl:g.es.length≤9223372036854775807) (hll:l.length≤1099511627776) (hc:Cel w ao (flat g.es)) (hd:Cel w bo (l.map encI)):
  Calls Try.prog 11 #[.agg #[.int .i64 g.n,.slice ao g.es.length cap],.int .i64 s,.int .i64 t,.slice bo l.length cb] w fun e w'=>e=.returned (.bool (isB g s t l))∧Below w.heap.size w w':=by
 have HC:=Lib.hid hc
 have HD:=Lib.hid hd
 clear hc hd
 have X1:=Lib.hid (fun W h1 h2=>refNodes_any g ao bo cap cb s l W hl hll h1 h2)
 cases hr:nodesG g s l with
 |none=>
  have HR:=Lib.hid (show isB g s t l=false by unfold isB;rw [hr])
  rw [hr] at X1
  generalize isB g s t l=r at*
  go_enter Try.func11,Try.ntmps11
  go_wp2_with (go_at_call 26;refine (X1.out _ (HC.out.go (by repeat (first|exact Below.refl _ _|refine Below.al ?_ _|refine Below.dr ?_ _|refine Below.drew ?_|assumption|(refine Below.st ?_ (by assumption))))) (HD.out.go (by repeat (first|exact Below.refl _ _|refine Below.al ?_ _|refine Below.dr ?_ _|refine Below.drew ?_|assumption|(refine Below.st ?_ (by assumption)))))).mono ?_;rintro e w1 ⟨a1,p1,rfl,hc1,hb1,-⟩;simp only [Option.isSome_none])
  go_ret
  exact ⟨by rw [HR.out];rfl,by repeat (first|exact Below.refl _ _|refine Below.al ?_ _|refine Below.dr ?_ _|refine Below.drew ?_|assumption|(refine Below.st ?_ (by assumption)))⟩
 |some O=>
  have hO:=nodesG_length hr
  have HR:=Lib.hid (show isB g s t l=((O[O.length-1]?).getD 0==t) by unfold isB;rw [hr])
  rw [hr] at X1
  clear hr
  generalize isB g s t l=r at*
  have h1:1≤O.length:=by omega
  have h2:O.length≤1099511627777:=by omega
  clear hO
  go_enter Try.func11,Try.ntmps11
  go_wp2_with fail
  refine (X1.out _ (HC.out.go (by repeat (first|exact Below.refl _ _|refine Below.al ?_ _|refine Below.dr ?_ _|refine Below.drew ?_|assumption|(refine Below.st ?_ (by assumption))))) (HD.out.go (by repeat (first|exact Below.refl _ _|refine Below.al ?_ _|refine Below.dr ?_ _|refine Below.drew ?_|assumption|(refine Below.st ?_ (by assumption)))))).mono ?_
  rintro e w1 ⟨a1,p1,rfl,hc1,hb1,-⟩
  have HB1:=Lib.hid hb1
  have hx:∃x,O[O.length-1]? =some x:=⟨_,List.getElem?_eq_getElem (by omega)⟩
  obtain ⟨x,hx⟩:=hx
  have hcell:∃b1 o1,a1=some ⟨b1,o1,none⟩∧w1.cell? ⟨b1,o1+(O.length-1),none⟩=some (.int .i64 x):=by
   obtain ⟨b',o',e',h'⟩:=hc1 (O.length-1) (.int .i64 x) (by simp [hx])
   exact ⟨b',o',e',h'⟩
  obtain ⟨b1,o1,rfl,hcell⟩:=hcell
  have HX:=Lib.hid hx
  clear hx hc1 hb1
  simp only [Option.getD_some,Option.isSome_some]
  go_wp2
  go_ret
  exact ⟨by rw [HR.out,HX.out];rfl,by have:=HB1.out;repeat (first|exact Below.refl _ _|refine Below.al ?_ _|refine Below.dr ?_ _|refine Below.drew ?_|assumption|(refine Below.st ?_ (by assumption)))⟩
theorem Light_any (g:GD) (ao:Option Addr) (cap:Nat) (w:World):
  Calls Try.prog 14 #[.agg #[.int .i64 g.n,.slice ao g.es.length cap]] w fun e w'=>e=.returned (.bool ((decide (g.n≤100)||decide (4096<g.n))&&decide ((g.es.length:Int)≤300)))∧Below w.heap.size w w':=by
 go_enter Try.func14,Try.ntmps14
 by_cases h1:g.n≤100<;>by_cases h2:4096<g.n<;>by_cases h3:(g.es.length:Int)≤300
 all_goals
  first
   |(exfalso;omega)
   |(go_wp2;go_ret;exact ⟨by simp [h1,h2,h3]<;>omega,by repeat (first|exact Below.refl _ _|refine Below.al ?_ _|refine Below.dr ?_ _|refine Below.drew ?_|assumption|(refine Below.st ?_ (by assumption)))⟩)
end Go.Proofs.Yteaaapdjplbljaa
