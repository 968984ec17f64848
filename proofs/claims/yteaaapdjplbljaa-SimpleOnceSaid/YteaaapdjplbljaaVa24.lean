/- Walks: what the edges of a row weigh, one behind the other: path.Offsets, Weight, and their references. -/
import Derived.Test.YteaaapdjplbljaaProg
import Derived.Test.YteaaapdjplbljaaVa23
import Derived.Deep.RegionLaw
set_option linter.unusedVariables false
set_option linter.unusedSimpArgs false
set_option linter.unnecessarySimpa false
namespace Go.Proofs.Yteaaapdjplbljaa
open Go.Proofs Go.RowKit Go.Shelf
theorem elem_uint:Elem Try.prog 35 (.int .u64 0) 1 8:=⟨by kernel_rfl,rfl,by decide⟩
def wt (es:List EdgeD) (e:Int):Int:=(es.getD e.toNat edD).w
def offF (es:List EdgeD):Int→List Int→List Int
 |a,[]=>[a]
 |a,e::r=>a::offF es (a+wt es e) r
theorem offF_length (es:List EdgeD):∀(l:List Int) (a:Int),(offF es a l).length=l.length+1
 |[],_=>rfl
 |_::r,_=>by simp [offF,offF_length es r]
theorem offF_zero (es:List EdgeD) (l:List Int) (a:Int):(offF es a l)[0]? =some a:=by cases l<;>rfl
theorem offF_step (es:List EdgeD):∀(l:List Int) (a:Int) (k:Nat) (h:k<l.length),(offF es a l)[k+1]? =((offF es a l)[k]?).map (· +wt es l[k])
 |e::r,a,0,_=>by
  show (offF es (a+wt es e) r)[0]? =_
  rw [offF_zero];rfl
 |e::r,a,k+1,h=>by
  show (offF es (a+wt es e) r)[k+1]? =((offF es (a+wt es e) r)[k]?).map _
  exact offF_step es r _ k (by simpa using h)
theorem right_weight {g:GD} (h:rightG g=0) {e:EdgeD} (he:e∈g.es):1≤e.w∧e.w≤4294967296:=by
 unfold rightG at h
 split at h
 ·omega
 ·split at h
  ·omega
  ·split at h
   ·omega
   ·split at h
    ·omega
    ·rename_i h4
     simp only [List.any_eq_true,not_exists,not_and,Bool.not_eq_true,Bool.not_eq_false'] at h4
     have:=h4 e he
     simpa [weightB] using this
theorem wt_bd {g:GD} {l:List Int} (h:edgesB g l=true) {e:Int} (he:e∈l):1≤wt g.es e∧wt g.es e≤4294967296∧∃hj:e.toNat<g.es.length,wt g.es e=g.es[e.toNat].w:=by
 have h1:=edgesB_mem h he
 have hj:e.toNat<g.es.length:=by omega
 have e1:wt g.es e=g.es[e.toNat].w:=by unfold wt;simp [List.getD,hj]
 have:=right_weight (edgesB_right h) (List.getElem_mem hj)
 rw [e1]
 exact ⟨this.1,this.2,hj,rfl⟩
theorem offF_bd (es:List EdgeD):∀(l:List Int) (a:Int),(∀e∈l,1≤wt es e∧wt es e≤4294967296)→∀(k:Nat) (x:Int),(offF es a l)[k]? =some x→a≤x∧x≤a+k*4294967296
 |[],a,_,k,x,hx=>by
  cases k with
  |zero=>simp [offF] at hx;omega
  |succ k=>simp [offF] at hx
 |e::r,a,h,0,x,hx=>by simp [offF] at hx;omega
 |e::r,a,h,k+1,x,hx=>by
  have h1:=h e (by simp)
  have:=offF_bd es r (a+wt es e) (fun e' he'=>h e' (by simp [he'])) k x hx
  omega
def offG (g:GD) (l:List Int):Option (List Int):=if edgesB g l then some (offF g.es 0 l) else none
theorem offG_no {g:GD} {l:List Int} (h:edgesB g l=false):offG g l=none:=by unfold offG;rw [h];rfl
theorem offG_yes {g:GD} {l:List Int} (h:edgesB g l=true):offG g l=some (offF g.es 0 l):=by unfold offG;rw [h];rfl
def fillO (L:List Int) (n k:Nat):List Int:=L.take (k+1)++List.replicate (n-k) 0
theorem fillO_set (L:List Int) (n k:Nat) (x:Int) (hL:L.length=n+1) (hk:k<n) (hx:L[k+1]? =some x):(fillO L n k).set (k+1) x=fillO L n (k+1):=by
 unfold fillO
 have h1:(L.take (k+1)).length=k+1:=by simp;omega
 rw [List.set_append_right _ _ (by omega),h1,Nat.sub_self]
 have h2:n-k=(n-(k+1))+1:=by omega
 have h3:L.take (k+1+1)=L.take (k+1)++[x]:=by rw [List.take_add_one,hx];rfl
 rw [h2,List.replicate_succ,List.set_cons_zero,h3,List.append_assoc]
 rfl
theorem fillO_get (L:List Int) (n k:Nat) (hL:L.length=n+1) (hk:k≤n):(fillO L n k)[k]? =L[k]?:=by
 unfold fillO
 rw [List.getElem?_append_left (by simp;omega),List.getElem?_take,if_pos (by omega)]
theorem fillO_start (L:List Int) (n:Nat) (h:L[0]? =some 0):fillO L n 0=List.replicate (n+1) 0:=by
 unfold fillO
 rw [List.take_add_one,h]
 simp [List.replicate_succ]
theorem fillO_end (L:List Int) (n:Nat) (hL:L.length=n+1):fillO L n n=L:=by
 unfold fillO
 rw [List.take_of_length_le (by omega)]
 simp
theorem fillO_length (L:List Int) (n k:Nat) (hL:L.length=n+1) (hk:k≤n):(fillO L n k).length=n+1:=by unfold fillO;simp;omega
def OffPost (w:World) (r:Option (List Int)) (e:Ending) (w':World):Prop:=
 ∃ao cap,e=.returned (.slice ao (r.getD []).length cap)∧Cel w' ao ((r.getD []).map encW)∧Below w.heap.size w w'∧(r=none→ao=none∧cap=0)∧(r≠none→∃b o,ao=some ⟨b,o,none⟩)
set_option maxHeartbeats 2000000 in
theorem Offsets_any (g:GD) (ao bo:Option Addr) (cap cb:Nat) (l:List Int) (w:World) (hl:g.es.length≤9223372036854775807) (hll:l.length≤1048576) (hc:Cel w ao (flat g.es)) (hd:Cel w bo (l.map encI)):
  Calls Try.prog 32 #[.agg #[.int .i64 g.n,.slice ao g.es.length cap],.slice bo l.length cb] w (OffPost w (offG g l)):=by
 have HC:=Lib.hid hc
 have HD:=Lib.hid hd
 clear hc hd
 have X1:=Lib.hid (fun W h1 h2=>edges_any g ao bo cap cb l W hl (by omega) h1 h2)
 cases q1:edgesB g l with
 |false=>
  have HR:=Lib.hid (offG_no q1)
  rw [q1] at X1
  clear q1
  generalize offG g l=r at*
  go_enter Try.func32,Try.ntmps32
  go_wp2_with (go_at_call 51;refine (X1.out _ (HC.out.go (by repeat (first|exact Below.refl _ _|refine Below.al ?_ _|refine Below.dr ?_ _|refine Below.drew ?_|assumption|(refine Below.st ?_ (by assumption))))) (HD.out.go (by repeat (first|exact Below.refl _ _|refine Below.al ?_ _|refine Below.dr ?_ _|refine Below.drew ?_|assumption|(refine Below.st ?_ (by assumption)))))).mono ?_;rintro e w1 ⟨rfl,hb1⟩)
  go_ret
  exact ⟨none,0,by rw [HR.out];rfl,by rw [HR.out];exact Cel.nil _ _,by repeat (first|exact Below.refl _ _|refine Below.al ?_ _|refine Below.dr ?_ _|refine Below.drew ?_|assumption|(refine Below.st ?_ (by assumption))),fun _=>⟨rfl,rfl⟩,fun h=>absurd HR.out h⟩
 |true=>
  have HM:=Lib.hid (fun e he=>edgesB_mem q1 (e:=e) he)
  have HWT:=Lib.hid (fun e he=>wt_bd q1 (e:=e) he)
  have HOB:=Lib.hid (offF_bd g.es l 0 (fun e he=>⟨(wt_bd q1 he).1,(wt_bd q1 he).2.1⟩))
  have HR:=Lib.hid (offG_yes q1)
  rw [q1] at X1
  clear q1
  have HL:=Lib.hid (offF_length g.es l 0)
  have HZ:=Lib.hid (offF_zero g.es l 0)
  have HS:=Lib.hid (offF_step g.es l 0)
  generalize offG g l=r at*
  generalize offF g.es 0 l=L at*
  go_enter Try.func32,Try.ntmps32
  go_wp2_with fail
  obtain ⟨W,hW,c0,c1,hsW⟩:∃W,W=w.alloc (Obj.cells #[.int .i64 g.n,.slice ao g.es.length cap] 24)∧W.cell? ⟨w.heap.size,0,none⟩=some (.int .i64 g.n)∧W.cell? ⟨w.heap.size,1,none⟩=some (.slice ao g.es.length cap)∧w.heap.size<W.heap.size:=⟨_,rfl,by go_simp,by go_simp,by simp⟩
  rw [←hW]
  have HW:=Lib.hid (show Below w.heap.size w W by rw [hW];repeat (first|exact Below.refl _ _|refine Below.al ?_ _|refine Below.dr ?_ _|refine Below.drew ?_|assumption|(refine Below.st ?_ (by assumption))))
  clear hW
  refine (X1.out _ (HC.out.go HW.out) (HD.out.go HW.out)).mono ?_
  rintro e w1 ⟨rfl,hb1⟩
  have m0:=cell_later hb1 c0
  have m1:=cell_later hb1 c1
  have HW1:=Lib.hid (HW.out.st hb1)
  have hs1:w.heap.size<w1.heap.size:=by have:=hb1.size;omega
  clear c0 c1 hb1 hsW HW
  go_wp2_with (at_make;go_must ((with_reducible refine wpList_mk w1.heap.size 35 _ 1 8 elem_uint Try.underlying61 (l.length+1) ?_ ?_ ?_ ?_ ?_ ?_ ?_ ?_);rotate_left 4;(· rfl);(· rfl);(· exact ⟨by simp,by simp,by omega,by omega,by simp⟩);intro wm hown hbl hszm;(have Hmo:=Lib.hid hown;have Hmb:=Lib.hid hbl;clear hown hbl)))
  have HZ0:=Lib.hid (show (madeCells (Value.int .u64 0).cells ((l.length+1)*1)).toList=(fillO L l.length 0).map encW by
   show (madeCells #[Value.int .u64 0] ((l.length+1)*1)).toList=_
   rw [Nat.mul_one,toList_madeCells_one,fillO_start L _ HZ.out,List.map_replicate])
  go_loopg [18] l.length (fun gg i wr=>∃k:Nat,k≤l.length∧l.length-k≤gg∧i=.int .i64 k∧w1.heap.size<wr.heap.size∧
   Aside (wr.ownsRow w1.heap.size 35 1 (.slice (some ⟨w1.heap.size,0,none⟩) (l.length+1) (l.length+1)) (l.length+1) ((fillO L l.length k).map encW)∧Below w1.heap.size w1 wr))
  case atStart=>exact ⟨0,Nat.zero_le _,by omega,rfl,hszm,by have:=Hmo.out;rw [HZ0.out] at this;exact this,Hmb.out⟩
  case round=>
   obtain ⟨k,hk,hg,rfl,hsz,HA⟩:=hrel
   clear HZ0
   have q0:=cell_later HA.out.2 m0
   have q1:=cell_later HA.out.2 m1
   by_cases hlt:k<l.length
   ·obtain ⟨b,o,hbo,f1⟩:=(HD.out.go (HW1.out.st HA.out.2)).at hlt
    obtain ⟨hw1,hw2,hj,hw3⟩:=HWT.out l[k] (List.getElem_mem hlt)
    have hin:=HM.out l[k] (List.getElem_mem hlt)
    obtain ⟨b2,o2,hao2,j1,j2,j3⟩:=(HC.out.go (HW1.out.st HA.out.2)).edge hj
    rw [←hw3] at j3
    clear j1 j2 hw3
    have hLk:∃x,L[k]? =some x:=⟨_,List.getElem?_eq_getElem (by rw [HL.out];omega)⟩
    obtain ⟨x,hx⟩:=hLk
    have hxb:=HOB.out k x hx
    have hx1:=HS.out k hlt
    rw [hx] at hx1
    have HX1:=Lib.hid hx1
    have x0:0≤x:=hxb.1
    have x1:x+wt g.es l[k]≤4503603922337792:=by
     have:=hxb.2
     have h3:(k:Int)*4294967296≤1048576*4294967296:=Int.mul_le_mul_of_nonneg_right (by omega) (by omega)
     omega
    have i0:0≤l[k]:=hin.1
    have i1:l[k]<(g.es.length:Int):=hin.2
    have k0:(0:Int)≤(k:Int):=by omega
    have k1:(k:Int)<(l.length:Int):=by omega
    have j4:wr.cell? ⟨w1.heap.size,k,none⟩=some (.int .u64 x):=by
     rw [HA.out.1.cellAt k (by omega),List.getElem?_map,fillO_get L _ _ HL.out hk,hx];rfl
    have j5:∃v,wr.cell? ⟨w1.heap.size,k+1,none⟩=some v:=by
     rw [HA.out.1.cellAt (k+1) (by omega),List.getElem?_eq_getElem (by rw [List.length_map,fillO_length L _ _ HL.out hk];omega)]
     exact ⟨_,rfl⟩
    obtain ⟨v5,j5⟩:=j5
    have j6:=HA.out.1.frozenAt (k+1)
    have HST:=Lib.hid (show (wr.setCell ⟨w1.heap.size,k+1,none⟩ (encW (x+wt g.es l[k]))).ownsRow w1.heap.size 35 1 (.slice (some ⟨w1.heap.size,0,none⟩) (l.length+1) (l.length+1)) (l.length+1) ((fillO L l.length (k+1)).map encW) by
     have:=(HA.out.1.stored (k+1) (encW (x+wt g.es l[k]))).1
     rw [←List.map_set,fillO_set L _ _ _ HL.out hlt hx1] at this
     exact this)
    clear hx hx1 hxb hin
    generalize wt g.es l[k]=wv at*
    generalize l[k]=ei at*
    subst hbo hao2
    go_wp2
    go_region
    go_wp2
    go_roundg (l.length-(k+1))
    case measure=>omega
    case rel=>exact ⟨k+1,by omega,by omega,by go_num,by simpa using hsz,HST.out,(HA.out.2.setCell (by simp) _).drew⟩
   ·obtain rfl:k=l.length:=by omega
    go_wp2
    go_ret
    refine ⟨some ⟨w1.heap.size,0,none⟩,l.length+1,by rw [HR.out];simp [HL.out],?_,HW1.out.st HA.out.2,fun h=>by rw [HR.out] at h;(cases h),fun _=>⟨_,_,rfl⟩⟩
    obtain ⟨ao3,cap3,e3,h3⟩:=Cel.of_owns HA.out.1
    cases e3
    rw [HR.out]
    rw [fillO_end L _ HL.out] at h3
    exact h3
def weightG (g:GD) (l:List Int):Option Int:=(offG g l).map fun L=>(L[l.length]?).getD 0
theorem weightG_no {g:GD} {l:List Int} (h:offG g l=none):weightG g l=none:=by unfold weightG;rw [h];rfl
set_option maxHeartbeats 1000000 in
theorem Weight_any (g:GD) (ao bo:Option Addr) (cap cb:Nat) (l:List Int) (w:World) (hl:g.es.length≤9223372036854775807) (hll:l.length≤1048576) (hc:Cel w ao (flat g.es)) (hd:Cel w bo (l.map encI)):
  Calls Try.prog 18 #[.agg #[.int .i64 g.n,.slice ao g.es.length cap],.slice bo l.length cb] w fun e w'=>e=.returned (.tuple #[.int .u64 ((weightG g l).getD 0),.bool (weightG g l).isSome])∧Below w.heap.size w w':=by
 have HC:=Lib.hid hc
 have HD:=Lib.hid hd
 clear hc hd
 have X1:=Lib.hid (fun W h1 h2=>Offsets_any g ao bo cap cb l W hl hll h1 h2)
 have hn:=fun (W:World) (a:Option Addr) (n c:Nat)=>Lib.run_eql_slice_nil (P:=Try.prog) W 61 35 a n c 0 0 Try.underlying61
 cases hr:offG g l with
 |none=>
  have HR:=Lib.hid (weightG_no hr)
  rw [hr] at X1
  generalize weightG g l=r at*
  go_enter Try.func18,Try.ntmps18
  go_wp2_with (go_at_call 32;refine (X1.out _ (HC.out.go (by repeat (first|exact Below.refl _ _|refine Below.al ?_ _|refine Below.dr ?_ _|refine Below.drew ?_|assumption|(refine Below.st ?_ (by assumption))))) (HD.out.go (by repeat (first|exact Below.refl _ _|refine Below.al ?_ _|refine Below.dr ?_ _|refine Below.drew ?_|assumption|(refine Below.st ?_ (by assumption)))))).mono ?_;rintro e w1 ⟨a1,p1,rfl,hc1,hb1,he1,_⟩;obtain ⟨rfl,rfl⟩:=he1 rfl)
  go_ret2
  exact ⟨by rw [HR.out];rfl,by repeat (first|exact Below.refl _ _|refine Below.al ?_ _|refine Below.dr ?_ _|refine Below.drew ?_|assumption|(refine Below.st ?_ (by assumption)))⟩
 |some L=>
  have HL:=Lib.hid (show L.length=l.length+1 by
   unfold offG at hr
   split at hr
   ·cases hr;exact offF_length _ _ _
   ·cases hr)
  have HR:=Lib.hid (show weightG g l=some ((L[l.length]?).getD 0) by unfold weightG;rw [hr];rfl)
  rw [hr] at X1
  clear hr
  generalize weightG g l=r at*
  go_enter Try.func18,Try.ntmps18
  go_wp2_with fail
  refine (X1.out _ (HC.out.go (by repeat (first|exact Below.refl _ _|refine Below.al ?_ _|refine Below.dr ?_ _|refine Below.drew ?_|assumption|(refine Below.st ?_ (by assumption))))) (HD.out.go (by repeat (first|exact Below.refl _ _|refine Below.al ?_ _|refine Below.dr ?_ _|refine Below.drew ?_|assumption|(refine Below.st ?_ (by assumption)))))).mono ?_
  rintro e w1 ⟨a1,p1,rfl,hc1,hb1,_,he1⟩
  obtain ⟨b1,o1,rfl⟩:=he1 (by simp)
  have HB1:=Lib.hid hb1
  have hx:∃x,L[l.length]? =some x:=⟨_,List.getElem?_eq_getElem (by rw [HL.out];omega)⟩
  obtain ⟨x,hx⟩:=hx
  have hcell:w1.cell? ⟨b1,o1+l.length,none⟩=some (.int .u64 x):=by
   obtain ⟨b',o',e',h'⟩:=hc1 l.length (.int .u64 x) (by simp [hx])
   cases e'
   exact h'
  have HX:=Lib.hid hx
  have hn3:l.length<L.length:=by rw [HL.out];omega
  clear hx hc1 he1 hb1
  simp only [Option.getD_some]
  go_wp2
  go_ret2
  exact ⟨by rw [HR.out,HX.out];rfl,by have:=HB1.out;repeat (first|exact Below.refl _ _|refine Below.al ?_ _|refine Below.dr ?_ _|refine Below.drew ?_|assumption|(refine Below.st ?_ (by assumption)))⟩
end Go.Proofs.Yteaaapdjplbljaa
