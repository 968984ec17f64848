/- Walk of tour.Near: the whole of it. What tour.Order and tour.Near give, told by orders; the reference's Count and Tour for the law TourLeast. The reference's far of tours: how far an order is. -/
import Derived.Test.YteaaapdjplbljaaGreatLyS
import Derived.Test.YteaaapdjplbljaaGreatProg
import Derived.Test.YteaaapdjplbljaaGreatLy07
import Derived.Test.YteaaapdjplbljaaGreatLw37
set_option linter.unusedVariables false
set_option linter.unusedSimpArgs false
set_option linter.unnecessarySimpa false
section
namespace Go.Proofs.YteaaapdjplbljaaGreat
open Go Go.Proofs Go.RowKit Go.Shelf Go.Proofs.YteaaapdjplbljaaGreat.Hp Go.Proofs.YteaaapdjplbljaaGreat.Ch Go.Proofs.YteaaapdjplbljaaGreat.To
def bestV (p:Option Nat×Int):Int:=match p.1 with|some b=>(b:Int)|none=>-1
def TrNearPost (es:List EdgeD) (s:Int) (l:List Int) (w:World) (e:Ending) (w':World):Prop:=
 (match tnearF (cmat es (s::s::l)) l.length l.length 0 [] 0 with
 |some q=>∃(a:Option Addr) (c:Nat),e=.returned (.tuple #[.slice a q.1.length c,.int .u64 q.2,.int .i64 0])∧Cel w' a (q.1.map encN)
 |none=>e=.returned (.tuple #[.slice none 0 0,.int .u64 0,.int .i64 9]))∧Below w.heap.size w w'
def nqR (B0:Nat) (v:Value) (n:Nat) (xs:List Value) (j:Nat) (sum d x:Int) (lv:Value) (lb lof B:Nat):Nat→Value→World→Prop
 |0,u,_=>u=v
 |1,u,_=>u=.int .i64 (j:Int)
 |2,u,W=>∃b,u=.slice (some ⟨b,0,none⟩) 1 1∧W.cell? ⟨b,0,none⟩=some (encN j)∧v.ownBlock≠some b∧B≤b
 |3,u,W=>∃g c,u=.slice (some ⟨g,0,none⟩) (n+1) c∧W.ownsRow B0 3 1 (.slice (some ⟨g,0,none⟩) (n+1) c) (n+1) (xs++[encN j])
 |4,u,_=>u=.int .u64 sum
 |5,u,_=>u=.int .u64 d
 |6,u,_=>u=.int .u64 (sum+d)
 |7,u,_=>u=lv
 |8,u,_=>u=.int .i64 (j:Int)
 |9,u,_=>u=.pointer (some ⟨lb,lof+j,none⟩)
 |10,u,_=>u=.int .i64 x
 |11,u,W=>∃g c,u=.slice (some ⟨g,0,none⟩) (n+1) c∧W.ownsRow B0 3 1 (.slice (some ⟨g,0,none⟩) (n+1) c) (n+1) (xs++[encN j])
 |12,u,_=>u=.int .u64 (sum+d)
 |13,u,_=>u=.int .i64 x
 |_,_,_=>True
theorem nqR_go {B0:Nat} {v:Value} {n:Nat} {xs:List Value} {j:Nat} {sum d x:Int} {lv:Value} {lb lof B:Nat}:∀(i:Nat) (u:Value) (w w':World),Below w.heap.size w w'→nqR B0 v n xs j sum d x lv lb lof B i u w→nqR B0 v n xs j sum d x lv lb lof B i u w'
 |0,_,_,_,_,h|1,_,_,_,_,h|4,_,_,_,_,h|5,_,_,_,_,h|6,_,_,_,_,h|7,_,_,_,_,h|8,_,_,_,_,h|9,_,_,_,_,h|10,_,_,_,_,h|12,_,_,_,_,h|13,_,_,_,_,h=>h
 |2,_,_,_,hb,⟨b,h1,h2,h3,h4⟩=>⟨b,h1,cell_later hb h2,h3,h4⟩
 |3,_,_,_,hb,⟨g,c,h1,h2⟩|11,_,_,_,hb,⟨g,c,h1,h2⟩=>⟨g,c,h1,hp_owns_go h2 hb⟩
 |_+14,_,_,_,_,_=>trivial
theorem nqR_off {B0:Nat} {v:Value} {n:Nat} {xs:List Value} {j:Nat} {sum d x:Int} {lv:Value} {lb lof B:Nat}:∀(i:Nat) (u:Value) (w w':World),i≠3→i≠11→OffX (fun k=>v.ownBlock=some k) w w'→nqR B0 v n xs j sum d x lv lb lof B i u w→nqR B0 v n xs j sum d x lv lb lof B i u w'
 |0,_,_,_,_,_,_,h|1,_,_,_,_,_,_,h|4,_,_,_,_,_,_,h|5,_,_,_,_,_,_,h|6,_,_,_,_,_,_,h|7,_,_,_,_,_,_,h|8,_,_,_,_,_,_,h|9,_,_,_,_,_,_,h|10,_,_,_,_,_,_,h|12,_,_,_,_,_,_,h|13,_,_,_,_,_,_,h=>h
 |2,_,_,_,_,_,ho,⟨b,h1,h2,h3,h4⟩=>⟨b,h1,ho.cell h2 h3,h3,h4⟩
 |3,_,_,_,hn,_,_,_=>absurd rfl hn
 |11,_,_,_,_,hn,_,_=>absurd rfl hn
 |_+14,_,_,_,_,_,_,_=>trivial
set_option maxRecDepth 100000 in
set_option maxHeartbeats 4000000 in
theorem trNear_any (hb n:Nat) (es:List EdgeD) (R:List Int) (S:List SC) (ro:List Int) (s:Int) (l:List Int) (ao:Option Addr) (cap:Nat) (w:World) (h:BH w hb n es R S ro) (hc:Cel w ao (l.map encI)) (hl:l.length≤20) (hno:∀v∈s::l,nodeN n v):
  Calls Tryz.prog 22 #[.pointer (some ⟨hb,0,none⟩),.int .i64 s,.slice ao l.length cap] w (TrNearPost es s l w):=by
 have hb1:Below w.heap.size w (w.alloc (Obj.cells #[.int .i64 s] 3)):=Below.of_al _ _
 obtain ⟨a2,c2,w2,hr2,ho2,hb2⟩:=run_appAll (P:=Tryz.prog) (w:=w.alloc (Obj.cells #[.int .i64 s] 3)) 25 25 w.heap.size 3 _ 8 elem_int Tryz.underlying25 (some ⟨w.heap.size,0,none⟩) 1 1 [.int .i64 s] (lit_own1 _ _ _ _ (Nat.le_refl _)) ao l.length cap (l.map encI) (hc.go hb1) (fun u hu=>by obtain ⟨x,_,rfl⟩:=List.mem_map.1 hu;rfl) ⟨by simp,by omega,by omega,hb1.size⟩
 have hc2:Cel w2 a2 ((s::l).map encI):=by
  obtain ⟨a',c',e,h⟩:=Cel.of_owns ho2
  cases e
  exact h
 rw [show 1+l.length=(s::l).length by simp;omega] at hr2
 have HR2:=Lib.hid hr2
 have HB2:=Lib.hid (hb1.trans hb2)
 have HR:=Lib.hid (trRight_ok hb n es R S ro (s::l) a2 c2 w2 (h.go (hb1.trans hb2)) hc2 (by simp;omega) hno)
 have HOF:=Lib.hid (fun W (u:Int) (b:Nat) (hz:Below w.heap.size w W) (hu:nodeN n u) (hx:W.cell? ⟨b,0,none⟩=some (.int .i64 u))=>of_any hb n es R S ro [u] l (some ⟨b,0,none⟩) ao 1 cap W (h.go hz) (fun i x hx2=>by
  match i with
  |0=>cases hx2;exact ⟨b,0,rfl,hx⟩
  |i+1=>simp at hx2) (hc.go hz) (by simp) (by omega) (by intro v hv;obtain rfl:=List.mem_singleton.1 hv;exact hu) (fun v hv=>hno v (List.mem_cons_of_mem _ hv)))
 have HNO:=Lib.hid hno
 have HC:=Lib.hid hc
 have hl2:(l.length:Int)≤20:=by omega
 clear hr2 h hc hc2 ho2 hb2 hb1 hno
 generalize (s::l).length=nn at*
 go_enter Tryz.func22,Tryz.ntmps22
 go_wp2_with (first
  |(at_builtin;refine Lib.wpList_append_run _ rfl _ _ _ _ rfl _ _ rfl rfl _ _ HR2.out ?_)
  |(go_at_call 60;refine HR.out.mono ?_;rintro e w3 ⟨rfl,hb3⟩;(have HB3:=Lib.hid (HB2.out.st hb3));clear hb3))
 obtain ⟨m,hm⟩:∃m,m=l.length:=⟨_,rfl⟩
 have HM:=Lib.hid hm
 go_loopg [1,6,7,27] l.length (fun gg v1 v6 v7 v27 wr=>∃(k u:Nat) (so:List Nat) (sum x1:Int),k≤l.length∧l.length-k≤gg∧v1=.int .i64 x1∧v7=.int .u64 sum∧v27=.int .i64 (k:Int)∧Aside (so.length=k∧nodeN n x1∧(s::s::l).getD u 0=x1)∧Aside (0≤sum∧sum≤422212465065984*(k:Int))∧Aside (tnearF (cmat es (s::s::l)) l.length (l.length-k) u so sum=tnearF (cmat es (s::s::l)) l.length l.length 0 [] 0)∧Aside (wr.ownsRow w.heap.size 3 1 v6 k (so.map encN))∧Aside (Below w.heap.size w wr))
 case atStart=>exact ⟨0,0,[],0,s,Nat.zero_le _,by omega,rfl,rfl,rfl,⟨rfl,HNO.out s (List.mem_cons_self ..),rfl⟩,⟨Int.le_refl _,by simp⟩,rfl,World.ownsRow_nil _ _ _ _,HB3.out⟩
 case round=>
  obtain ⟨k,u,so,sum,x1,hk,hgg,rfl,rfl,rfl,h1,h2,h3,h4,h5⟩:=hrel
  have HSO:=Lib.hid h1.out
  have HSM:=Lib.hid h2.out
  have HNX:=Lib.hid h3.out
  have HOW:=Lib.hid h4.out
  have HB5:=Lib.hid h5.out
  clear h1 h2 h3 h4 h5
  by_cases hlt:k<l.length
  ·have hlt2:(k:Int)<(l.length:Int):=by omega
   have hk0:(0:Int)≤(k:Int):=by omega
   go_upto_region 8 with (go_at_call 65;refine (HOF.out _ x1 wr.heap.size (HB5.out.st (Below.of_al _ _)) HSO.out.2.1 (by go_simp)).mono ?_;intro e w6 hp;(obtain ⟨ra,rc,rfl,hp1,hb6⟩:=of_rows hp);(have HP:=Lib.hid hp1);(have HB6:=Lib.hid hb6);clear hp hp1 hb6)
   obtain ⟨b,o,D,e,c0,hdd⟩:=HP.out 0 (by simp)
   subst e
   rw [Nat.add_zero] at c0
   have HBW:=Lib.hid (((Below.of_al wr (Obj.cells #[.int .i64 x1] 3)).st HB6.out))
   have HOW6:=Lib.hid (hp_owns_go HOW.out HBW.out)
   obtain ⟨a6,c6,e6,h6⟩:=Cel.of_owns HOW6.out
   subst e6
   have HC6:=Lib.hid h6
   have hsl:=HSO.out.1
   have HDC:=Lib.hid (show ∀i,i<l.length→w6.cell? ⟨D,i,none⟩=some (.int .u64 (cmat es (s::s::l) u (i+2)))∧0≤cmat es (s::s::l) u (i+2)∧(cmat es (s::s::l) u (i+2)=4611686018427387904∨cmat es (s::s::l) u (i+2)≤422212465065984) from fun i hi=>by
    have h9:=hdd i hi
    unfold cmat
    rw [HSO.out.2.2,show (s::s::l).getD (i+2) 0=l[i] by simp [List.getD_eq_getElem?_getD,List.getElem?_eq_getElem hi]]
    exact ⟨h9.1,h9.2.in.1,h9.2.2⟩)
   clear h6 hdd
   go_wp2
   go_loopg [12,13,41] l.length (fun gi v12 v13 v41 wq=>∃i:Nat,i≤l.length∧l.length-i≤gi∧v41=.int .i64 (i:Int)∧v12=.int .i64 (bestV (tpickF (fun i=>cmat es (s::s::l) u (i+2)) so i))∧v13=.int .u64 (tpickF (fun i=>cmat es (s::s::l) u (i+2)) so i).2∧wq=w6)
   case atStart=>exact ⟨0,Nat.zero_le _,by omega,rfl,rfl,rfl,rfl⟩
   case round=>
    obtain ⟨i,hi,hgi,rfl,rfl,rfl,rfl⟩:=hrel
    by_cases hli:i<l.length
    ·have hli2:(i:Int)<(l.length:Int):=by omega
     have hi0:(0:Int)≤(i:Int):=by omega
     obtain ⟨y0,y1,y2⟩:=HDC.out i hli
     have HPK:=Lib.hid (show tpickF (fun i=>cmat es (s::s::l) u (i+2)) so (i+1)=if cmat es (s::s::l) u (i+2)<(tpickF (fun i=>cmat es (s::s::l) u (i+2)) so i).2∧i∉so then (some i,cmat es (s::s::l) u (i+2)) else tpickF (fun i=>cmat es (s::s::l) u (i+2)) so i from rfl)
     have HCN:=Lib.hid (containsInt_any (so.map Int.ofNat) (i:Int) a6 c6 wr (by rw [List.length_map];omega) (by rw [encN_map];exact HC6.out))
     rw [List.length_map,mem_cast,hsl] at HCN
     generalize tpickF (fun i=>cmat es (s::s::l) u (i+2)) so i=p at*
     generalize cmat es (s::s::l) u (i+2)=d at*
     by_cases hd:d<p.2
     ·by_cases hin:i∈so
      ·rw [decide_eq_true hin] at HCN
       have HQ:=Lib.hid (show tpickF (fun i=>cmat es (s::s::l) u (i+2)) so (i+1)=p by rw [HPK.out,if_neg (fun h=>h.2 hin)])
       clear hin
       go_wp2_with (go_at_call 68;refine HCN.out.mono ?_;rintro e w8 ⟨rfl,hww⟩;obtain rfl:=hww.symm)
       go_roundg (l.length-(i+1))
       case measure=>omega
       case rel=>exact ⟨i+1,by omega,Nat.le_refl _,by go_num,by rw [HQ.out],by rw [HQ.out],rfl⟩
      ·rw [decide_eq_false hin] at HCN
       have HQ:=Lib.hid (show tpickF (fun i=>cmat es (s::s::l) u (i+2)) so (i+1)=(some i,d) by rw [HPK.out,if_pos ⟨hd,hin⟩])
       clear hin
       go_wp2_with (go_at_call 68;refine HCN.out.mono ?_;rintro e w8 ⟨rfl,hww⟩;obtain rfl:=hww.symm)
       go_roundg (l.length-(i+1))
       case measure=>omega
       case rel=>exact ⟨i+1,by omega,Nat.le_refl _,by go_num,by rw [HQ.out];rfl,by rw [HQ.out],rfl⟩
     ·have HQ:=Lib.hid (show tpickF (fun i=>cmat es (s::s::l) u (i+2)) so (i+1)=p by rw [HPK.out,if_neg (fun h=>hd h.1)])
      have hd2:decide (d<p.2)=false:=by simpa using hd
      go_wp2_with (go_at_call 68;refine HCN.out.mono ?_;rintro e w8 ⟨rfl,hww⟩;obtain rfl:=hww.symm)
      go_roundg (l.length-(i+1))
      case measure=>omega
      case rel=>exact ⟨i+1,by omega,Nat.le_refl _,by go_num,by rw [HQ.out],by rw [HQ.out],rfl⟩
    ·obtain rfl:i=l.length:=by omega
     have HPS:=Lib.hid (pick_spec (fun i=>cmat es (s::s::l) u (i+2)) so l.length)
     have HST:=Lib.hid (show tnearF (cmat es (s::s::l)) l.length l.length 0 [] 0=(match (tpickF (fun i=>cmat es (s::s::l) u (i+2)) so l.length).1 with
      |some b=>tnearF (cmat es (s::s::l)) l.length (l.length-(k+1)) (b+2) (so++[b]) (sum+cmat es (s::s::l) u (b+2))
      |none=>none) from HNX.out.symm.trans (by rw [show l.length-k=l.length-(k+1)+1 by omega];rfl))
     generalize tpickF (fun i=>cmat es (s::s::l) u (i+2)) so l.length=p at*
     obtain ⟨p1,p2⟩:=p
     cases p1 with
     |none=>
      have HQ:=Lib.hid (show tnearF (cmat es (s::s::l)) l.length l.length 0 [] 0=none from HST.out)
      have hbe:(bestV (none,p2)== -1)=true:=rfl
      clear HST HPS
      go_wp2
      refine bodyPost_ret (v:=.tuple #[.slice none 0 0,.int .u64 0,.int .i64 9]) (by simp [results,Tryz.results22,go_sem];try rfl) rfl ?_
      unfold TrNearPost
      rw [HQ.out]
      exact ⟨rfl,HB5.out.st HBW.out⟩
     |some bst=>
      obtain ⟨-,hb9,hb10,hb11,hb12⟩:=HPS.out
      simp only at hb11
      obtain ⟨lb,lof,el,hlc⟩:=(HC.out.go (HB5.out.st HBW.out)).at hb9
      have HLV:=Lib.hid (show (Value.slice ao l.length cap)=.slice (some ⟨lb,lof,none⟩) l.length cap by rw [el])
      have HLC:=Lib.hid hlc
      have HLB:=Lib.hid (show lb<w.heap.size from by
       obtain ⟨b',o',e',h9⟩:=HC.out.at hb9
       rw [el] at e'
       cases e'
       exact World.block_lt_of_cell? _ _ h9)
      obtain ⟨xs,hxs⟩:∃xs,xs=l[bst]:=⟨_,rfl⟩
      rw [←hxs] at HLC
      have HXS:=Lib.hid hxs
      have HOR:=Lib.hid HOW6.out
      have HOZ:=Lib.hid (fun k hk=>(own_lt HOW6.out k hk).2)
      have HWZ:=Lib.hid (show w.heap.size≤wr.heap.size from (HB5.out.st HBW.out).size)
      have hd9:=HDC.out bst hb9
      rw [←hb11] at hd9
      have hsm:=HSM.out
      have hp2:p2≤422212465065984:=by rcases hd9.2.2 with h9|h9<;>omega
      have hp0:=hd9.2.1
      have hw3:IntKind.u64.wrap (sum+p2)=sum+p2:=by rw [IntKind.wrap_u64];omega
      have hbl:(0:Int)≤(bst:Int)∧(bst:Int)<(l.length:Int):=by omega
      have HP2:=Lib.hid (And.intro hp0 (And.intro hp2 hb11))
      have HBS:=Lib.hid (And.intro hb9 hb10)
      have hbe:(((bst:Int))== -1)=false:=by rw [beq_eq_false_iff_ne];omega
      have hbv:bestV (some bst,p2)=(bst:Int):=rfl
      obtain ⟨lv,hlv⟩:∃lv,lv=Value.slice ao l.length cap:=⟨_,rfl⟩
      rw [←hlv] at HLV ⊢
      rw [hbv]
      clear HPS hb12 hsm hd9 hlc hxs hbv hb10 hb11 hp0 hp2 el
      go_upto_region 16 with (fail)
      refine wp_region_anyX 14 rfl (nqR w.heap.size (.slice a6 k c6) k (so.map encN) bst sum p2 xs lv lb lof wr.heap.size) 3 (by decide) (fun j=>(Value.slice a6 k c6).ownBlock=some j) (by kernel_rfl) (by kernel_rfl) nqR_go (fun i v w w' h1 h2=>nqR_off i v w w' h1 (fun e=>by subst e;exact absurd h2 (by decide))) ?hopa ?henda
      case hopa=>
       refine ⟨?_,?_,?_,?_,?_,?_,?_,?_,?_,?_,?_,?_,?_,?_,trivial⟩
       ·intro act w' hbe hw0 hd ho KK hK
        have q0:act.tmps.getD 6 undef=.slice a6 k c6:=ho 6 (by kernel_rfl)
        refine .inl ⟨goes_free rfl,?_⟩
        simp [Oper.wp,execOp,Oper.upon,go_sem,Act.eval,q0]
        exact hK _ w' (Below.refl _ _) rfl
       ·intro act w' hbe hw0 hd ho KK hK
        have q0:act.tmps.getD 12 undef=.int .i64 (bst:Int):=ho 12 (by kernel_rfl)
        refine .inl ⟨goes_free rfl,?_⟩
        simp [Oper.wp,execOp,Oper.upon,go_sem,Act.eval,q0]
        exact hK _ w' (Below.refl _ _) rfl
       ·intro act w' hbe hw0 hd ho KK hK
        have q0:act.tmps.getD 61 undef=.int .i64 (bst:Int):=hd 1 (by rfl)
        have z0:=(Array.getD_eq_getD_getElem? (xs:=act.tmps) (i:=61) (d:=undef)).symm.trans q0
        refine .inl ⟨goes_free rfl,?_⟩
        simp [Oper.wp,execOp,Oper.upon,go_sem,Act.eval,q0,z0]
        refine hK _ _ ?_ ?_
        ·exact Below.of_al _ _
        ·exact ⟨w'.heap.size,rfl,by go_simp;rfl,fun e=>absurd (HOZ.out _ e) (by have:=hbe.size;omega),by have:=hbe.size;omega⟩
       ·intro act w' hbe hw0 hd ho KK hK
        have q0:act.tmps.getD 60 undef=.slice a6 k c6:=hd 0 (by rfl)
        obtain ⟨b5,e5,c5,n5,l5⟩:=(hd 2 (by rfl):nqR w.heap.size (.slice a6 k c6) k (so.map encN) bst sum p2 xs lv lb lof wr.heap.size 2 (act.tmps.getD 62 undef) w')
        have hb1:Below wr.heap.size wr w':=hw0 rfl
        obtain ⟨g6,c7,w6,r6,o6,p6,g7,t6,l6⟩:=run_appK (P:=Tryz.prog) 25 25 w.heap.size 3 _ 8 elem_int Tryz.underlying25 (.slice a6 k c6) k (so.map encN) (hp_owns_go HOR.out hb1) ⟨b5,0,none⟩ 1 (encN bst) (gr_one c5) rfl ⟨by omega,by omega,by have:=HWZ.out;have:=hb1.size;omega⟩
        refine .inl ⟨goes_free rfl,?_⟩
        exact Lib.wp_append_run w' (.tmp 60) (.tmp 62) 25 25 rfl _ _ q0 e5 _ w6 r6 (hK _ w6 (gr_off g7) ⟨g6,c7,rfl,o6⟩)
       ·intro act w' hbe hw0 hd ho KK hK
        have q0:act.tmps.getD 7 undef=.int .u64 sum:=ho 7 (by kernel_rfl)
        refine .inl ⟨goes_free rfl,?_⟩
        simp [Oper.wp,execOp,Oper.upon,go_sem,Act.eval,q0]
        exact hK _ w' (Below.refl _ _) rfl
       ·intro act w' hbe hw0 hd ho KK hK
        have q0:act.tmps.getD 13 undef=.int .u64 p2:=ho 13 (by kernel_rfl)
        refine .inl ⟨goes_free rfl,?_⟩
        simp [Oper.wp,execOp,Oper.upon,go_sem,Act.eval,q0]
        exact hK _ w' (Below.refl _ _) rfl
       ·intro act w' hbe hw0 hd ho KK hK
        have q0:act.tmps.getD 64 undef=.int .u64 sum:=hd 4 (by rfl)
        have q1:act.tmps.getD 65 undef=.int .u64 p2:=hd 5 (by rfl)
        refine .inl ⟨goes_free rfl,?_⟩
        simp [Oper.wp,execOp,Oper.upon,go_sem,Act.eval,q0,q1,hw3]
        exact hK _ w' (Below.refl _ _) rfl
       ·intro act w' hbe hw0 hd ho KK hK
        have q0:act.tmps.getD 2 undef=lv:=ho 2 (by kernel_rfl)
        refine .inl ⟨goes_free rfl,?_⟩
        simp [Oper.wp,execOp,Oper.upon,go_sem,Act.eval,q0]
        exact hK _ w' (Below.refl _ _) rfl
       ·intro act w' hbe hw0 hd ho KK hK
        have q0:act.tmps.getD 12 undef=.int .i64 (bst:Int):=ho 12 (by kernel_rfl)
        refine .inl ⟨goes_free rfl,?_⟩
        simp [Oper.wp,execOp,Oper.upon,go_sem,Act.eval,q0]
        exact hK _ w' (Below.refl _ _) rfl
       ·intro act w' hbe hw0 hd ho KK hK
        have q0:act.tmps.getD 67 undef=lv:=hd 7 (by rfl)
        have q1:act.tmps.getD 68 undef=.int .i64 (bst:Int):=hd 8 (by rfl)
        rw [HLV.out] at q0
        refine .inl ⟨goes_free rfl,?_⟩
        simp [Oper.wp,execOp,Oper.upon,go_sem,Act.eval,q0,q1,hbl]
        exact hK _ w' (Below.refl _ _) rfl
       ·intro act w' hbe hw0 hd ho KK hK
        have q0:act.tmps.getD 69 undef=.pointer (some ⟨lb,lof+bst,none⟩):=hd 9 (by rfl)
        have f0:=hbe.cell HLC.out (fun e=>by have h9:w.heap.size≤lb:=(own_lt HOR.out lb e).1;have:=HLB.out;omega)
        refine .inl ⟨goes_free rfl,?_⟩
        simp [Oper.wp,execOp,Oper.upon,go_sem,Act.eval,q0,f0]
        exact hK _ w' (Below.refl _ _) rfl
       ·intro act w' hbe hw0 hd ho KK hK
        obtain ⟨g9,c9,q0,o9⟩:=(hd 3 (by rfl):nqR w.heap.size (.slice a6 k c6) k (so.map encN) bst sum p2 xs lv lb lof wr.heap.size 3 (act.tmps.getD 63 undef) w')
        refine .inl ⟨goes_free rfl,?_⟩
        simp [Oper.wp,execOp,Oper.upon,go_sem,Act.eval,q0]
        exact hK _ w' (Below.refl _ _) ⟨g9,c9,(Array.getD_eq_getD_getElem? (xs:=act.tmps) (i:=63) (d:=undef)).symm.trans q0,o9⟩
       ·intro act w' hbe hw0 hd ho KK hK
        have q0:act.tmps.getD 66 undef=.int .u64 (sum+p2):=hd 6 (by rfl)
        refine .inl ⟨goes_free rfl,?_⟩
        simp [Oper.wp,execOp,Oper.upon,go_sem,Act.eval,q0]
        exact hK _ w' (Below.refl _ _) rfl
       ·intro act w' hbe hw0 hd ho KK hK
        have q0:act.tmps.getD 70 undef=.int .i64 xs:=hd 10 (by rfl)
        refine .inl ⟨goes_free rfl,?_⟩
        simp [Oper.wp,execOp,Oper.upon,go_sem,Act.eval,q0]
        exact hK _ w' (Below.refl _ _) rfl
      case henda=>
       intro vs act w7 hb7 hR hon hoff hact
       obtain ⟨g,c,e11,o11⟩:=hR 11 (by decide)
       have e12:vs 12=.int .u64 (sum+p2):=hR 12 (by decide)
       have e13:vs 13=.int .i64 xs:=hR 13 (by decide)
       have HO7:=Lib.hid o11
       have HB7:=Lib.hid ((HB5.out.st HBW.out).trans (hb7.below HWZ.out (fun k h=>(own_lt HOR.out k h).1)))
       rw [hact]
       simp only [puts,dstAt,List.getElem?_cons_zero,List.getElem?_cons_succ,Option.bind_some,Option.getD_some,Act.put,List.length_cons,List.length_nil,Nat.reduceAdd,List.setIfInBounds_toArray,List.set_cons_zero,List.set_cons_succ]
       rw [e11,e12,e13]
       clear hR hon hoff hact hb7 o11 e11 e12 e13
       generalize vs 0=a0
       generalize vs 1=a1
       generalize vs 2=a2
       generalize vs 3=a3
       generalize vs 4=a4
       generalize vs 5=a5
       generalize vs 6=a6
       generalize vs 7=a7
       generalize vs 8=a8
       generalize vs 9=a9
       generalize vs 10=a10
       go_wp2
       go_roundg (l.length-(k+1))
       case measure=>omega
       case rel=>exact ⟨k+1,bst+2,so++[bst],sum+p2,xs,by omega,Nat.le_refl _,rfl,rfl,by go_num,⟨by rw [List.length_append,List.length_singleton,HSO.out.1],HNO.out xs (List.mem_cons_of_mem _ (by rw [HXS.out];exact List.getElem_mem _)),by rw [HXS.out];simp [List.getD_eq_getElem?_getD,List.getElem?_eq_getElem HBS.out.1]⟩,⟨by have:=HSM.out.1;have:=HP2.out.1;omega,by have:=HSM.out.2;have:=HP2.out.2.1;omega⟩,by rw [HP2.out.2.2];exact HST.out.symm,by rw [List.map_append];exact HO7.out,HB7.out⟩
  ·obtain rfl:k=l.length:=by omega
   have HQ:=Lib.hid (show tnearF (cmat es (s::s::l)) l.length l.length 0 [] 0=some (so,sum) by
    rw [←HNX.out,Nat.sub_self]
    rfl)
   obtain ⟨a6,c6,e6,h6⟩:=Cel.of_owns HOW.out
   subst e6
   have HC6:=Lib.hid h6
   have HSL:=Lib.hid HSO.out.1
   clear h6
   go_wp2
   refine bodyPost_ret (v:=.tuple #[.slice a6 l.length c6,.int .u64 sum,.int .i64 0]) (by simp [results,Tryz.results22,go_sem];try rfl) rfl ?_
   unfold TrNearPost
   rw [HQ.out]
   exact ⟨⟨a6,c6,by rw [HSL.out],HC6.out⟩,HB5.out⟩
end Go.Proofs.YteaaapdjplbljaaGreat
end
section
namespace Go.Proofs.YteaaapdjplbljaaGreat
open Go Go.Proofs Go.RowKit Go.Shelf Go.Proofs.YteaaapdjplbljaaGreat.Hp Go.Proofs.YteaaapdjplbljaaGreat.Ch Go.Proofs.YteaaapdjplbljaaGreat.To
def OrdQ (m:Nat) (q:List Nat):Prop:=q.length=m∧(∀i∈q,i<m)∧q.Nodup
theorem tail_bnd {es:List EdgeD} {s t:Int} {l:List Int} (hD:∀x∈s::t::l,∀y∈s::t::l,DistT es x y) {q:List Nat} (hq:OrdQ l.length q) (hb:tailB (cmat es (s::t::l)) 0 q=true):
  0≤tailC (cmat es (s::t::l)) 0 q∧tailC (cmat es (s::t::l)) 0 q≤422212465065984*((l.length:Int)+1):=by
 have h1:=(ord_ok (es:=es) (all:=s::t::l) q 0).2 hb
 have h2:=legSum_in h1 (by
  have:=dist_legs hD (ord_mem (all:=s::t::l) (u:=0) (q:=q) (by simp) (by simp) (fun i hi=>by have:=hq.2.1 i hi;simp;omega))
  rw [ordL_length] at this
  exact this)
 rw [ord_sum] at h2
 have h3:q.length=l.length:=hq.1
 rw [h3] at h2
 have e:((l.length+1:Nat):Int)=(l.length:Int)+1:=by omega
 rw [e] at h2
 exact h2
theorem TrOrdPost.split {es:List EdgeD} {s t:Int} {l:List Int} {w w':World} {e:Ending} (h:TrOrdPost es (s::t::l) l.length w e w') (hl:l.length≤7):
  (∀x∈s::t::l,∀y∈s::t::l,DistT es x y)∧Below w.heap.size w w'∧
  ((∃(q:List Nat) (a:Option Addr) (c:Nat),OrdQ l.length q∧tailB (cmat es (s::t::l)) 0 q=true∧(∀p,OrdQ l.length p→tailB (cmat es (s::t::l)) 0 p=true→tailC (cmat es (s::t::l)) 0 q≤tailC (cmat es (s::t::l)) 0 p)∧
    e=.returned (.tuple #[.slice a l.length c,.int .u64 (tailC (cmat es (s::t::l)) 0 q),.int .i64 0])∧Cel w' a (q.map encN))∨
   ((∀p,OrdQ l.length p→tailB (cmat es (s::t::l)) 0 p=false)∧e=.returned (.tuple #[.slice none 0 0,.int .u64 0,.int .i64 9]))):=by
 obtain ⟨hD,h2,h3⟩:=h
 have hA:=dist_all hD
 obtain ⟨b1,b2⟩:=best_spec (c:=cmat es (s::t::l)) (m:=l.length) (fun i j hi hj=>cmat_pos (all:=s::t::l) hD i j (by simp;omega) (by simp;omega))
 refine ⟨hA,h3,?_⟩
 rcases h2 with ⟨k1,a,c,rfl,k2⟩|⟨k1,rfl⟩
 ·obtain ⟨q,q1,q2,q3,q4,q5⟩:=b2 k1
  refine .inl ⟨q,a,c,⟨q1,q2,q3⟩,q4,fun p hp hb=>?_,?_,?_⟩
  ·have:=b1 p hp.1 hp.2.1 hp.2.2 hb
   rwa [q5] at this
  ·rw [q5,q1]
  ·rw [q5,encN_map] at k2
   exact k2
 ·refine .inr ⟨fun p hp=>?_,rfl⟩
  cases hb:tailB (cmat es (s::t::l)) 0 p with
  |false=>rfl
  |true=>
   have h4:=b1 p hp.1 hp.2.1 hp.2.2 hb
   have h5:=(tail_bnd hA hp hb).2
   omega
theorem near_cong {c c':Nat→Nat→Int} {m:Nat} (h:∀u i,u≠1→c u (i+2)=c' u (i+2)):∀(r u:Nat) (out:List Nat) (sum:Int),u≠1→tnearF c m r u out sum=tnearF c' m r u out sum
 |0,_,_,_,_=>rfl
 |r+1,u,out,sum,hu=>by
  unfold tnearF
  have e:(fun i=>c u (i+2))=(fun i=>c' u (i+2)):=funext fun i=>h u i hu
  rw [e]
  cases (tpickF (fun i=>c' u (i+2)) out m).1 with
  |none=>rfl
  |some b=>
   show tnearF c m r (b+2) (out++[b]) (sum+c u (b+2))=tnearF c' m r (b+2) (out++[b]) (sum+c' u (b+2))
   rw [h u b hu]
   exact near_cong h r (b+2) _ _ (by omega)
def lastN (s:Int) (l:List Int) (p:List Nat):Int:=p.getLast?.elim s (fun i=>l.getD i 0)
theorem TrNearPost.split {es:List EdgeD} {s:Int} (t:Int) {l:List Int} {w w':World} {e:Ending} (h:TrNearPost es s l w e w'):
  Below w.heap.size w w'∧((∃(p:List Nat) (a:Option Addr) (c:Nat) (d:Int),OrdQ l.length p∧e=.returned (.tuple #[.slice a l.length c,.int .u64 d,.int .i64 0])∧Cel w' a (p.map encN)∧
    (distV es (lastN s l p) t<4611686018427387904→tailB (cmat es (s::t::l)) 0 p=true∧d+distV es (lastN s l p) t=tailC (cmat es (s::t::l)) 0 p))∨
   e=.returned (.tuple #[.slice none 0 0,.int .u64 0,.int .i64 9])):=by
 obtain ⟨h1,h2⟩:=h
 refine ⟨h2,?_⟩
 have hc:tnearF (cmat es (s::s::l)) l.length l.length 0 [] 0=tnearF (cmat es (s::t::l)) l.length l.length 0 [] 0:=near_cong (fun u i hu=>by
  unfold cmat
  match u with
  |0=>rfl
  |1=>exact absurd rfl hu
  |u+2=>rfl) _ _ _ _ (by omega)
 rw [hc] at h1
 cases hq:tnearF (cmat es (s::t::l)) l.length l.length 0 [] 0 with
 |none=>
  rw [hq] at h1
  exact .inr h1
 |some q=>
  rw [hq] at h1
  obtain ⟨a,c,rfl,h4⟩:=h1
  obtain ⟨p,p1,p2,p3,p4,p5⟩:=near_spec _ _ _ _ _ hq
  rw [List.nil_append] at p4
  refine .inl ⟨p,a,c,q.2,⟨p1,fun i hi=>(p2 i hi).1,p3⟩,by rw [p4,p1],by rw [←p4];exact h4,fun hlt=>?_⟩
  have hl:cmat es (s::t::l) (p.getLast?.elim 0 (· +2)) 1=distV es (lastN s l p) t:=by
   unfold cmat lastN
   cases p.getLast? with
   |none=>rfl
   |some b=>rfl
  obtain ⟨t1,t2⟩:=p5 _ hl hlt
  exact ⟨t1,by rw [t2,Int.zero_add]⟩
theorem tour_fix {n:Nat} {es:List EdgeD} {all L:List Int} (m:Nat) (hL:L.length=m+2) (hg:rightG ⟨(n:Int),es⟩=0) (hn:n≤12) (hes:es.length≤40) (hm:m≤20) (hno:∀t∈L,nodeN n t) (hA:∀u v w,arcG es u v w→1≤w) (hD:∀x∈all,∀y∈all,DistT es x y) (hin:∀x∈L,x∈all):
  ∃(gv:Int) (gb:Bool),(gb=true→legsOK (distV es) L (m+1)∧gv=legSum (distV es) L (m+1))∧(legsOK (distV es) L (m+1)→gb=true)∧
   ∀(ao lo:Option Addr) (cap lc:Nat) (W:World),Cel W ao (flat es)→Cel W lo (L.map encI)→Calls Tryz.prog 28 #[.agg #[.int .i64 (n:Int),.slice ao es.length cap],.slice lo (m+2) lc] W fun e w'=>e=.returned (.tuple #[.int .u64 gv,.bool gb])∧Below W.heap.size W w':=by
 have e1:L.length-1=m+1:=by omega
 have hlg:=dist_legs hD hin
 have hc:=fun (ao lo:Option Addr) (cap lc:Nat) (W:World) (h1:Cel W ao (flat es)) (h2:Cel W lo (L.map encI))=>refTour_any n es ao cap lo lc L W hg hn hes h1 h2 (by omega) hno hA hlg
 unfold RefTour at hc
 rw [e1,hL] at hc
 by_cases hok:legsOK (distV es) L (m+1)
 ·refine ⟨legSum (distV es) L (m+1),true,fun _=>⟨hok,rfl⟩,fun _=>rfl,fun ao lo cap lc W h1 h2=>(hc ao lo cap lc W h1 h2).mono ?_⟩
  rintro e w' ⟨⟨-,rfl⟩|⟨⟨j,h3,h4⟩,-⟩,hb⟩
  ·exact ⟨rfl,hb⟩
  ·have:=hok j h3
   omega
 ·refine ⟨0,false,(fun h=>by cases h),fun h=>absurd h hok,fun ao lo cap lc W h1 h2=>(hc ao lo cap lc W h1 h2).mono ?_⟩
  rintro e w' ⟨⟨h3,-⟩|⟨-,rfl⟩,hb⟩
  ·exact absurd h3 hok
  ·exact ⟨rfl,hb⟩
def BoxI (x:Int) (v:Value) (W:World):Prop:=∃b,v=.slice (some ⟨b,0,none⟩) 1 1∧W.cell? ⟨b,0,none⟩=some (.int .i64 x)
theorem BoxI.go {x:Int} {v:Value} {W W':World} (h:BoxI x v W) (hb:Below W.heap.size W W'):BoxI x v W':=let ⟨b,h1,h2⟩:=h;⟨b,h1,cell_later hb h2⟩
theorem BoxI.cel {x:Int} {v:Value} {W:World} (h:BoxI x v W):∃a,v=.slice a ([x]:List Int).length 1∧Cel W a (([x]:List Int).map encI):=by
 obtain ⟨b,rfl,h2⟩:=h
 refine ⟨_,rfl,fun i u hu=>?_⟩
 match i with
 |0=>cases hu;exact ⟨b,0,rfl,h2⟩
 |i+1=>simp at hu
def ListI (n:Nat) (l:List Int) (v:Value) (W:World):Prop:=∃a c,v=.slice a n c∧Cel W a (l.map encI)
theorem ListI.go {n:Nat} {l:List Int} {v:Value} {W W':World} (h:ListI n l v W) (hb:Below W.heap.size W W'):ListI n l v W':=let ⟨a,c,h1,h2⟩:=h;⟨a,c,h1,h2.go hb⟩
def byL (s:Int) (l:List Int) (q:List Nat):List Int:=s::q.map (fun i=>l.getD i 0)
theorem byL_ord (s t:Int) (l:List Int) (q:List Nat):byL s l q++[t]=ordL (s::t::l) 0 q:=by
 show s::(q.map (fun i=>l.getD i 0)++[t])=_
 rfl
end Go.Proofs.YteaaapdjplbljaaGreat
end
section
namespace Go.Proofs.YteaaapdjplbljaaGreat
open Go Go.Proofs Go.RowKit Go.Shelf Go.Proofs.YteaaapdjplbljaaGreat.Hp Go.Proofs.YteaaapdjplbljaaGreat.Ch Go.Proofs.YteaaapdjplbljaaGreat.To
def ftR (G V T:Value) (t gv:Int) (gb:Bool) (n:Nat) (L:List Int):Nat→Value→World→Prop
 |0,v,_=>v=G
 |1,v,_=>v=V
 |2,v,_=>v=T
 |3,v,W=>∃b,v=.slice (some ⟨b,0,none⟩) 1 1∧W.cell? ⟨b,0,none⟩=some (.int .i64 t)∧V.ownBlock≠some b
 |4,v,W=>ListI n L v W
 |5,v,_=>v=.tuple #[.int .u64 gv,.bool gb]
 |6,v,_|8,v,_=>v=.int .u64 gv
 |_,v,_=>v=.bool gb
theorem ftR_go {G V T:Value} {t gv:Int} {gb:Bool} {n:Nat} {L:List Int} (i:Nat) (v:Value) (w w':World) (hb:Below w.heap.size w w') (h:ftR G V T t gv gb n L i v w):ftR G V T t gv gb n L i v w':=by
 unfold ftR at h ⊢
 split at h
 case h_4=>obtain ⟨b,h1,h2,h3⟩:=h;exact ⟨b,h1,cell_later hb h2,h3⟩
 case h_5=>exact h.go hb
 all_goals exact h
theorem ftR_off {G V T:Value} {t gv:Int} {gb:Bool} {n:Nat} {L:List Int} (i:Nat) (v:Value) (w w':World) (hi:i≠4) (ho:OffX (fun k=>V.ownBlock=some k) w w') (h:ftR G V T t gv gb n L i v w):ftR G V T t gv gb n L i v w':=by
 unfold ftR at h ⊢
 split at h
 case h_4=>obtain ⟨b,h1,h2,h3⟩:=h;exact ⟨b,h1,ho.cell h2 h3,h3⟩
 case h_5=>exact absurd rfl hi
 all_goals exact h
def FarPost (tb:Bool) (tc:Int) (w:World) (e:Ending) (w':World):Prop:=∃fv:Int,(tb=true→fv=tc)∧e=.returned (.tuple #[.int .u64 fv,.bool tb])∧Below w.heap.size w w'
def e9of (tb:Bool) (tc:Int) (gb:Bool) (gv:Int):Prop:=tb=gb∧(gb=true→gv=tc)
set_option maxRecDepth 100000 in
set_option maxHeartbeats 4000000 in
theorem refFar34_any (n:Nat) (es:List EdgeD) (ao lo qa:Option Addr) (cap lc qc:Nat) (s t:Int) (l:List Int) (q:List Nat) (w:World) (hg:rightG ⟨(n:Int),es⟩=0) (hn:n≤12) (hes:es.length≤40) (hl:l.length≤7) (hq:OrdQ l.length q) (hno:∀v∈s::t::l,nodeN n v) (hA:∀u v w,arcG es u v w→1≤w) (hD:∀x∈s::t::l,∀y∈s::t::l,DistT es x y)
  (hc:Cel w ao (flat es)) (hlc:Cel w lo (l.map encI)) (hqc:Cel w qa (q.map encN)):
  Calls Tryz.prog 70 #[.agg #[.int .i64 (n:Int),.slice ao es.length cap],.int .i64 s,.slice lo l.length lc,.slice qa l.length qc,.int .i64 t] w (FarPost (tailB (cmat es (s::t::l)) 0 q) (tailC (cmat es (s::t::l)) 0 q) w):=by
 obtain ⟨W,hW⟩:∃W,W=w.alloc (Obj.cells #[.int .i64 (n:Int),.slice ao es.length cap] 24):=⟨_,rfl⟩
 have hbw:Below w.heap.size w W:=by rw [hW];exact Below.of_al _ _
 have c0:W.cell? ⟨w.heap.size,0,none⟩=some (.int .i64 (n:Int)):=by rw [hW];go_simp
 have c1:W.cell? ⟨w.heap.size,1,none⟩=some (.slice ao es.length cap):=by rw [hW];go_simp
 have HW:=Lib.hid hW
 have HB:=Lib.hid hbw
 have HLO:=Lib.hid (hlc.go hbw)
 have HQC:=Lib.hid (hqc.go hbw)
 have HES:=Lib.hid (hc.go hbw)
 have HQ:=Lib.hid hq
 have hql:q.length=l.length:=hq.1
 obtain ⟨gv,gb,g1,g2,hT⟩:=tour_fix (n:=n) (es:=es) (all:=s::t::l) (L:=ordL (s::t::l) 0 q) l.length (by rw [ordL_length,hql]) hg hn hes (by omega) (fun x hx=>hno x (ord_mem (all:=s::t::l) (u:=0) (q:=q) (by simp) (by simp) (fun i hi=>by have:=hq.2.1 i hi;simp;omega) x hx)) hA hD (ord_mem (all:=s::t::l) (u:=0) (q:=q) (by simp) (by simp) (fun i hi=>by have:=hq.2.1 i hi;simp;omega))
 have HE:=Lib.hid (show e9of (tailB (cmat es (s::t::l)) 0 q) (tailC (cmat es (s::t::l)) 0 q) gb gv from by
  have h1:=ord_ok (es:=es) (all:=s::t::l) q 0
  have h2:=ord_sum (es:=es) (all:=s::t::l) q 0
  rw [hql] at h1 h2
  cases hb:gb with
  |true=>
   obtain ⟨h3,h4⟩:=g1 hb
   exact ⟨h1.1 h3,fun _=>h4.trans h2⟩
  |false=>
   refine ⟨?_,fun h=>by cases h⟩
   cases hb2:tailB (cmat es (s::t::l)) 0 q with
   |false=>rfl
   |true=>
    have:=g2 (h1.2 hb2)
    rw [hb] at this
    cases this)
 have HT:=Lib.hid hT
 have hl7:(q.length:Int)≤7:=by omega
 have hqn:q.length≤7:=by omega
 rw [←hql] at HT
 have HJL:=Lib.hid (show ∀j∈q,j<l.length∧(j:Int)<(l.length:Int) from fun j hj=>⟨hq.2.1 j hj,by have:=hq.2.1 j hj;omega⟩)
 rw [←hql]
 have HLL:=Lib.hid hql.symm
 generalize tailB (cmat es (s::t::l)) 0 q=tb at*
 generalize tailC (cmat es (s::t::l)) 0 q=tc at*
 have hll:(Value.slice lo q.length lc)=Value.slice lo q.length lc:=rfl
 clear hW hbw hc hlc hqc hg hn hes hno hA hD hq g1 g2 hT hll hql hl
 go_enter Tryz.func70,Tryz.ntmps70
 go_upto_region 1 with (fail)
 rw [←HW.out]
 have HW6:=Lib.hid (Below.of_al W (Obj.cells #[.int .i64 s] 3))
 have HOWN:=Lib.hid (lit_own1 W (.int .i64 s) 3 W.heap.size (Nat.le_refl _))
 go_wp2
 generalize W.alloc (Obj.cells #[.int .i64 s] 3)=W6 at*
 go_loopg [12,13] q.length (fun gg v12 v13 wr=>∃i:Nat,i≤q.length∧q.length-i≤gg∧v13=.int .i64 (i:Int)∧Aside (wr.ownsRow W.heap.size 3 1 v12 (i+1) ((byL s l (q.take i)).map encI))∧Aside (Below W.heap.size W wr))
 case atStart=>exact ⟨0,Nat.zero_le _,by omega,rfl,HOWN.out,HW6.out⟩
 case round=>
  obtain ⟨i,hi,hgg,rfl,h1,h2⟩:=hrel
  have HOB:=Lib.hid h1.out
  have HBR:=Lib.hid h2.out
  clear h1 h2
  by_cases hlt:i<q.length
  ·have hlt2:(i:Int)<(q.length:Int):=by omega
   have hi0:(0:Int)≤(i:Int):=by omega
   obtain ⟨j,hj⟩:∃j,j=q[i]:=⟨_,rfl⟩
   have hjl:=HJL.out j (by rw [hj];exact List.getElem_mem hlt)
   obtain ⟨qb,qo,qe,qc0⟩:=(HQC.out.go HBR.out) i (encN j) (by rw [List.getElem?_map,List.getElem?_eq_getElem hlt,hj];rfl)
   have qc:wr.cell? ⟨qb,qo+i,none⟩=some (.int .i64 (j:Int)):=qc0
   clear qc0
   have hj0:(0:Int)≤(j:Int):=by omega
   have hj1:(j:Int)<(q.length:Int):=by have:=HLL.out;have:=hjl.2;omega
   obtain ⟨lb,lof,le,lc8⟩:=(HLO.out.go HBR.out).at hjl.1
   obtain ⟨x,hx⟩:∃x,x=l[j]:=⟨_,rfl⟩
   have lc9:wr.cell? ⟨lb,lof+j,none⟩=some (.int .i64 x):=by rw [hx];exact lc8
   have HBY:=Lib.hid (show byL s l (q.take i)++[x]=byL s l (q.take (i+1)) by
    unfold byL
    rw [List.take_succ_eq_append_getElem hlt,List.map_append,hx,←hj]
    simp [List.getD_eq_getElem?_getD,List.getElem?_eq_getElem hjl.1])
   obtain ⟨g6,c6,w6,r6,o6,p6,g7,t6,l6⟩:=run_appK (P:=Tryz.prog) 25 25 W.heap.size 3 _ 8 elem_int Tryz.underlying25 u12 (i+1) ((byL s l (q.take i)).map encI) (hp_owns_go HOB.out (Below.of_al wr (Obj.cells #[.int .i64 x] 3))) ⟨wr.heap.size,0,none⟩ 1 (.int .i64 x) (gr_one (by go_simp)) rfl ⟨by omega,by omega,by have:=HBR.out.size;simp;omega⟩
   have HR6:=Lib.hid r6
   have HO6:=Lib.hid o6
   have HB6:=Lib.hid (HBR.out.trans (((Below.of_al wr (Obj.cells #[.int .i64 x] 3)).mono HBR.out.size).trans ((gr_off g7).below (by have:=HBR.out.size;simp;omega) (fun k h=>(own_lt HOB.out k h).1))))
   subst qe
   subst le
   clear r6 o6 p6 g7 t6 l6 lc8 hx hjl hj HOB
   go_wp2_with (at_builtin;refine Lib.wpList_append_run _ rfl _ _ _ _ rfl _ _ rfl rfl _ _ HR6.out ?_)
   go_roundg (q.length-(i+1))
   case measure=>omega
   case rel=>exact ⟨i+1,by omega,Nat.le_refl _,by go_num,by rw [←HBY.out,List.map_append];exact HO6.out,HB6.out⟩
  ·obtain rfl:i=q.length:=by omega
   rw [List.take_length] at HOB
   clear HOWN HW6
   generalize u12=vb at*
   have HWZ:=Lib.hid HBR.out.size
   have HZB:=Lib.hid (fun k hk=>(own_lt HOB.out k hk).2)
   have HZO:=Lib.hid (show ∀k,vb.ownBlock=some k→k≠w.heap.size from fun k hk e=>by
    have h7:=(own_lt HOB.out k hk).1
    have h8:=World.block_lt_of_cell? _ _ c0
    simp only at h8
    omega)
   have y0:=cell_later HBR.out c0
   have y1:=cell_later HBR.out c1
   have HT22:=Lib.hid (fun (a:Option Addr) (c:Nat) (U:World) (hz:OffX (fun k=>vb.ownBlock=some k) wr U) (h:Cel U a ((ordL (s::t::l) 0 q).map encI))=>HT.out ao a cap c U (HES.out.go (HBR.out.trans (hz.below HWZ.out (fun k hk=>(own_lt HOB.out k hk).1)))) h)
   clear HT
   go_upto_region 6 with (fail)
   refine wp_region_anyX 10 rfl (ftR (.agg #[.int .i64 (n:Int),.slice ao es.length cap]) vb (.int .i64 t) t gv gb (q.length+2) (ordL (s::t::l) 0 q)) 4 (by decide) (fun k=>vb.ownBlock=some k) (by kernel_rfl) (by kernel_rfl) ftR_go (fun i v w w' h1 _=>ftR_off i v w w' h1) ?_ ?_
   ·refine ⟨?_,?_,?_,?_,?_,?_,?_,?_,?_,?_,trivial⟩
    ·intro act w' hbe hw0 hd ho KK hK
     have q0:act.tmps.getD 5 undef=.pointer (some ⟨w.heap.size,0,none⟩):=ho 5 (by kernel_rfl)
     have f0:=hbe.cell y0 (fun e=>HZO.out _ e rfl)
     have f1:=hbe.cell y1 (fun e=>HZO.out _ e rfl)
     refine .inl ⟨goes_free rfl,?_⟩
     simp [Oper.wp,execOp,Oper.upon,go_sem,Act.eval,q0,f0,f1]
     exact hK _ w' (Below.refl _ _) rfl
    ·intro act w' hbe hw0 hd ho KK hK
     have q0:act.tmps.getD 12 undef=vb:=ho 12 (by kernel_rfl)
     refine .inl ⟨goes_free rfl,?_⟩
     simp [Oper.wp,execOp,Oper.upon,go_sem,Act.eval,q0]
     exact hK _ w' (Below.refl _ _) rfl
    ·intro act w' hbe hw0 hd ho KK hK
     have q0:act.tmps.getD 4 undef=.int .i64 t:=ho 4 (by kernel_rfl)
     refine .inl ⟨goes_free rfl,?_⟩
     simp [Oper.wp,execOp,Oper.upon,go_sem,Act.eval,q0]
     exact hK _ w' (Below.refl _ _) rfl
    ·intro act w' hbe hw0 hd ho KK hK
     have q0:act.tmps.getD 34 undef=.int .i64 t:=hd 2 (by rfl)
     have z0:=(Array.getD_eq_getD_getElem? (xs:=act.tmps) (i:=34) (d:=undef)).symm.trans q0
     refine .inl ⟨goes_free rfl,?_⟩
     simp [Oper.wp,execOp,Oper.upon,go_sem,Act.eval,q0,z0]
     refine hK _ _ ?_ ?_
     ·exact Below.of_al _ _
     ·exact ⟨w'.heap.size,rfl,by go_simp,fun e=>absurd (HZB.out _ e) (by have:=hbe.size;omega)⟩
    ·intro act w' hbe hw0 hd ho KK hK
     have q0:act.tmps.getD 33 undef=vb:=hd 1 (by rfl)
     obtain ⟨b5,e5,c5,n5⟩:=(hd 3 (by rfl):ftR (.agg #[.int .i64 (n:Int),.slice ao es.length cap]) vb (.int .i64 t) t gv gb (q.length+2) (ordL (s::t::l) 0 q) 3 (act.tmps.getD 35 undef) w')
     have hb1:Below wr.heap.size wr w':=hw0 rfl
     obtain ⟨g6,c6,w6,r6,o6,p6,g7,t6,l6⟩:=run_appK (P:=Tryz.prog) 25 25 W.heap.size 3 _ 8 elem_int Tryz.underlying25 vb (q.length+1) ((byL s l q).map encI) (hp_owns_go HOB.out hb1) ⟨b5,0,none⟩ 1 (.int .i64 t) (gr_one c5) rfl ⟨by omega,by omega,by have:=HWZ.out;have:=hb1.size;omega⟩
     refine .inl ⟨goes_free rfl,?_⟩
     exact Lib.wp_append_run w' (.tmp 33) (.tmp 35) 25 25 rfl _ _ q0 e5 _ w6 r6 (hK _ w6 (gr_off g7) ⟨_,c6,rfl,by have:=Cel.of_owns o6;obtain ⟨a9,c9,e9,h9⟩:=this;cases e9;rw [←byL_ord,List.map_append];exact h9⟩)
    ·intro act w' hbe hw0 hd ho KK hK
     have q0:act.tmps.getD 32 undef=.agg #[.int .i64 (n:Int),.slice ao es.length cap]:=hd 0 (by rfl)
     obtain ⟨a6,c6,e6,h6⟩:ListI (q.length+2) (ordL (s::t::l) 0 q) (act.tmps.getD 36 undef) w':=hd 4 (by rfl)
     refine .inl ⟨goes_free rfl,?_⟩
     simp [Oper.wp,execOp,Oper.upon,go_sem,Act.eval,q0,e6]
     refine (HT22.out a6 c6 w' hbe h6).mono ?_
     rintro e w8 ⟨rfl,k2⟩
     exact hK _ w8 k2 rfl
    ·intro act w' hbe hw0 hd ho KK hK
     have q0:act.tmps.getD 37 undef=.tuple #[.int .u64 gv,.bool gb]:=hd 5 (by rfl)
     refine .inl ⟨goes_free rfl,?_⟩
     simp [Oper.wp,execOp,Oper.upon,go_sem,Act.eval,q0]
     exact hK _ w' (Below.refl _ _) rfl
    ·intro act w' hbe hw0 hd ho KK hK
     have q0:act.tmps.getD 37 undef=.tuple #[.int .u64 gv,.bool gb]:=hd 5 (by rfl)
     refine .inl ⟨goes_free rfl,?_⟩
     simp [Oper.wp,execOp,Oper.upon,go_sem,Act.eval,q0]
     exact hK _ w' (Below.refl _ _) rfl
    ·intro act w' hbe hw0 hd ho KK hK
     have q0:act.tmps.getD 38 undef=.int .u64 gv:=hd 6 (by rfl)
     refine .inl ⟨goes_free rfl,?_⟩
     simp [Oper.wp,execOp,Oper.upon,go_sem,Act.eval,q0]
     exact hK _ w' (Below.refl _ _) rfl
    ·intro act w' hbe hw0 hd ho KK hK
     have q0:act.tmps.getD 39 undef=.bool gb:=hd 7 (by rfl)
     refine .inl ⟨goes_free rfl,?_⟩
     simp [Oper.wp,execOp,Oper.upon,go_sem,Act.eval,q0]
     exact hK _ w' (Below.refl _ _) rfl
   ·intro vs act w8 hb8 hR hon hoff hact
    have e8:vs 8=.int .u64 gv:=hR 8 (by decide)
    have e9:vs 9=.bool gb:=hR 9 (by decide)
    rw [hact]
    simp only [puts,dstAt,List.getElem?_cons_zero,List.getElem?_cons_succ,Option.bind_some,Option.getD_some,Act.put,List.length_cons,List.length_nil,Nat.reduceAdd,List.setIfInBounds_toArray,List.set_cons_zero,List.set_cons_succ]
    rw [e8,e9]
    have HB8:=Lib.hid (HBR.out.trans (hb8.below HWZ.out (fun k hk=>(own_lt HOB.out k hk).1)))
    clear hR hon hoff hact hb8 e8 e9 HT22 HOB HZB HZO y0 y1
    go_wp2
    refine bodyPost_ret (v:=.tuple #[.int .u64 gv,.bool gb]) (by simp [results,Tryz.results70,go_sem];try rfl) rfl ?_
    exact ⟨gv,fun h=>HE.out.2 (HE.out.1▸h),by rw [HE.out.1],HB.out.st HB8.out⟩
end Go.Proofs.YteaaapdjplbljaaGreat
end
