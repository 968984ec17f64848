/- Walk of tour.Near: the whole of it. -/
import Derived.Test.YteaaapdjplbljaaGreatLxS
import Derived.Test.YteaaapdjplbljaaGreatProg
import Derived.Test.YteaaapdjplbljaaGreatLw47
import Derived.Test.YteaaapdjplbljaaGreatLx02
set_option linter.unusedVariables false
set_option linter.unusedSimpArgs false
set_option linter.unnecessarySimpa false
namespace Go.Proofs.YteaaapdjplbljaaGreat
open Go Go.Proofs Go.RowKit Go.Shelf Go.Proofs.YteaaapdjplbljaaGreat.Hp Go.Proofs.YteaaapdjplbljaaGreat.Ch Go.Proofs.YteaaapdjplbljaaGreat.To
def bestV (p:Option Nat×Int):Int:=match p.1 with|some b=>(b:Int)|none=>-1
def TrNearPost (es:List EdgeD) (s:Int) (l:List Int) (w:World) (e:Ending) (w':World):Prop:=
 (match tnearF (cmat es (s::s::l)) l.length l.length 0 [] 0 with
 |some q=>∃(a:Option Addr) (c:Nat),e=.returned (.tuple #[.slice a q.1.length c,.int .u64 q.2,.int .i64 0])∧Cel w' a (q.1.map encN)
 |none=>e=.returned (.tuple #[.slice none 0 0,.int .u64 0,.int .i64 9]))∧Below w.heap.size w w'
def nqR (B0:Nat) (v:Value) (n:Nat) (xs:List Value) (j:Nat) (sum d x:Int) (lv:Value) (lb lof B:Nat):Nat→Value→World→Prop
 |0,u,_=>u=v
 |1,u,_=>u=.int .i64 (j:Int)
 |2,u,W=>∃b,u=.slice (some ⟨b,0,none⟩) 1 1∧W.cell? ⟨b,0,none⟩=some (encN j)∧v.ownBlock≠some b∧B≤b
 |3,u,W=>∃g c,u=.slice (some ⟨g,0,none⟩) (n+1) c∧W.ownsRow B0 3 1 (.slice (some ⟨g,0,none⟩) (n+1) c) (n+1) (xs++[encN j])
 |4,u,_=>u=.int .u64 sum
 |5,u,_=>u=.int .u64 d
 |6,u,_=>u=.int .u64 (sum+d)
 |7,u,_=>u=lv
 |8,u,_=>u=.int .i64 (j:Int)
 |9,u,_=>u=.pointer (some ⟨lb,lof+j,none⟩)
 |10,u,_=>u=.int .i64 x
 |11,u,W=>∃g c,u=.slice (some ⟨g,0,none⟩) (n+1) c∧W.ownsRow B0 3 1 (.slice (some ⟨g,0,none⟩) (n+1) c) (n+1) (xs++[encN j])
 |12,u,_=>u=.int .u64 (sum+d)
 |13,u,_=>u=.int .i64 x
 |_,_,_=>True
theorem nqR_go {B0:Nat} {v:Value} {n:Nat} {xs:List Value} {j:Nat} {sum d x:Int} {lv:Value} {lb lof B:Nat}:∀(i:Nat) (u:Value) (w w':World),Below w.heap.size w w'→nqR B0 v n xs j sum d x lv lb lof B i u w→nqR B0 v n xs j sum d x lv lb lof B i u w'
 |0,_,_,_,_,h|1,_,_,_,_,h|4,_,_,_,_,h|5,_,_,_,_,h|6,_,_,_,_,h|7,_,_,_,_,h|8,_,_,_,_,h|9,_,_,_,_,h|10,_,_,_,_,h|12,_,_,_,_,h|13,_,_,_,_,h=>h
 |2,_,_,_,hb,⟨b,h1,h2,h3,h4⟩=>⟨b,h1,cell_later hb h2,h3,h4⟩
 |3,_,_,_,hb,⟨g,c,h1,h2⟩|11,_,_,_,hb,⟨g,c,h1,h2⟩=>⟨g,c,h1,hp_owns_go h2 hb⟩
 |_+14,_,_,_,_,_=>trivial
theorem nqR_off {B0:Nat} {v:Value} {n:Nat} {xs:List Value} {j:Nat} {sum d x:Int} {lv:Value} {lb lof B:Nat}:∀(i:Nat) (u:Value) (w w':World),i≠3→i≠11→OffX (fun k=>v.ownBlock=some k) w w'→nqR B0 v n xs j sum d x lv lb lof B i u w→nqR B0 v n xs j sum d x lv lb lof B i u w'
 |0,_,_,_,_,_,_,h|1,_,_,_,_,_,_,h|4,_,_,_,_,_,_,h|5,_,_,_,_,_,_,h|6,_,_,_,_,_,_,h|7,_,_,_,_,_,_,h|8,_,_,_,_,_,_,h|9,_,_,_,_,_,_,h|10,_,_,_,_,_,_,h|12,_,_,_,_,_,_,h|13,_,_,_,_,_,_,h=>h
 |2,_,_,_,_,_,ho,⟨b,h1,h2,h3,h4⟩=>⟨b,h1,ho.cell h2 h3,h3,h4⟩
 |3,_,_,_,hn,_,_,_=>absurd rfl hn
 |11,_,_,_,_,hn,_,_=>absurd rfl hn
 |_+14,_,_,_,_,_,_,_=>trivial
set_option maxRecDepth 100000 in
set_option maxHeartbeats 4000000 in
theorem trNear_any (hb n:Nat) (es:List EdgeD) (R:List Int) (S:List SC) (ro:List Int) (s:Int) (l:List Int) (ao:Option Addr) (cap:Nat) (w:World) (h:BH w hb n es R S ro) (hc:Cel w ao (l.map encI)) (hl:l.length≤20) (hno:∀v∈s::l,nodeN n v):
  Calls Tryz.prog 22 #[.pointer (some ⟨hb,0,none⟩),.int .i64 s,.slice ao l.length cap] w (TrNearPost es s l w):=by
 have hb1:Below w.heap.size w (w.alloc (Obj.cells #[.int .i64 s] 3)):=Below.of_al _ _
 obtain ⟨a2,c2,w2,hr2,ho2,hb2⟩:=run_appAll (P:=Tryz.prog) (w:=w.alloc (Obj.cells #[.int .i64 s] 3)) 25 25 w.heap.size 3 _ 8 elem_int Tryz.underlying25 (some ⟨w.heap.size,0,none⟩) 1 1 [.int .i64 s] (lit_own1 _ _ _ _ (Nat.le_refl _)) ao l.length cap (l.map encI) (hc.go hb1) (fun u hu=>by obtain ⟨x,_,rfl⟩:=List.mem_map.1 hu;rfl) ⟨by simp,by omega,by omega,hb1.size⟩
 have hc2:Cel w2 a2 ((s::l).map encI):=by
  obtain ⟨a',c',e,h⟩:=Cel.of_owns ho2
  cases e
  exact h
 rw [show 1+l.length=(s::l).length by simp;omega] at hr2
 have HR2:=Lib.hid hr2
 have HB2:=Lib.hid (hb1.trans hb2)
 have HR:=Lib.hid (trRight_ok hb n es R S ro (s::l) a2 c2 w2 (h.go (hb1.trans hb2)) hc2 (by simp;omega) hno)
 have HOF:=Lib.hid (fun W (u:Int) (b:Nat) (hz:Below w.heap.size w W) (hu:nodeN n u) (hx:W.cell? ⟨b,0,none⟩=some (.int .i64 u))=>of_any hb n es R S ro [u] l (some ⟨b,0,none⟩) ao 1 cap W (h.go hz) (fun i x hx2=>by
  match i with
  |0=>cases hx2;exact ⟨b,0,rfl,hx⟩
  |i+1=>simp at hx2) (hc.go hz) (by simp) (by omega) (by intro v hv;obtain rfl:=List.mem_singleton.1 hv;exact hu) (fun v hv=>hno v (List.mem_cons_of_mem _ hv)))
 have HNO:=Lib.hid hno
 have HC:=Lib.hid hc
 have hl2:(l.length:Int)≤20:=by omega
 clear hr2 h hc hc2 ho2 hb2 hb1 hno
 generalize (s::l).length=nn at*
 go_enter Tryz.func22,Tryz.ntmps22
 go_wp2_with (first
  |(at_builtin;refine Lib.wpList_append_run _ rfl _ _ _ _ rfl _ _ rfl rfl _ _ HR2.out ?_)
  |(go_at_call 60;refine HR.out.mono ?_;rintro e w3 ⟨rfl,hb3⟩;(have HB3:=Lib.hid (HB2.out.st hb3));clear hb3))
 obtain ⟨m,hm⟩:∃m,m=l.length:=⟨_,rfl⟩
 have HM:=Lib.hid hm
 go_loopg [1,6,7,27] l.length (fun gg v1 v6 v7 v27 wr=>∃(k u:Nat) (so:List Nat) (sum x1:Int),k≤l.length∧l.length-k≤gg∧v1=.int .i64 x1∧v7=.int .u64 sum∧v27=.int .i64 (k:Int)∧Aside (so.length=k∧nodeN n x1∧(s::s::l).getD u 0=x1)∧Aside (0≤sum∧sum≤422212465065984*(k:Int))∧Aside (tnearF (cmat es (s::s::l)) l.length (l.length-k) u so sum=tnearF (cmat es (s::s::l)) l.length l.length 0 [] 0)∧Aside (wr.ownsRow w.heap.size 3 1 v6 k (so.map encN))∧Aside (Below w.heap.size w wr))
 case atStart=>exact ⟨0,0,[],0,s,Nat.zero_le _,by omega,rfl,rfl,rfl,⟨rfl,HNO.out s (List.mem_cons_self ..),rfl⟩,⟨Int.le_refl _,by simp⟩,rfl,World.ownsRow_nil _ _ _ _,HB3.out⟩
 case round=>
  obtain ⟨k,u,so,sum,x1,hk,hgg,rfl,rfl,rfl,h1,h2,h3,h4,h5⟩:=hrel
  have HSO:=Lib.hid h1.out
  have HSM:=Lib.hid h2.out
  have HNX:=Lib.hid h3.out
  have HOW:=Lib.hid h4.out
  have HB5:=Lib.hid h5.out
  clear h1 h2 h3 h4 h5
  by_cases hlt:k<l.length
  ·have hlt2:(k:Int)<(l.length:Int):=by omega
   have hk0:(0:Int)≤(k:Int):=by omega
   go_upto_region 8 with (go_at_call 65;refine (HOF.out _ x1 wr.heap.size (HB5.out.st (Below.of_al _ _)) HSO.out.2.1 (by go_simp)).mono ?_;intro e w6 hp;(obtain ⟨ra,rc,rfl,hp1,hb6⟩:=of_rows hp);(have HP:=Lib.hid hp1);(have HB6:=Lib.hid hb6);clear hp hp1 hb6)
   obtain ⟨b,o,D,e,c0,hdd⟩:=HP.out 0 (by simp)
   subst e
   rw [Nat.add_zero] at c0
   have HBW:=Lib.hid (((Below.of_al wr (Obj.cells #[.int .i64 x1] 3)).st HB6.out))
   have HOW6:=Lib.hid (hp_owns_go HOW.out HBW.out)
   obtain ⟨a6,c6,e6,h6⟩:=Cel.of_owns HOW6.out
   subst e6
   have HC6:=Lib.hid h6
   have hsl:=HSO.out.1
   have HDC:=Lib.hid (show ∀i,i<l.length→w6.cell? ⟨D,i,none⟩=some (.int .u64 (cmat es (s::s::l) u (i+2)))∧0≤cmat es (s::s::l) u (i+2)∧(cmat es (s::s::l) u (i+2)=4611686018427387904∨cmat es (s::s::l) u (i+2)≤422212465065984) from fun i hi=>by
    have h9:=hdd i hi
    unfold cmat
    rw [HSO.out.2.2,show (s::s::l).getD (i+2) 0=l[i] by simp [List.getD_eq_getElem?_getD,List.getElem?_eq_getElem hi]]
    exact ⟨h9.1,h9.2.in.1,h9.2.2⟩)
   clear h6 hdd
   go_wp2
   go_loopg [12,13,41] l.length (fun gi v12 v13 v41 wq=>∃i:Nat,i≤l.length∧l.length-i≤gi∧v41=.int .i64 (i:Int)∧v12=.int .i64 (bestV (tpickF (fun i=>cmat es (s::s::l) u (i+2)) so i))∧v13=.int .u64 (tpickF (fun i=>cmat es (s::s::l) u (i+2)) so i).2∧wq=w6)
   case atStart=>exact ⟨0,Nat.zero_le _,by omega,rfl,rfl,rfl,rfl⟩
   case round=>
    obtain ⟨i,hi,hgi,rfl,rfl,rfl,rfl⟩:=hrel
    by_cases hli:i<l.length
    ·have hli2:(i:Int)<(l.length:Int):=by omega
     have hi0:(0:Int)≤(i:Int):=by omega
     obtain ⟨y0,y1,y2⟩:=HDC.out i hli
     have HPK:=Lib.hid (show tpickF (fun i=>cmat es (s::s::l) u (i+2)) so (i+1)=if cmat es (s::s::l) u (i+2)<(tpickF (fun i=>cmat es (s::s::l) u (i+2)) so i).2∧i∉so then (some i,cmat es (s::s::l) u (i+2)) else tpickF (fun i=>cmat es (s::s::l) u (i+2)) so i from rfl)
     have HCN:=Lib.hid (containsInt_any (so.map Int.ofNat) (i:Int) a6 c6 wr (by rw [List.length_map];omega) (by rw [encN_map];exact HC6.out))
     rw [List.length_map,mem_cast,hsl] at HCN
     generalize tpickF (fun i=>cmat es (s::s::l) u (i+2)) so i=p at*
     generalize cmat es (s::s::l) u (i+2)=d at*
     by_cases hd:d<p.2
     ·by_cases hin:i∈so
      ·rw [decide_eq_true hin] at HCN
       have HQ:=Lib.hid (show tpickF (fun i=>cmat es (s::s::l) u (i+2)) so (i+1)=p by rw [HPK.out,if_neg (fun h=>h.2 hin)])
       clear hin
       go_wp2_with (go_at_call 68;refine HCN.out.mono ?_;rintro e w8 ⟨rfl,hww⟩;obtain rfl:=hww.symm)
       go_roundg (l.length-(i+1))
       case measure=>omega
       case rel=>exact ⟨i+1,by omega,Nat.le_refl _,by go_num,by rw [HQ.out],by rw [HQ.out],rfl⟩
      ·rw [decide_eq_false hin] at HCN
       have HQ:=Lib.hid (show tpickF (fun i=>cmat es (s::s::l) u (i+2)) so (i+1)=(some i,d) by rw [HPK.out,if_pos ⟨hd,hin⟩])
       clear hin
       go_wp2_with (go_at_call 68;refine HCN.out.mono ?_;rintro e w8 ⟨rfl,hww⟩;obtain rfl:=hww.symm)
       go_roundg (l.length-(i+1))
       case measure=>omega
       case rel=>exact ⟨i+1,by omega,Nat.le_refl _,by go_num,by rw [HQ.out];rfl,by rw [HQ.out],rfl⟩
     ·have HQ:=Lib.hid (show tpickF (fun i=>cmat es (s::s::l) u (i+2)) so (i+1)=p by rw [HPK.out,if_neg (fun h=>hd h.1)])
      have hd2:decide (d<p.2)=false:=by simpa using hd
      go_wp2_with (go_at_call 68;refine HCN.out.mono ?_;rintro e w8 ⟨rfl,hww⟩;obtain rfl:=hww.symm)
      go_roundg (l.length-(i+1))
      case measure=>omega
      case rel=>exact ⟨i+1,by omega,Nat.le_refl _,by go_num,by rw [HQ.out],by rw [HQ.out],rfl⟩
    ·obtain rfl:i=l.length:=by omega
     have HPS:=Lib.hid (pick_spec (fun i=>cmat es (s::s::l) u (i+2)) so l.length)
     have HST:=Lib.hid (show tnearF (cmat es (s::s::l)) l.length l.length 0 [] 0=(match (tpickF (fun i=>cmat es (s::s::l) u (i+2)) so l.length).1 with
      |some b=>tnearF (cmat es (s::s::l)) l.length (l.length-(k+1)) (b+2) (so++[b]) (sum+cmat es (s::s::l) u (b+2))
      |none=>none) from HNX.out.symm.trans (by rw [show l.length-k=l.length-(k+1)+1 by omega];rfl))
     generalize tpickF (fun i=>cmat es (s::s::l) u (i+2)) so l.length=p at*
     obtain ⟨p1,p2⟩:=p
     cases p1 with
     |none=>
      have HQ:=Lib.hid (show tnearF (cmat es (s::s::l)) l.length l.length 0 [] 0=none from HST.out)
      have hbe:(bestV (none,p2)== -1)=true:=rfl
      clear HST HPS
      go_wp2
      refine bodyPost_ret (v:=.tuple #[.slice none 0 0,.int .u64 0,.int .i64 9]) (by simp [results,Tryz.results22,go_sem];try rfl) rfl ?_
      unfold TrNearPost
      rw [HQ.out]
      exact ⟨rfl,HB5.out.st HBW.out⟩
     |some bst=>
      obtain ⟨-,hb9,hb10,hb11,hb12⟩:=HPS.out
      simp only at hb11
      obtain ⟨lb,lof,el,hlc⟩:=(HC.out.go (HB5.out.st HBW.out)).at hb9
      have HLV:=Lib.hid (show (Value.slice ao l.length cap)=.slice (some ⟨lb,lof,none⟩) l.length cap by rw [el])
      have HLC:=Lib.hid hlc
      have HLB:=Lib.hid (show lb<w.heap.size from by
       obtain ⟨b',o',e',h9⟩:=HC.out.at hb9
       rw [el] at e'
       cases e'
       exact World.block_lt_of_cell? _ _ h9)
      obtain ⟨xs,hxs⟩:∃xs,xs=l[bst]:=⟨_,rfl⟩
      rw [←hxs] at HLC
      have HXS:=Lib.hid hxs
      have HOR:=Lib.hid HOW6.out
      have HOZ:=Lib.hid (fun k hk=>(own_lt HOW6.out k hk).2)
      have HWZ:=Lib.hid (show w.heap.size≤wr.heap.size from (HB5.out.st HBW.out).size)
      have hd9:=HDC.out bst hb9
      rw [←hb11] at hd9
      have hsm:=HSM.out
      have hp2:p2≤422212465065984:=by rcases hd9.2.2 with h9|h9<;>omega
      have hp0:=hd9.2.1
      have hw3:IntKind.u64.wrap (sum+p2)=sum+p2:=by rw [IntKind.wrap_u64];omega
      have hbl:(0:Int)≤(bst:Int)∧(bst:Int)<(l.length:Int):=by omega
      have HP2:=Lib.hid (And.intro hp0 (And.intro hp2 hb11))
      have HBS:=Lib.hid (And.intro hb9 hb10)
      have hbe:(((bst:Int))== -1)=false:=by rw [beq_eq_false_iff_ne];omega
      have hbv:bestV (some bst,p2)=(bst:Int):=rfl
      obtain ⟨lv,hlv⟩:∃lv,lv=Value.slice ao l.length cap:=⟨_,rfl⟩
      rw [←hlv] at HLV ⊢
      rw [hbv]
      clear HPS hb12 hsm hd9 hlc hxs hbv hb10 hb11 hp0 hp2 el
      go_upto_region 16 with (fail)
      refine wp_region_anyX 14 rfl (nqR w.heap.size (.slice a6 k c6) k (so.map encN) bst sum p2 xs lv lb lof wr.heap.size) 3 (by decide) (fun j=>(Value.slice a6 k c6).ownBlock=some j) (by kernel_rfl) (by kernel_rfl) nqR_go (fun i v w w' h1 h2=>nqR_off i v w w' h1 (fun e=>by subst e;exact absurd h2 (by decide))) ?hopa ?henda
      case hopa=>
       refine ⟨?_,?_,?_,?_,?_,?_,?_,?_,?_,?_,?_,?_,?_,?_,trivial⟩
       ·intro act w' hbe hw0 hd ho KK hK
        have q0:act.tmps.getD 6 undef=.slice a6 k c6:=ho 6 (by kernel_rfl)
        refine .inl ⟨goes_free rfl,?_⟩
        simp [Oper.wp,execOp,Oper.upon,go_sem,Act.eval,q0]
        exact hK _ w' (Below.refl _ _) rfl
       ·intro act w' hbe hw0 hd ho KK hK
        have q0:act.tmps.getD 12 undef=.int .i64 (bst:Int):=ho 12 (by kernel_rfl)
        refine .inl ⟨goes_free rfl,?_⟩
        simp [Oper.wp,execOp,Oper.upon,go_sem,Act.eval,q0]
        exact hK _ w' (Below.refl _ _) rfl
       ·intro act w' hbe hw0 hd ho KK hK
        have q0:act.tmps.getD 61 undef=.int .i64 (bst:Int):=hd 1 (by rfl)
        have z0:=(Array.getD_eq_getD_getElem? (xs:=act.tmps) (i:=61) (d:=undef)).symm.trans q0
        refine .inl ⟨goes_free rfl,?_⟩
        simp [Oper.wp,execOp,Oper.upon,go_sem,Act.eval,q0,z0]
        refine hK _ _ ?_ ?_
        ·exact Below.of_al _ _
        ·exact ⟨w'.heap.size,rfl,by go_simp;rfl,fun e=>absurd (HOZ.out _ e) (by have:=hbe.size;omega),by have:=hbe.size;omega⟩
       ·intro act w' hbe hw0 hd ho KK hK
        have q0:act.tmps.getD 60 undef=.slice a6 k c6:=hd 0 (by rfl)
        obtain ⟨b5,e5,c5,n5,l5⟩:=(hd 2 (by rfl):nqR w.heap.size (.slice a6 k c6) k (so.map encN) bst sum p2 xs lv lb lof wr.heap.size 2 (act.tmps.getD 62 undef) w')
        have hb1:Below wr.heap.size wr w':=hw0 rfl
        obtain ⟨g6,c7,w6,r6,o6,p6,g7,t6,l6⟩:=run_appK (P:=Tryz.prog) 25 25 w.heap.size 3 _ 8 elem_int Tryz.underlying25 (.slice a6 k c6) k (so.map encN) (hp_owns_go HOR.out hb1) ⟨b5,0,none⟩ 1 (encN bst) (gr_one c5) rfl ⟨by omega,by omega,by have:=HWZ.out;have:=hb1.size;omega⟩
        refine .inl ⟨goes_free rfl,?_⟩
        exact Lib.wp_append_run w' (.tmp 60) (.tmp 62) 25 25 rfl _ _ q0 e5 _ w6 r6 (hK _ w6 (gr_off g7) ⟨g6,c7,rfl,o6⟩)
       ·intro act w' hbe hw0 hd ho KK hK
        have q0:act.tmps.getD 7 undef=.int .u64 sum:=ho 7 (by kernel_rfl)
        refine .inl ⟨goes_free rfl,?_⟩
        simp [Oper.wp,execOp,Oper.upon,go_sem,Act.eval,q0]
        exact hK _ w' (Below.refl _ _) rfl
       ·intro act w' hbe hw0 hd ho KK hK
        have q0:act.tmps.getD 13 undef=.int .u64 p2:=ho 13 (by kernel_rfl)
        refine .inl ⟨goes_free rfl,?_⟩
        simp [Oper.wp,execOp,Oper.upon,go_sem,Act.eval,q0]
        exact hK _ w' (Below.refl _ _) rfl
       ·intro act w' hbe hw0 hd ho KK hK
        have q0:act.tmps.getD 64 undef=.int .u64 sum:=hd 4 (by rfl)
        have q1:act.tmps.getD 65 undef=.int .u64 p2:=hd 5 (by rfl)
        refine .inl ⟨goes_free rfl,?_⟩
        simp [Oper.wp,execOp,Oper.upon,go_sem,Act.eval,q0,q1,hw3]
        exact hK _ w' (Below.refl _ _) rfl
       ·intro act w' hbe hw0 hd ho KK hK
        have q0:act.tmps.getD 2 undef=lv:=ho 2 (by kernel_rfl)
        refine .inl ⟨goes_free rfl,?_⟩
        simp [Oper.wp,execOp,Oper.upon,go_sem,Act.eval,q0]
        exact hK _ w' (Below.refl _ _) rfl
       ·intro act w' hbe hw0 hd ho KK hK
        have q0:act.tmps.getD 12 undef=.int .i64 (bst:Int):=ho 12 (by kernel_rfl)
        refine .inl ⟨goes_free rfl,?_⟩
        simp [Oper.wp,execOp,Oper.upon,go_sem,Act.eval,q0]
        exact hK _ w' (Below.refl _ _) rfl
       ·intro act w' hbe hw0 hd ho KK hK
        have q0:act.tmps.getD 67 undef=lv:=hd 7 (by rfl)
        have q1:act.tmps.getD 68 undef=.int .i64 (bst:Int):=hd 8 (by rfl)
        rw [HLV.out] at q0
        refine .inl ⟨goes_free rfl,?_⟩
        simp [Oper.wp,execOp,Oper.upon,go_sem,Act.eval,q0,q1,hbl]
        exact hK _ w' (Below.refl _ _) rfl
       ·intro act w' hbe hw0 hd ho KK hK
        have q0:act.tmps.getD 69 undef=.pointer (some ⟨lb,lof+bst,none⟩):=hd 9 (by rfl)
        have f0:=hbe.cell HLC.out (fun e=>by have h9:w.heap.size≤lb:=(own_lt HOR.out lb e).1;have:=HLB.out;omega)
        refine .inl ⟨goes_free rfl,?_⟩
        simp [Oper.wp,execOp,Oper.upon,go_sem,Act.eval,q0,f0]
        exact hK _ w' (Below.refl _ _) rfl
       ·intro act w' hbe hw0 hd ho KK hK
        obtain ⟨g9,c9,q0,o9⟩:=(hd 3 (by rfl):nqR w.heap.size (.slice a6 k c6) k (so.map encN) bst sum p2 xs lv lb lof wr.heap.size 3 (act.tmps.getD 63 undef) w')
        refine .inl ⟨goes_free rfl,?_⟩
        simp [Oper.wp,execOp,Oper.upon,go_sem,Act.eval,q0]
        exact hK _ w' (Below.refl _ _) ⟨g9,c9,(Array.getD_eq_getD_getElem? (xs:=act.tmps) (i:=63) (d:=undef)).symm.trans q0,o9⟩
       ·intro act w' hbe hw0 hd ho KK hK
        have q0:act.tmps.getD 66 undef=.int .u64 (sum+p2):=hd 6 (by rfl)
        refine .inl ⟨goes_free rfl,?_⟩
        simp [Oper.wp,execOp,Oper.upon,go_sem,Act.eval,q0]
        exact hK _ w' (Below.refl _ _) rfl
       ·intro act w' hbe hw0 hd ho KK hK
        have q0:act.tmps.getD 70 undef=.int .i64 xs:=hd 10 (by rfl)
        refine .inl ⟨goes_free rfl,?_⟩
        simp [Oper.wp,execOp,Oper.upon,go_sem,Act.eval,q0]
        exact hK _ w' (Below.refl _ _) rfl
      case henda=>
       intro vs act w7 hb7 hR hon hoff hact
       obtain ⟨g,c,e11,o11⟩:=hR 11 (by decide)
       have e12:vs 12=.int .u64 (sum+p2):=hR 12 (by decide)
       have e13:vs 13=.int .i64 xs:=hR 13 (by decide)
       have HO7:=Lib.hid o11
       have HB7:=Lib.hid ((HB5.out.st HBW.out).trans (hb7.below HWZ.out (fun k h=>(own_lt HOR.out k h).1)))
       rw [hact]
       simp only [puts,dstAt,List.getElem?_cons_zero,List.getElem?_cons_succ,Option.bind_some,Option.getD_some,Act.put,List.length_cons,List.length_nil,Nat.reduceAdd,List.setIfInBounds_toArray,List.set_cons_zero,List.set_cons_succ]
       rw [e11,e12,e13]
       clear hR hon hoff hact hb7 o11 e11 e12 e13
       generalize vs 0=a0
       generalize vs 1=a1
       generalize vs 2=a2
       generalize vs 3=a3
       generalize vs 4=a4
       generalize vs 5=a5
       generalize vs 6=a6
       generalize vs 7=a7
       generalize vs 8=a8
       generalize vs 9=a9
       generalize vs 10=a10
       go_wp2
       go_roundg (l.length-(k+1))
       case measure=>omega
       case rel=>exact ⟨k+1,bst+2,so++[bst],sum+p2,xs,by omega,Nat.le_refl _,rfl,rfl,by go_num,⟨by rw [List.length_append,List.length_singleton,HSO.out.1],HNO.out xs (List.mem_cons_of_mem _ (by rw [HXS.out];exact List.getElem_mem _)),by rw [HXS.out];simp [List.getD_eq_getElem?_getD,List.getElem?_eq_getElem HBS.out.1]⟩,⟨by have:=HSM.out.1;have:=HP2.out.1;omega,by have:=HSM.out.2;have:=HP2.out.2.1;omega⟩,by rw [HP2.out.2.2];exact HST.out.symm,by rw [List.map_append];exact HO7.out,HB7.out⟩
  ·obtain rfl:k=l.length:=by omega
   have HQ:=Lib.hid (show tnearF (cmat es (s::s::l)) l.length l.length 0 [] 0=some (so,sum) by
    rw [←HNX.out,Nat.sub_self]
    rfl)
   obtain ⟨a6,c6,e6,h6⟩:=Cel.of_owns HOW.out
   subst e6
   have HC6:=Lib.hid h6
   have HSL:=Lib.hid HSO.out.1
   clear h6
   go_wp2
   refine bodyPost_ret (v:=.tuple #[.slice a6 l.length c6,.int .u64 sum,.int .i64 0]) (by simp [results,Tryz.results22,go_sem];try rfl) rfl ?_
   unfold TrNearPost
   rw [HQ.out]
   exact ⟨⟨a6,c6,by rw [HSL.out],HC6.out⟩,HB5.out⟩
end Go.Proofs.YteaaapdjplbljaaGreat
