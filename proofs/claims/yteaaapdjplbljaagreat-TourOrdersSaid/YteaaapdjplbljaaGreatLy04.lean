/- Walk of tour.Order's inner function: the whole of it. -/
import Derived.Test.YteaaapdjplbljaaGreatLyS
import Derived.Test.YteaaapdjplbljaaGreatProg
import Derived.Test.YteaaapdjplbljaaGreatLy03
set_option linter.unusedVariables false
set_option linter.unusedSimpArgs false
set_option linter.unnecessarySimpa false
namespace Go.Proofs.YteaaapdjplbljaaGreat
open Go Go.Proofs Go.RowKit Go.Shelf Go.Proofs.YteaaapdjplbljaaGreat.Hp Go.Proofs.YteaaapdjplbljaaGreat.Ch Go.Proofs.YteaaapdjplbljaaGreat.To
def gqR (K:GrK) (v:Value) (n:Nat) (xs:List Value) (j:Nat) (sum d:Int) (B:Nat):Nat→Value→World→Prop
 |0,u,_=>u=.func (.func 66) #[] K.caps
 |1,u,_=>u=.int .i64 (j:Int)
 |2,u,_=>u=.int .i64 ((j:Int)+2)
 |3,u,_=>u=v
 |4,u,_=>u=.int .i64 (j:Int)
 |5,u,W=>∃b,u=.slice (some ⟨b,0,none⟩) 1 1∧W.cell? ⟨b,0,none⟩=some (encN j)∧v.ownBlock≠some b∧B≤b
 |6,u,W=>∃g c,u=.slice (some ⟨g,0,none⟩) (n+1) c∧W.ownsRow K.B 3 1 (.slice (some ⟨g,0,none⟩) (n+1) c) (n+1) (xs++[encN j])∧W.ownsRow K.B 3 1 v n xs∧(v.ownBlock=some g∨B≤g)∧g<W.heap.size
 |7,u,_=>u=.int .u64 sum
 |8,u,_=>u=.int .u64 d
 |9,u,_=>u=.int .u64 (sum+d)
 |_,_,_=>True
theorem gqR_go {K:GrK} {v:Value} {n:Nat} {xs:List Value} {j:Nat} {sum d:Int} {B:Nat}:∀(i:Nat) (u:Value) (w w':World),Below w.heap.size w w'→gqR K v n xs j sum d B i u w→gqR K v n xs j sum d B i u w'
 |0,_,_,_,_,h|1,_,_,_,_,h|2,_,_,_,_,h|3,_,_,_,_,h|4,_,_,_,_,h|7,_,_,_,_,h|8,_,_,_,_,h|9,_,_,_,_,h=>h
 |5,_,_,_,hb,⟨b,h1,h2,h3,h4⟩=>⟨b,h1,cell_later hb h2,h3,h4⟩
 |6,_,_,_,hb,⟨g,c,h1,h2,h3,h4,h5⟩=>⟨g,c,h1,hp_owns_go h2 hb,hp_owns_go h3 hb,h4,Nat.lt_of_lt_of_le h5 hb.size⟩
 |_+10,_,_,_,_,_=>trivial
theorem gqR_off {K:GrK} {v:Value} {n:Nat} {xs:List Value} {j:Nat} {sum d:Int} {B:Nat}:∀(i:Nat) (u:Value) (w w':World),i≠6→OffX (fun k=>v.ownBlock=some k) w w'→gqR K v n xs j sum d B i u w→gqR K v n xs j sum d B i u w'
 |0,_,_,_,_,_,h|1,_,_,_,_,_,h|2,_,_,_,_,_,h|3,_,_,_,_,_,h|4,_,_,_,_,_,h|7,_,_,_,_,_,h|8,_,_,_,_,_,h|9,_,_,_,_,_,h=>h
 |5,_,_,_,_,ho,⟨b,h1,h2,h3,h4⟩=>⟨b,h1,ho.cell h2 h3,h3,h4⟩
 |6,_,_,_,hn,_,_=>absurd rfl hn
 |_+10,_,_,_,_,_,_=>trivial
theorem gr_one {w:World} {b:Nat} {x:Value} (h:w.cell? ⟨b,0,none⟩=some x):∀j u,[x][j]? =some u→w.cell? ((⟨b,0,none⟩:Addr).add j)=some u:=by
 intro j u hj
 cases j with
 |zero=>
  obtain rfl:x=u:=by simpa using hj
  exact h
 |succ j=>simp at hj
theorem gr_off {w w':World} {v:Value} (h:w.grownBy w' v.ownBlock):OffX (fun k=>v.ownBlock=some k) w w':=⟨h.os,h.tape,h.output,h.size,fun k hk hn=>h.block k hk (fun e=>hn e.symm)⟩
theorem own_lt {w:World} {base n:Nat} {e:TypeId} {v:Value} {xs:List Value} (h:w.ownsRow base e 1 v n xs):∀k,v.ownBlock=some k→base≤k∧k<w.heap.size:=by
 intro k hk
 rcases h.2 with ⟨rfl,_⟩|⟨g,cap,cur,rfl,hb,hg,_⟩
 ·cases hk
 ·obtain rfl:g=k:=Option.some.inj hk
  exact ⟨hb,(Array.getElem?_eq_some_iff.1 hg).1⟩
theorem loop_in {c:Nat→Nat→Int} {m r u:Nat} {so:List Nat} {sum:Int} {j:Nat} (st:List Nat×Int):(List.range (j+1)).foldl (loopF c m r u so sum) st=loopF c m r u so sum ((List.range j).foldl (loopF c m r u so sum) st) j:=by rw [List.range_succ,List.foldl_append];rfl
theorem mem_cast {so:List Nat} {j:Nat}:decide ((j:Int)∈so.map Int.ofNat)=decide (j∈so):=by
 congr 1
 rw [List.mem_map,eq_iff_iff]
 exact ⟨fun ⟨a,h1,h2⟩=>by obtain rfl:a=j:=Int.ofNat.inj h2;exact h1,fun h=>⟨j,h,rfl⟩⟩
theorem gr_round {K:GrK} {v:Value} {so:List Nat} {j g c:Nat} {st':List Nat×Int} {ba1:Option Addr} {W wr w7 w8:World} {e:Ending} (hK:K.Con wr) (hOW:W.ownsRow K.B 3 1 v so.length (so.map encN)) (hX:OffX (K.XV v) W wr) (h7:OffX (fun k=>v.ownBlock=some k) wr w7)
  (ho:w7.ownsRow K.B 3 1 v so.length (so.map encN)) (ho':w7.ownsRow K.B 3 1 (.slice (some ⟨g,0,none⟩) (so.length+1) c) (so.length+1) ((so++[j]).map encN)) (hat:v.ownBlock=some g∨wr.heap.size≤g)
  (hp:GrPost K (.slice (some ⟨g,0,none⟩) (so.length+1) c) (so++[j]) st' ba1 w7 e w8):
  w8.ownsRow K.B 3 1 v so.length (so.map encN)∧OffX (K.XV v) W w8∧∃(ba':Option Addr) (bc':Nat),K.St w8 ba' bc' st'∧(ba'=ba1∨∀x,ba'=some x→W.heap.size≤x.block):=by
 obtain ⟨-,p1,p2,ba',bc',p3,p4⟩:=hp
 obtain ⟨l1,l2,l3,l4,l5,l6⟩:=hK.lt
 have hs7:=h7.size
 have hs:=hX.size
 refine ⟨?_,?_,ba',bc',p3,p4.imp id (fun h x hx=>by have:=h x hx;omega)⟩
 ·by_cases hg:v.ownBlock=some g
  ·rw [List.length_append,List.length_singleton,List.map_append] at p1
   exact own_back ho ho' hg p1
  ·refine owns_eqb ho (fun k hk=>p2.block k (own_lt ho k hk).2 ?_)
   have:=(own_lt ho k hk).1
   rintro (h|h|h)
   ·omega
   ·omega
   ·obtain rfl:g=k:=Option.some.inj h
    exact hg hk
 ·have h1:OffX (K.XV v) W w7:=hX.trans (h7.mono (fun k h=>.inr (.inr h)))
  refine h1.then' p2 (fun k h=>?_)
  rcases h with h|h|h
  ·exact .inl (.inl h)
  ·exact .inl (.inr (.inl h))
  ·obtain rfl:g=k:=Option.some.inj h
   rcases hat with h|h
   ·exact .inl (.inr (.inr h))
   ·exact .inr (by omega)
set_option maxRecDepth 100000 in
set_option maxHeartbeats 4000000 in
theorem grow_any (K:GrK):∀(r u:Nat) (so:List Nat) (v:Value) (sum:Int) (st:List Nat×Int) (ba:Option Addr) (bc:Nat) (W:World) (hm:so.length+r=K.m) (hu:u<K.m+2) (hs:0≤sum∧sum≤422212465065984*(so.length:Int)) (hK:K.Con W) (hS:K.St W ba bc st) (hO:W.ownsRow K.B 3 1 v so.length (so.map encN)) (hF:∀x,ba=some x→v.ownBlock≠some x.block),
  Calls Tryz.prog 66 (#[.int .i64 (u:Int),v,.int .u64 sum]++K.caps) W (GrPost K v so (growF K.c K.m r u so sum st) ba W):=by
 intro r
 induction r with
 |zero=>exact fun u so v sum st ba bc W hm hu hs hK hS hO hF=>grow_base K u so v sum st ba bc W (by omega) hu hs hK hS hO
 |succ r ih=>
  intro u so v sum st ba bc W hm hu hs hK hS hO hF
  have IH:=Lib.hid ih
  clear ih
  obtain ⟨ao,cap,e,hc⟩:=Cel.of_owns hO
  subst e
  have HO:=Lib.hid hO
  have HK:=Lib.hid hK
  have HS:=Lib.hid hS
  have HF:=Lib.hid hF
  have hl0:=hS.l.1
  obtain ⟨sa,sn,hsl⟩:=hK.s.2
  have hs0:=hK.s.1
  rw [hsl] at hs0
  have hm20:=hK.m
  have hu0:(0:Int)≤(u:Int):=by omega
  have hu1:(u:Int)<(K.m:Int)+2:=by omega
  have heq:((so.length:Int)==(K.m:Int))=false:=by rw [beq_eq_false_iff_ne];omega
  have HSL:=Lib.hid hsl
  have HM:=Lib.hid hm
  have HU:=Lib.hid hu
  have hso:(so.length:Int)≤20:=by omega
  have hsb:sum≤8444249301319680:=by omega
  clear hc hO hK hS hsl hm hF hu
  unfold GrK.caps
  by_cases h0:st.2≤sum
  ·have HG:=Lib.hid (grow_no (c:=K.c) (m:=K.m) (r:=r+1) (u:=u) (so:=so) h0)
   go_enter Tryz.func66,Tryz.ntmps66
   go_wp2
   refine bodyPost_ret (v:=.tuple #[]) (by simp [results,Tryz.results66,go_sem];try rfl) rfl ?_
   exact ⟨rfl,HO.out,.refl _ _,ba,bc,by rw [HG.out];exact HS.out,.inl rfl⟩
  ·have HG:=Lib.hid (grow_succ (c:=K.c) (m:=K.m) (r:=r) (u:=u) (so:=so) h0)
   have h0':decide (st.2≤sum)=false:=by simpa using h0
   go_enter Tryz.func66,Tryz.ntmps66
   go_wp2
   go_loopg [44] K.m (fun gg i wr=>∃(j:Nat) (ba':Option Addr) (bc':Nat),j≤K.m∧K.m-j≤gg∧i=.int .i64 (j:Int)∧Aside (K.St wr ba' bc' ((List.range j).foldl (loopF K.c K.m r u so sum) st))∧Aside (wr.ownsRow K.B 3 1 (.slice ao so.length cap) so.length (so.map encN))∧Aside (OffX (K.XV (.slice ao so.length cap)) W wr)∧Aside (ba'=ba∨∀x,ba'=some x→W.heap.size≤x.block))
   case atStart=>exact ⟨0,ba,bc,Nat.zero_le _,by omega,rfl,HS.out,HO.out,.refl _ _,.inl rfl⟩
   case round=>
    obtain ⟨j,ba1,bc1,hj,hgg,rfl,h1,h2,h3,h4⟩:=hrel
    have HSR:=Lib.hid h1.out
    have HOR:=Lib.hid h2.out
    have HXR:=Lib.hid h3.out
    have HBR:=Lib.hid h4.out
    clear h1 h2 h3 h4
    have HKR:=Lib.hid (HK.out.off (HXR.out.mono (fun k h=>h.x HO.out)))
    by_cases hlt:j<K.m
    ·have hlt2:(j:Int)<(K.m:Int):=by omega
     have hj0:(0:Int)≤(j:Int):=by omega
     have HST:=Lib.hid (loop_in (c:=K.c) (m:=K.m) (r:=r) (u:=u) (so:=so) (sum:=sum) (j:=j) st)
     obtain ⟨st1,hst1⟩:∃st1,st1=(List.range j).foldl (loopF K.c K.m r u so sum) st:=⟨_,rfl⟩
     rw [←hst1] at HSR HST
     clear hst1
     have hf0:=HKR.out.f
     obtain ⟨D,hD1,hD2,hD3,hD4,hD5⟩:=HKR.out.r u HU.out
     have hD6:=hD5 (j+2) (by omega)
     have hcb:=HKR.out.c u (j+2) HU.out (by omega)
     obtain ⟨d,hd⟩:∃d,d=K.c u (j+2):=⟨_,rfl⟩
     rw [←hd] at hcb hD6
     have HD:=Lib.hid hd
     have hd0:=hcb.1
     have hj2:(j:Int)+2<(K.m:Int)+2:=by omega
     have hj3:(0:Int)≤(j:Int)+2:=by omega
     have HCN:=Lib.hid (containsInt_any (so.map Int.ofNat) (j:Int) ao cap wr (by rw [List.length_map];omega) (by
      obtain ⟨a',c',e,h⟩:=Cel.of_owns HOR.out
      cases e
      rw [encN_map];exact h))
     rw [List.length_map,mem_cast] at HCN
     by_cases hin:j∈so
     ·rw [decide_eq_true hin] at HCN
      have HLP:=Lib.hid (show loopF K.c K.m r u so sum st1 j=st1 by unfold loopF;rw [if_pos hin])
      clear hin hd hD5
      go_wp2_with (go_at_call 68;refine HCN.out.mono ?_;rintro e w1 ⟨rfl,hww⟩;obtain rfl:=hww.symm)
      go_roundg (K.m-(j+1))
      case measure=>omega
      case rel=>exact ⟨j+1,ba1,bc1,by omega,Nat.le_refl _,by go_num,by rw [HST.out,HLP.out];exact HSR.out,HOR.out,HXR.out,HBR.out⟩
     rw [decide_eq_false hin] at HCN
     by_cases h1:d<4611686018427387904
     ·have HLP:=Lib.hid (show loopF K.c K.m r u so sum st1 j=growF K.c K.m r (j+2) (so++[j]) (sum+d) st1 by unfold loopF;rw [if_neg hin,←hd,if_pos h1])
      have hdb:d≤422212465065984:=by omega
      have hcs:=hs.1
      have hw2:IntKind.i64.wrap ((j:Int)+2)=(j:Int)+2:=by rw [IntKind.wrap_i64];omega
      have hw3:IntKind.u64.wrap (sum+d)=sum+d:=by rw [IntKind.wrap_u64];omega
      have HSN:=Lib.hid (show 0≤sum+d∧sum+d≤422212465065984*((so++[j]).length:Int) by rw [List.length_append,List.length_singleton];have:=hs.2;omega)
      have HOB:=Lib.hid (fun k hk=>(own_lt HOR.out k hk).1)
      have HOZ:=Lib.hid (fun k hk=>(own_lt HOR.out k hk).2)
      clear hin hd hD5 hcb hs
      go_upto_region 10 with (go_at_call 68;refine HCN.out.mono ?_;rintro e w1 ⟨rfl,hww⟩;obtain rfl:=hww.symm)
      refine wp_region_appX 10 _ _ rfl rfl (gqR K (.slice ao so.length cap) so.length (so.map encN) j sum d wr.heap.size) 6 (by decide) (fun k=>(Value.slice ao so.length cap).ownBlock=some k) (by kernel_rfl) (by kernel_rfl) (by kernel_rfl) (by kernel_rfl) gqR_go gqR_off ?hopa ?henda
      case hopa=>
       refine ⟨?_,?_,?_,?_,?_,?_,?_,?_,?_,?_,trivial⟩
       ·intro act w' hbe hw0 hd ho KK hK
        have q0:act.tmps.getD 7 undef=.pointer (some ⟨K.gb,0,none⟩):=ho 7 (by kernel_rfl)
        have f0:=(HKR.out.off (hbe.mono (fun k h=>.inr (.inr (HOB.out k h))))).g
        refine .inl ⟨goes_free rfl,?_⟩
        simp [Oper.wp,execOp,Oper.upon,go_sem,Act.eval,q0,f0]
        exact hK _ w' (Below.refl _ _) rfl
       ·intro act w' hbe hw0 hd ho KK hK
        have q0:act.tmps.getD 12 undef=.int .i64 (j:Int):=ho 12 (by kernel_rfl)
        refine .inl ⟨goes_free rfl,?_⟩
        simp [Oper.wp,execOp,Oper.upon,go_sem,Act.eval,q0]
        exact hK _ w' (Below.refl _ _) rfl
       ·intro act w' hbe hw0 hd ho KK hK
        have q0:act.tmps.getD 64 undef=.int .i64 (j:Int):=hd 1 (by rfl)
        refine .inl ⟨goes_free rfl,?_⟩
        simp [Oper.wp,execOp,Oper.upon,go_sem,Act.eval,q0,hw2]
        exact hK _ w' (Below.refl _ _) rfl
       ·intro act w' hbe hw0 hd ho KK hK
        have q0:act.tmps.getD 1 undef=.slice ao so.length cap:=ho 1 (by kernel_rfl)
        refine .inl ⟨goes_free rfl,?_⟩
        simp [Oper.wp,execOp,Oper.upon,go_sem,Act.eval,q0]
        exact hK _ w' (Below.refl _ _) rfl
       ·intro act w' hbe hw0 hd ho KK hK
        have q0:act.tmps.getD 12 undef=.int .i64 (j:Int):=ho 12 (by kernel_rfl)
        refine .inl ⟨goes_free rfl,?_⟩
        simp [Oper.wp,execOp,Oper.upon,go_sem,Act.eval,q0]
        exact hK _ w' (Below.refl _ _) rfl
       ·intro act w' hbe hw0 hd ho KK hK
        have q0:act.tmps.getD 67 undef=.int .i64 (j:Int):=hd 4 (by rfl)
        have z0:=(Array.getD_eq_getD_getElem? (xs:=act.tmps) (i:=67) (d:=undef)).symm.trans q0
        refine .inl ⟨goes_free rfl,?_⟩
        simp [Oper.wp,execOp,Oper.upon,go_sem,Act.eval,q0,z0]
        refine hK _ _ ?_ ?_
        ·exact Below.of_al _ _
        ·exact ⟨w'.heap.size,rfl,by go_simp;rfl,fun e=>absurd (HOZ.out _ e) (by have:=hbe.size;omega),by have:=hbe.size;omega⟩
       ·intro act w' hbe hw0 hd ho KK hK
        have q0:act.tmps.getD 66 undef=.slice ao so.length cap:=hd 3 (by rfl)
        obtain ⟨b5,e5,c5,n5,l5⟩:=(hd 5 (by rfl):gqR K (.slice ao so.length cap) so.length (so.map encN) j sum d wr.heap.size 5 (act.tmps.getD 68 undef) w')
        have hb1:Below wr.heap.size wr w':=hw0 rfl
        obtain ⟨g6,c6,w6,r6,o6,p6,g7,t6,l6⟩:=run_appK (P:=Tryz.prog) 25 25 K.B 3 _ 8 elem_int Tryz.underlying25 (.slice ao so.length cap) so.length (so.map encN) (hp_owns_go HOR.out hb1) ⟨b5,0,none⟩ 1 (encN j) (gr_one c5) rfl ⟨by omega,by omega,by have:=HKR.out.sz;have:=hb1.size;omega⟩
        refine .inl ⟨goes_free rfl,?_⟩
        exact Lib.wp_append_run w' (.tmp 66) (.tmp 68) 25 25 rfl _ _ q0 e5 _ w6 r6 (hK _ w6 (gr_off g7) ⟨g6,c6,rfl,o6,p6,t6.imp id (fun e=>by have:=hb1.size;omega),l6⟩)
       ·intro act w' hbe hw0 hd ho KK hK
        have q0:act.tmps.getD 2 undef=.int .u64 sum:=ho 2 (by kernel_rfl)
        refine .inl ⟨goes_free rfl,?_⟩
        simp [Oper.wp,execOp,Oper.upon,go_sem,Act.eval,q0]
        exact hK _ w' (Below.refl _ _) rfl
       ·intro act w' hbe hw0 hd ho KK hK
        have q0:act.tmps.getD 13 undef=.int .u64 d:=ho 13 (by kernel_rfl)
        refine .inl ⟨goes_free rfl,?_⟩
        simp [Oper.wp,execOp,Oper.upon,go_sem,Act.eval,q0]
        exact hK _ w' (Below.refl _ _) rfl
       ·intro act w' hbe hw0 hd ho KK hK
        have q0:act.tmps.getD 70 undef=.int .u64 sum:=hd 7 (by rfl)
        have q1:act.tmps.getD 71 undef=.int .u64 d:=hd 8 (by rfl)
        refine .inl ⟨goes_free rfl,?_⟩
        simp [Oper.wp,execOp,Oper.upon,go_sem,Act.eval,q0,q1,hw3]
        exact hK _ w' (Below.refl _ _) rfl
      case henda=>
       intro vs act w7 hb7 hR hon hoff hact
       obtain ⟨g,c,e6,o6,p6,t6,l6⟩:=hR 6 (by decide)
       have q63:act.tmps.getD 63 undef=.func (.func 66) #[] K.caps:=(hon 0 (by decide)).trans (hR 0 (by decide))
       have q65:act.tmps.getD 65 undef=.int .i64 ((j:Int)+2):=(hon 2 (by decide)).trans (hR 2 (by decide))
       have q69:act.tmps.getD 69 undef=.slice (some ⟨g,0,none⟩) (so.length+1) c:=(hon 6 (by decide)).trans e6
       have q72:act.tmps.getD 72 undef=.int .u64 (sum+d):=(hon 9 (by decide)).trans (hR 9 (by decide))
       unfold tailWp tailWp
       simp [Oper.wp,execOp,Oper.upon,go_sem,Act.eval,q63,q65,q69,q72]
       have hat9:(Value.slice ao so.length cap).ownBlock=some g∨wr.heap.size≤g:=t6
       have HK7:=Lib.hid (HKR.out.off (hb7.mono (fun k h=>.inr (.inr (HOB.out k h)))))
       have HFR:=Lib.hid (show ∀x,ba1=some x→(Value.slice ao so.length cap).ownBlock≠some x.block from fun x hx e=>by
        rcases HBR.out with h9|h9
        ·exact HF.out x (h9▸hx) e
        ·have h10:=h9 x hx
         have h11:=(own_lt HO.out _ e).2
         omega)
       have HS7:=Lib.hid (HSR.out.off HKR.out hb7 (fun k h=>⟨HOB.out k h,fun x hx e=>HFR.out x hx (e▸h)⟩))
       have hown7:w7.ownsRow K.B 3 1 (.slice (some ⟨g,0,none⟩) (so.length+1) c) (so++[j]).length ((so++[j]).map encN):=by rw [List.map_append,List.length_append,List.length_singleton];exact o6
       have hgr:GrPost K (.slice (some ⟨g,0,none⟩) (so.length+1) c) (so++[j]) (growF K.c K.m r (j+2) (so++[j]) (sum+d) st1) ba1 w7=GrPost K (.slice (some ⟨g,0,none⟩) (so.length+1) c) (so++[j]) (growF K.c K.m r (j+2) (so++[j]) (sum+d) st1) ba1 w7:=rfl
       have hih:=IH.out (j+2) (so++[j]) (.slice (some ⟨g,0,none⟩) (so.length+1) c) (sum+d) st1 ba1 bc1 w7 (by rw [List.length_append,List.length_singleton];have:=HM.out;omega) (by omega) HSN.out HK7.out HS7.out hown7 (fun x hx e=>by
        obtain rfl:g=x.block:=Option.some.inj e
        rcases hat9 with h9|h9
        ·exact HFR.out x hx h9
        ·have:=(HSR.out.n x hx).2
         omega)
       rw [show (((j+2:Nat):Nat):Int)=(j:Int)+2 from by omega] at hih
       refine hih.mono ?_
       rintro e w8 hp
       obtain rfl:=hp.1
       have HP:=Lib.hid (gr_round HKR.out HO.out HXR.out hb7 p6 (by rw [List.length_append,List.length_singleton] at hown7;exact hown7) hat9 hp)
       have HJ:=Lib.hid (And.intro HST.out HLP.out)
       rw [hact]
       simp only [puts,dstAt,List.getElem?_cons_zero,List.getElem?_cons_succ,Option.bind_some,Option.getD_some,Act.put,List.length_cons,List.length_nil,Nat.reduceAdd,List.setIfInBounds_toArray,List.set_cons_zero,List.set_cons_succ]
       clear hR hon hoff hact q63 q65 q69 q72 hb7 hgr hih hp hown7 o6 p6 e6 t6 l6 hat9 HK7 HS7 HST HLP HFR HOB HOZ
       generalize vs 0=a0
       generalize vs 1=a1
       generalize vs 2=a2
       generalize vs 3=a3
       generalize vs 4=a4
       generalize vs 5=a5
       generalize vs 6=a6
       generalize vs 7=a7
       generalize vs 8=a8
       generalize vs 9=a9
       go_wp2
       go_roundg (K.m-(j+1))
       case measure=>omega
       case rel=>
        obtain ⟨k1,k2,ba2,bc2,k3,k4⟩:=HP.out
        refine ⟨j+1,ba2,bc2,by omega,Nat.le_refl _,by go_num,?_,k1,k2,?_⟩
        ·rw [HJ.out.1,HJ.out.2];exact k3
        ·rcases k4 with h9|h9
         ·rw [h9];exact HBR.out
         ·exact .inr h9
     ·have hd4:d=4611686018427387904:=by omega
      have HLP:=Lib.hid (show loopF K.c K.m r u so sum st1 j=st1 by unfold loopF;rw [if_neg hin,←hd,if_neg h1])
      subst hd4
      clear hin hd hD5 hcb h1
      go_wp2_with (go_at_call 68;refine HCN.out.mono ?_;rintro e w1 ⟨rfl,hww⟩;obtain rfl:=hww.symm)
      go_roundg (K.m-(j+1))
      case measure=>omega
      case rel=>exact ⟨j+1,ba1,bc1,by omega,Nat.le_refl _,by go_num,by rw [HST.out,HLP.out];exact HSR.out,HOR.out,HXR.out,HBR.out⟩
    ·obtain rfl:j=K.m:=by omega
     go_wp2
     refine bodyPost_ret (v:=.tuple #[]) (by simp [results,Tryz.results66,go_sem];try rfl) rfl ?_
     exact ⟨rfl,HOR.out,HXR.out,ba1,bc1,by rw [HG.out];exact HSR.out,HBR.out⟩
end Go.Proofs.YteaaapdjplbljaaGreat
