/- Walks over the references of layers 20 and 21: is all of a hierarchy made of a graph. -/
import Derived.Test.YtkdomobedfhhgaaGreatProg
import Derived.Test.YtkdomobedfhhgaaGreatSm02
set_option linter.unusedVariables false
set_option linter.unusedSimpArgs false
set_option linter.unnecessarySimpa false
namespace Go.Proofs.YtkdomobedfhhgaaGreat
open Go Go.Proofs Go.RowKit Go.Shelf Go.Proofs.YtkdomobedfhhgaaGreat.Hp Go.Proofs.YtkdomobedfhhgaaGreat.Ch
theorem madeB_take {es:List EdgeD} {R:List Int} {S:List SC} {m j:Nat} (hj:j<m):madeB es R (S.take m) j=madeB es R S j:=by
 have e:∀k,k<m→(S.take m).getD k scZ=S.getD k scZ:=fun k hk=>by
  rw [List.getD_eq_getElem?_getD,List.getD_eq_getElem?_getD,List.getElem?_take_of_lt hk]
 unfold madeB
 rw [e j hj]
 generalize S.getD j scZ=x
 unfold twoF
 cases hp:pairF j x with
 |false=>rw [Bool.false_and,Bool.false_and]
 |true=>
  unfold pairF at hp
  simp only [Bool.and_eq_true,decide_eq_true_eq] at hp
  unfold scAt
  rw [e _ (by omega),e _ (by omega)]
def hmB (es:List EdgeD) (R:List Int) (S:List SC):Bool:=(List.range S.length).all fun j=>madeB es R S j
theorem hmB_no {es:List EdgeD} {R:List Int} {S:List SC} {j:Nat} (hj:j<S.length) (h:madeB es R S j=false):hmB es R S=false:=by
 unfold hmB
 rw [List.all_eq_false]
 exact ⟨j,List.mem_range.2 hj,by rw [h];simp⟩
theorem hmB_yes {es:List EdgeD} {R:List Int} {S:List SC} (h:∀j,j<S.length→madeB es R S j=true):hmB es R S=true:=by
 unfold hmB
 rw [List.all_eq_true]
 exact fun j hj=>h j (List.mem_range.1 hj)
theorem flatS_app:∀(a b:List SC),flatS (a++b)=flatS a++flatS b
 |[],_=>rfl
 |x::a,b=>by
  show cellsS x++flatS (a++b)=(cellsS x++flatS a)++flatS b
  rw [flatS_app a b,List.append_assoc]
theorem cel_takeS {W:World} {ao:Option Addr} {S:List SC} {m:Nat} (h:Cel W ao (flatS S)):Cel W ao (flatS (S.take m)):=by
 intro j u hj
 refine h j u ?_
 rcases Nat.lt_or_ge j (flatS (S.take m)).length with h1|h1
 ·have e:flatS S=flatS (S.take m)++flatS (S.drop m):=by
   rw [←flatS_app,List.take_append_drop]
  rw [e,List.getElem?_append_left h1]
  exact hj
 ·rw [List.getElem?_eq_none h1] at hj
  cases hj
set_option maxRecDepth 100000 in
set_option maxHeartbeats 4000000 in
theorem refHM_any (n:Nat) (es:List EdgeD) (R:List Int) (S:List SC) (ao ro so:Option Addr) (cap rc sc:Nat) (w:World) (hE:EdgesOK n es) (hc:Cel w ao (flat es)) (hr:Cel w ro (R.map encI)) (hS:Cel w so (flatS S)) (hl:es.length≤1000000) (hrl:R.length≤1000000) (hsl:S.length≤1000000)
  (hln:R.length=n) (hrk:rankB R=true):
  Calls Tryz.prog 99 #[gV (n:Int) ao es.length cap,.agg #[.slice ro R.length rc,.slice so S.length sc]] w (TwoPost (hmB es R S) w):=by
 obtain ⟨W,hW⟩:∃W,W=(w.alloc (Obj.cells #[.int .i64 (n:Int),.slice ao es.length cap] 24)).alloc (Obj.cells #[.slice ro R.length rc,.slice so S.length sc] 45):=⟨_,rfl⟩
 have hbw:Below w.heap.size w W:=by rw [hW];exact (Below.of_al _ _).al _
 have c0:W.cell? ⟨w.heap.size,0,none⟩=some (.int .i64 (n:Int)):=by rw [hW];go_simp
 have c1:W.cell? ⟨w.heap.size,1,none⟩=some (.slice ao es.length cap):=by rw [hW];go_simp
 have d0:W.cell? ⟨w.heap.size+1,0,none⟩=some (.slice ro R.length rc):=by rw [hW];go_simp
 have d1:W.cell? ⟨w.heap.size+1,1,none⟩=some (.slice so S.length sc):=by rw [hW];go_simp
 have HRK:=Lib.hid (refRkR_any R ro rc W hrl (hr.go hbw))
 rw [hrk] at HRK
 have HW:=Lib.hid hW
 have HB:=Lib.hid hbw
 have HC:=Lib.hid (hc.go hbw)
 have HR:=Lib.hid (hr.go hbw)
 have HS:=Lib.hid (hS.go hbw)
 have HE:=Lib.hid hE
 have HLN:=Lib.hid hln
 have hb:((R.length:Int) != (n:Int))=false:=by simp;omega
 have HNO:=Lib.hid (fun j (hj:j<S.length) (h:madeB es R S j=false)=>hmB_no hj h)
 have HYES:=Lib.hid (fun (h:∀j,j<S.length→madeB es R S j=true)=>hmB_yes h)
 unfold TwoPost
 clear hW hbw hc hr hS hE hln hrk
 generalize hmB es R S=rr at*
 go_enter Tryz.func99,Tryz.ntmps99
 go_upto_region 1 with (fail)
 rw [←HW.out]
 go_wp2_with (go_at_call 98;refine HRK.out.mono ?_;rintro e w2 ⟨rfl,rfl⟩)
 go_loopg [5] S.length (fun gm v5 wr=>∃k:Nat,k≤S.length∧S.length-k≤gm∧v5=.int .i64 k∧Aside (Below W.heap.size W wr)∧Aside (∀j,j<k→madeB es R S j=true))
 case atStart=>exact ⟨0,Nat.zero_le _,by omega,rfl,Below.refl _ _,fun j hj=>absurd hj (Nat.not_lt_zero _)⟩
 case round=>
  obtain ⟨k,hk,hg,rfl,HZ,HA⟩:=hrel
  have HZr:=Lib.hid HZ.out
  have b0:=cell_later HZr.out c0
  have b1:=cell_later HZr.out c1
  have b2:=cell_later HZr.out d0
  have b3:=cell_later HZr.out d1
  clear c0 c1 d0 d1
  by_cases hlt:k<S.length
  ·have hlt2:(k:Int)<(S.length:Int):=by omega
   have hk0:(0:Int)≤(k:Int):=by omega
   obtain ⟨sb,sof,e,y0,y1,y2,y3,y4,y5⟩:=cel_sc6 (HS.out.go HZr.out) hlt
   subst e
   have HMB:=Lib.hid (show madeB es R S k=(edgeF es S[k]||twoF R S k S[k]) by unfold madeB;rw [List.getD_eq_getElem?_getD,List.getElem?_eq_getElem hlt];rfl)
   have HND:=Lib.hid (fun (j:Nat) (hj:j<k)=>(show nodeN R.length (S[j]'(by omega)).f∧nodeN R.length (S[j]'(by omega)).t by
    have:=made_nodes HE.out hk HA.out j hj
    rw [List.getD_eq_getElem?_getD,List.getElem?_eq_getElem (by omega:j<S.length)] at this
    rw [HLN.out]
    exact this))
   have HED:=Lib.hid (fun p=>refEdge_any (n:Int) es ao cap S[k] (ext wr p) (HC.out.go (HZr.out.st (below_ext wr p))) hl)
   have HTW:=Lib.hid (fun p=>refTwo_any R ro (some ⟨sb,sof,none⟩) rc sc k S (ext wr p) (HR.out.go (HZr.out.st (below_ext wr p))) (HS.out.go (HZr.out.st (below_ext wr p))) hlt hsl hrl HND.out)
   unfold TwoPost at HTW
   generalize S[k]=x at*
   have e0:=fun p=>cell_ext p b0
   have e1:=fun p=>cell_ext p b1
   have e2:=fun p=>cell_ext p b2
   have e3:=fun p=>cell_ext p b3
   have f0:=fun p=>cell_ext p y0
   have f1:=fun p=>cell_ext p y1
   have f2:=fun p=>cell_ext p y2
   have f3:=fun p=>cell_ext p y3
   have f4:=fun p=>cell_ext p y4
   have f5:=fun p=>cell_ext p y5
   go_upto_region 6 with (fail)
   obtain ⟨W8,hW8⟩:∃W8,W8=wr:=⟨_,rfl⟩
   rw [←hW8] at HED HTW e0 e1 e2 e3 f0 f1 f2 f3 f4 f5 HZr ⊢
   clear hW8 b0 b1 b2 b3 y0 y1 y2 y3 y4 y5
   go_cut [38] from 25 to 39 (fun v38 wc=>∃b,v38=.bool b∧b=(!madeB es R S k)∧Below W8.heap.size W8 wc)
   case first=>
    generalize edgeF es x=eb at*
    generalize twoF R S k x=tb at*
    cases eb
    all_goals
     refine wp_region_ext (by kernel_rfl) (by kernel_rfl) ?_
     repeat (go_big_quiet_step ((first
      |(go_at_call 137;exact Calls.ext_of (HED.out _))
      |(go_at_call 138;exact Calls.ext_of (HTW.out _)))))
     refine wpQuiet_nil ?_
     rintro _ ⟨p4,rfl⟩
     have HB4:=Lib.hid (below_ext W8 p4)
     generalize ext W8 p4=w4 at HB4 ⊢
     go_wp2_with fail
     go_meet
     exact ⟨_,rfl,by rw [HMB.out];rfl,HB4.out⟩
   case rest=>
    obtain ⟨b,rfl,hbm,hzc⟩:=hcut
    have HZC:=Lib.hid (HZr.out.st hzc)
    cases hm:madeB es R S k with
    |true=>
     rw [hm] at hbm
     have HA2:=Lib.hid (show ∀j,j<k+1→madeB es R S j=true from fun j hj=>by
      by_cases e:j=k
      ·rw [e];exact hm
      ·exact HA.out j (by omega))
     clear hm hzc
     subst hbm
     go_wp2
     go_roundg (S.length-(k+1))
     case measure=>omega
     case rel=>exact ⟨k+1,by omega,Nat.le_refl _,by go_num,HZC.out,HA2.out⟩
    |false=>
     rw [hm] at hbm
     have HF:=Lib.hid (HNO.out k hlt hm)
     clear hm hzc
     subst hbm
     go_wp2
     go_ret
     exact ⟨by rw [HF.out];rfl,HB.out.st HZC.out⟩
  ·obtain rfl:k=S.length:=by omega
   have HF:=Lib.hid (HYES.out HA.out)
   go_wp2
   go_ret
   exact ⟨by rw [HF.out];rfl,HB.out.st HZr.out⟩
set_option maxRecDepth 100000 in
set_option maxHeartbeats 4000000 in
theorem refMade_any (g:GD) (n:Nat) (R:List Int) (S:List SC) (ao ro so:Option Addr) (cap rc sc:Nat) (w:World) (hn:g.n=(n:Int)∨rightG g≠0) (hc:Cel w ao (flat g.es)) (hr:Cel w ro (R.map encI)) (hS:Cel w so (flatS S)) (hl:g.es.length≤1000000) (hrl:R.length≤1000000) (hsl:S.length≤1000000) (hsc:S.length≤sc):
  Calls Tryz.prog 55 #[gV g.n ao g.es.length cap,.agg #[.slice ro R.length rc,.slice so S.length sc]] w (MadePost (madeR g R S) w):=by
 obtain ⟨W,hW⟩:∃W,W=(w.alloc (Obj.cells #[.int .i64 g.n,.slice ao g.es.length cap] 24)).alloc (Obj.cells #[.slice ro R.length rc,.slice so S.length sc] 45):=⟨_,rfl⟩
 have hbw:Below w.heap.size w W:=by rw [hW];exact (Below.of_al _ _).al _
 have c0:W.cell? ⟨w.heap.size,0,none⟩=some (.int .i64 g.n):=by rw [hW];go_simp
 have c1:W.cell? ⟨w.heap.size,1,none⟩=some (.slice ao g.es.length cap):=by rw [hW];go_simp
 have d0:W.cell? ⟨w.heap.size+1,0,none⟩=some (.slice ro R.length rc):=by rw [hW];go_simp
 have d1:W.cell? ⟨w.heap.size+1,1,none⟩=some (.slice so S.length sc):=by rw [hW];go_simp
 have HGR:=Lib.hid (show Calls Tryz.prog 41 #[gV g.n ao g.es.length cap] W (fun e w'=>e=.returned (.int .i64 (rightG g))∧Below W.heap.size W w') from refRightG_any g ao cap W (by omega) (hc.go hbw))
 have HRK:=Lib.hid (fun W' (h:Below W.heap.size W W')=>refRkR_any R ro rc W' hrl ((hr.go hbw).go h))
 have HW:=Lib.hid hW
 have HB:=Lib.hid hbw
 have HC:=Lib.hid (hc.go hbw)
 have HR:=Lib.hid (hr.go hbw)
 have HS:=Lib.hid (hS.go hbw)
 have HM:=Lib.hid (show madeR g R S=if rightG g≠0 then (-2,false) else if (R.length:Int)≠g.n∨rankB R=false then (-1,false) else (match firstBad g.es R S with|some i=>((i:Int),false)|none=>(0,true)) from rfl)
 have hsl2:(S.length:Int)≤1000000:=by omega
 have hrl2:(R.length:Int)≤1000000:=by omega
 generalize madeR g R S=mr at*
 clear hW hbw hc hr hS
 by_cases hgz:rightG g=0
 rotate_left
 ·have hm:=HM.out
  rw [if_pos hgz] at hm
  have hb2:(rightG g != 0)=true:=by simpa using hgz
  have HM2:=Lib.hid hm
  clear hm HM hgz
  generalize rightG g=rg at*
  go_enter Tryz.func55,Tryz.ntmps55
  go_upto_region 1 with (fail)
  rw [←HW.out]
  go_wp2_with (go_at_call 41;refine HGR.out.mono ?_;rintro e w1 ⟨rfl,hb1⟩)
  refine bodyPost_ret (v:=.tuple #[.int .i64 (-2),.bool false]) (by simp [results,Tryz.results55,go_sem];try rfl) rfl ?_
  exact .mk HM2.out (HB.out.st hb1)
 ·have hgn:g.n=(n:Int):=hn.resolve_right (fun h=>h hgz)
  have HE:=Lib.hid (edges_ok hgz hgn)
  have hm:=HM.out
  rw [if_neg (by simp [hgz])] at hm
  rw [hgz] at HGR
  clear hn HM
  obtain ⟨gn,es⟩:=g
  dsimp only at*
  subst hgn
  have HM:=Lib.hid hm
  clear hm
  by_cases hln:R.length=n
  rotate_left
  ·have hm:=HM.out
   rw [if_pos (.inl (by omega))] at hm
   have HM2:=Lib.hid hm
   have hb:((R.length:Int) != (n:Int))=true:=by simp;omega
   have hb2:((R.length:Int)==(n:Int))=false:=by simp;omega
   clear hm HM hln hgz
   go_enter Tryz.func55,Tryz.ntmps55
   go_upto_region 1 with (fail)
   rw [←HW.out]
   go_wp2_with (go_at_call 41;refine HGR.out.mono ?_;rintro e w1 ⟨rfl,hb1⟩;(have c0':=cell_later hb1 c0);(have d0':=cell_later hb1 d0))
   refine bodyPost_ret (v:=.tuple #[.int .i64 (-1),.bool false]) (by simp [results,Tryz.results55,go_sem];try rfl) rfl ?_
   exact .mk HM2.out (HB.out.st hb1)
  ·have hb:((R.length:Int) != (n:Int))=false:=by simp;omega
   have hb2:((R.length:Int)==(n:Int))=true:=by simp;omega
   cases hrk:rankB R with
   |false=>
    have hm:=HM.out
    rw [if_pos (.inr hrk)] at hm
    have HM2:=Lib.hid hm
    rw [hrk] at HRK
    clear hm HM hln hgz hrk
    go_enter Tryz.func55,Tryz.ntmps55
    go_upto_region 1 with (fail)
    rw [←HW.out]
    go_wp2_with (first
     |(go_at_call 41;refine HGR.out.mono ?_;rintro e w1 ⟨rfl,hb1⟩;(have c0':=cell_later hb1 c0);(have d0':=cell_later hb1 d0);(have HB1:=Lib.hid hb1);clear hb1)
     |(go_at_call 98;refine (HRK.out _ HB1.out).mono ?_;rintro e w2 ⟨rfl,rfl⟩))
    refine bodyPost_ret (v:=.tuple #[.int .i64 (-1),.bool false]) (by simp [results,Tryz.results55,go_sem];try rfl) rfl ?_
    exact .mk HM2.out (HB.out.st HB1.out)
   |true=>
    have hm:=HM.out
    rw [if_neg (by rw [hrk];simp;omega)] at hm
    have HM2:=Lib.hid hm
    rw [hrk] at HRK
    have HLN:=Lib.hid hln
    have HRB:=Lib.hid hrk
    clear hm HM hln hgz hrk
    go_enter Tryz.func55,Tryz.ntmps55
    go_upto_region 1 with (fail)
    rw [←HW.out]
    go_wp2_with (first
     |(go_at_call 41;refine HGR.out.mono ?_;rintro e w1 ⟨rfl,hb1⟩;(have c0':=cell_later hb1 c0);(have d0':=cell_later hb1 d0);(have HB1:=Lib.hid hb1);clear hb1)
     |(go_at_call 98;refine (HRK.out _ HB1.out).mono ?_;rintro e w2 ⟨rfl,rfl⟩))
    go_loopg [6] S.length (fun gm v6 wr=>∃k:Nat,k≤S.length∧S.length-k≤gm∧v6=.int .i64 k∧Aside (Below W.heap.size W wr)∧Aside (∀j,j<k→madeB es R S j=true))
    case atStart=>exact ⟨0,Nat.zero_le _,by omega,rfl,HB1.out,fun j hj=>absurd hj (Nat.not_lt_zero _)⟩
    case round=>
     clear c0' d0'
     obtain ⟨k,hk,hg,rfl,HZ,HA⟩:=hrel
     have HZr:=Lib.hid HZ.out
     have b0:=cell_later HZr.out c0
     have b1:=cell_later HZr.out c1
     have b2:=cell_later HZr.out d0
     have b3:=cell_later HZr.out d1
     clear c0 c1 d0 d1
     by_cases hlt:k<S.length
     ·have hlt2:(k:Int)<(S.length:Int):=by omega
      have hk0:(0:Int)≤(k:Int)+1:=by omega
      have hksc:(k:Int)+1≤(sc:Int):=by omega
      have hksc2:k+1≤sc:=by omega
      obtain ⟨sb,sof,e,-⟩:=cel_sc6 (HS.out.go HZr.out) hlt
      subst e
      have htl:(S.take (k+1)).length=k+1:=by rw [List.length_take];omega
      have HML:=Lib.hid (show hmB es R (S.take (k+1))=madeB es R S k from by
       cases hm:madeB es R S k with
       |true=>
        refine hmB_yes fun j hj=>?_
        rw [htl] at hj
        rw [madeB_take hj]
        by_cases e:j=k
        ·rw [e];exact hm
        ·exact HA.out j (by omega)
       |false=>exact hmB_no (j:=k) (by omega) (by rw [madeB_take (by omega)];exact hm))
      have HHM:=Lib.hid (fun p=>refHM_any n es R (S.take (k+1)) ao ro (some ⟨sb,sof,none⟩) cap rc sc (ext wr p) HE.out (HC.out.go (HZr.out.st (below_ext wr p))) (HR.out.go (HZr.out.st (below_ext wr p))) (cel_takeS (HS.out.go (HZr.out.st (below_ext wr p)))) hl hrl (by omega) HLN.out HRB.out)
      unfold TwoPost at HHM
      rw [HML.out,htl] at HHM
      have e0:=fun p=>cell_ext p b0
      have e1:=fun p=>cell_ext p b1
      have e2:=fun p=>cell_ext p b2
      have e3:=fun p=>cell_ext p b3
      clear htl HML
      cases hm:madeB es R S k with
      |true=>
       rw [hm] at HHM
       have HA2:=Lib.hid (show ∀j,j<k+1→madeB es R S j=true from fun j hj=>by
        by_cases e:j=k
        ·rw [e];exact hm
        ·exact HA.out j (by omega))
       clear hm
       go_upto_region 8 with (fail)
       clear b0 b1 b2 b3
       refine wp_region_ext (by kernel_rfl) (by kernel_rfl) ?_
       repeat (go_big_quiet_step ((go_at_call 99;exact Calls.ext_of (HHM.out _))))
       refine wpQuiet_nil ?_
       rintro _ ⟨p4,rfl⟩
       have HB4:=Lib.hid (below_ext wr p4)
       generalize ext wr p4=w4 at HB4 ⊢
       have HZC:=Lib.hid (HZr.out.st HB4.out)
       go_wp2
       go_roundg (S.length-(k+1))
       case measure=>omega
       case rel=>exact ⟨k+1,by omega,Nat.le_refl _,by go_num,HZC.out,HA2.out⟩
      |false=>
       rw [hm] at HHM
       have hm3:=HM2.out
       rw [firstBad_some hlt HA.out hm] at hm3
       have HM3:=Lib.hid hm3
       clear hm hm3
       go_upto_region 8 with (fail)
       clear b0 b1 b2 b3
       refine wp_region_ext (by kernel_rfl) (by kernel_rfl) ?_
       repeat (go_big_quiet_step ((go_at_call 99;exact Calls.ext_of (HHM.out _))))
       refine wpQuiet_nil ?_
       rintro _ ⟨p4,rfl⟩
       have HB4:=Lib.hid (below_ext wr p4)
       generalize ext wr p4=w4 at HB4 ⊢
       have HZC:=Lib.hid (HZr.out.st HB4.out)
       go_wp2
       refine bodyPost_ret (v:=.tuple #[.int .i64 (k:Int),.bool false]) (by simp [results,Tryz.results55,go_sem];try rfl) rfl ?_
       exact .mk HM3.out (HB.out.st HZC.out)
     ·obtain rfl:k=S.length:=by omega
      have hm:=HM2.out
      rw [firstBad_none HA.out] at hm
      have HM3:=Lib.hid hm
      clear hm HM2
      go_wp2
      refine bodyPost_ret (v:=.tuple #[.int .i64 0,.bool true]) (by simp [results,Tryz.results55,go_sem];try rfl) rfl ?_
      exact .mk HM3.out (HB.out.st HZr.out)
end Go.Proofs.YtkdomobedfhhgaaGreat
