/- Walks over the reference of unpack: which edges a shortcut stands for, and how deep they lie. -/
import Derived.Test.YtkdomobedfhhgaaGreatProg
import Derived.Test.YtkdomobedfhhgaaGreatSm01
import Derived.Test.YtkdomobedfhhgaaGreatQm26
import Derived.Test.YtkdomobedfhhgaaGreatSm04
import Derived.Deep.CutRange
set_option linter.unusedVariables false
set_option linter.unusedSimpArgs false
set_option linter.unnecessarySimpa false
namespace Go.Proofs.YtkdomobedfhhgaaGreat
open Go Go.Proofs Go.RowKit Go.Shelf Go.Proofs.YtkdomobedfhhgaaGreat.Hp Go.Proofs.YtkdomobedfhhgaaGreat.Ch
def RowI (l:List Int) (v:Value) (W:World):Prop:=∃(a:Option Addr) (c:Nat),v=.slice a l.length c∧Cel W a (l.map encI)
theorem RowI.go {l:List Int} {v:Value} {w w':World} (h:RowI l v w) (hb:Below w.heap.size w w'):RowI l v w':=by
 obtain ⟨a,c,e,hc⟩:=h
 exact ⟨a,c,e,hc.go hb⟩
def UrPost (l:List Int) (w:World) (e:Ending) (w':World):Prop:=∃v,e=.returned v∧RowI l v w'∧Below w.heap.size w w'
def urR (hv:Value) (sb5 a b:Nat) (la lb:List Int):Nat→Value→World→Prop
 |0,v,_=>v=hv
 |1,v,_=>v=.pointer (some ⟨sb5,4,none⟩)
 |2,v,_=>v=.int .i64 (a:Int)
 |3,v,W=>RowI la v W
 |4,v,_=>v=hv
 |5,v,_=>v=.pointer (some ⟨sb5,5,none⟩)
 |6,v,_=>v=.int .i64 (b:Int)
 |7,v,W=>RowI lb v W
 |8,v,W=>RowI (la++lb) v W
 |9,v,W=>RowI (la++lb) v W
 |_,_,_=>True
theorem urR_go {hv:Value} {sb5 a b:Nat} {la lb:List Int}:∀(k:Nat) (v:Value) (w w':World),Below w.heap.size w w'→urR hv sb5 a b la lb k v w→urR hv sb5 a b la lb k v w'
 |0,_,_,_,_,h|1,_,_,_,_,h|2,_,_,_,_,h|4,_,_,_,_,h|5,_,_,_,_,h|6,_,_,_,_,h=>h
 |3,_,_,_,hb,h|7,_,_,_,hb,h|8,_,_,_,hb,h|9,_,_,_,hb,h=>RowI.go h hb
 |_+10,_,_,_,_,_=>trivial
set_option maxRecDepth 100000 in
set_option maxHeartbeats 4000000 in
theorem refUnE_any (R:List Int) (S:List SC) (hF:FedS S) (ro so:Option Addr) (rc sc:Nat) (hl4:∀i,i<S.length→(unL S i).length≤4096) (hsl:S.length≤1000000):∀(i:Nat),i<S.length→∀w,Cel w so (flatS S)→
  Calls Tryz.prog 58 #[.agg #[.slice ro R.length rc,.slice so S.length sc],.int .i64 (i:Int)] w (UrPost (unL S i) w):=by
 intro i
 induction i using Nat.strongRecOn with
 |ind i ih=>
  intro hi w hS
  have hgk:S.getD i scZ=S[i]:=by rw [List.getD_eq_getElem?_getD,List.getElem?_eq_getElem hi];rfl
  obtain ⟨sb,sof,e,s0,s1,s2,s3,s4,s5⟩:=cel_sc6 hS hi
  subst e
  have hfd:=hF i hi
  rw [hgk] at hfd
  obtain ⟨x,hx⟩:∃x,x=S[i]:=⟨_,rfl⟩
  rw [←hx] at s0 s1 s2 s3 s4 s5 hgk hfd
  have hi0:(0:Int)≤(i:Int):=by omega
  have hi1:(i:Int)<(S.length:Int):=by omega
  obtain ⟨W0,hW0⟩:∃W0,W0=w.alloc (Obj.cells #[.slice ro R.length rc,.slice (some ⟨sb,sof,none⟩) S.length sc] 45):=⟨_,rfl⟩
  have hb0:Below w.heap.size w W0:=by rw [hW0];exact Below.of_al _ _
  have r0:W0.cell? ⟨w.heap.size,0,none⟩=some (.slice ro R.length rc):=by rw [hW0];go_simp
  have a0:W0.cell? ⟨w.heap.size,1,none⟩=some (.slice (some ⟨sb,sof,none⟩) S.length sc):=by rw [hW0];go_simp
  obtain ⟨W,hW⟩:∃W,W=W0.alloc (Obj.cells #[.int .i64 x.f,.int .i64 x.t,.int .u64 x.w,.int .i64 x.e,.int .i64 x.a,.int .i64 x.b] 79):=⟨_,rfl⟩
  have hb1:Below W0.heap.size W0 W:=by rw [hW];exact Below.of_al _ _
  have hxb:XB W W0.heap.size x:=by rw [hW];constructor<;>go_simp
  have t0:=cell_later hb0 s0
  have t1:=cell_later hb0 s1
  have t2:=cell_later hb0 s2
  have t3:=cell_later hb0 s3
  have t4:=cell_later hb0 s4
  have t5:=cell_later hb0 s5
  have q0:=cell_later hb1 r0
  have q1:=cell_later hb1 a0
  have HXB:=Lib.hid hxb
  have HW0:=Lib.hid hW0
  have HW:=Lib.hid hW
  have HB:=Lib.hid (hb0.st hb1)
  have HS:=Lib.hid (hS.go (hb0.st hb1))
  have HIH:=Lib.hid ih
  clear hW hW0 hS ih s0 s1 s2 s3 s4 s5 hx
  unfold UrPost
  rcases hfd with he|⟨he,a,b,hea,heb,hab,hbb⟩
  ·have HL:=Lib.hid (unL_edge (S:=S) (i:=i) (by rw [hgk];exact he))
   rw [hgk] at HL
   generalize unL S i=L at*
   obtain ⟨x0,x1,x2,x3,x4,x5⟩:=hxb
   have he1:decide (0≤x.e)=true:=by simpa using he
   clear he HIH hF hl4 hb0 hb1
   go_enter Tryz.func58,Tryz.ntmps58
   go_upto_region 1 with (fail)
   rw [←HW0.out]
   go_upto_region 2 with (fail)
   rw [←HW.out]
   go_wp2
   refine bodyPost_ret (v:=.slice (some ⟨W.heap.size,0,none⟩) 1 1) (by simp [results,Tryz.results58,go_sem];try rfl) rfl ?_
   refine ⟨_,rfl,⟨_,1,by rw [HL.out];rfl,?_⟩,HB.out.al _⟩
   rw [HL.out]
   intro j u hj
   match j,hj with
   |0,hj=>exact ⟨W.heap.size,0,rfl,by cases hj;go_simp⟩
   |j+1,hj=>simp at hj
  ·have hL:=unL_two hF hi (by rw [hgk];exact he) (by rw [hgk];exact hea) (by rw [hgk];exact heb) hab hbb
   have HA:=Lib.hid (fun W' (hz:Below W.heap.size W W')=>HIH.out a hab (by omega) W' (HS.out.go hz))
   have HBB:=Lib.hid (fun W' (hz:Below W.heap.size W W')=>HIH.out b hbb (by omega) W' (HS.out.go hz))
   have hla:=hl4 a (by omega)
   have hlb:=hl4 b (by omega)
   unfold UrPost at HA HBB
   rw [hL]
   generalize unL S a=la at*
   generalize unL S b=lb at*
   obtain ⟨x0,x1,x2,x3,x4,x5⟩:=hxb
   have he1:decide (0≤x.e)=false:=by simpa using he
   rw [hea] at x4
   rw [heb] at x5
   have HJ:=Lib.hid (fun va vb W' (h1:RowI la va W') (h2:RowI lb vb W')=>(show Calls Tryz.prog 57 #[va,vb] W' (fun e w'=>∃v,e=.returned v∧RowI (la++lb) v w'∧Below W'.heap.size W' w') by
    obtain ⟨aa,ca,rfl,ha⟩:=h1
    obtain ⟨ab,cb,rfl,hb⟩:=h2
    refine (refJoin_any aa ab ca cb la lb W' (by omega) (by omega) ha hb).mono ?_
    rintro e w' ⟨ao',cap',rfl,h3,h4⟩
    exact ⟨_,rfl,⟨_,_,rfl,h3⟩,h4⟩))
   have HXE:=Lib.hid (And.intro hea heb)
   clear he HIH hF hl4 hb0 hb1 hL hla hlb hea heb
   go_enter Tryz.func58,Tryz.ntmps58
   go_upto_region 1 with (fail)
   rw [←HW0.out]
   go_upto_region 2 with (fail)
   rw [←HW.out]
   go_upto_region 4 with (fail)
   clear r0 a0 t0 t1 t2 t3 t4 t5 x0 x1 x2 x3
   go_cut [4] from 6 (fun v4 wc=>RowI (la++lb) v4 wc∧Below W.heap.size W wc)
   case first=>
    rename_i J K2 hJ hK2
    refine wp_region_grows_act 10 rfl (urR (.agg #[.slice ro R.length rc,.slice (some ⟨sb,sof,none⟩) S.length sc]) W0.heap.size a b la lb) (by kernel_rfl) (by kernel_rfl) urR_go ?_ ?_
    ·refine ⟨?_,?_,?_,?_,?_,?_,?_,?_,?_,?_,trivial⟩
     ·intro act w' hbe hd ho K hK
      have g2:act.tmps.getD 2 undef=.pointer (some ⟨w.heap.size,0,none⟩):=ho 2 (by kernel_rfl)
      have f0:=cell_later hbe q0
      have f1:=cell_later hbe q1
      simp [Oper.wp,execOp,Oper.upon,go_sem,Act.eval,g2,f0,f1]
      exact hK _ w' (Below.refl _ _) rfl
     ·intro act w' hbe hd ho K hK
      have g5:act.tmps.getD 5 undef=.pointer (some ⟨W0.heap.size,0,none⟩):=ho 5 (by kernel_rfl)
      simp [Oper.wp,execOp,Oper.upon,go_sem,Act.eval,g5]
      exact hK _ w' (Below.refl _ _) rfl
     ·intro act w' hbe hd ho K hK
      have e1:act.tmps.getD 18 undef=.pointer (some ⟨W0.heap.size,4,none⟩):=hd 1 (by rfl)
      have f0:=cell_later hbe x4
      simp [Oper.wp,execOp,Oper.upon,go_sem,Act.eval,e1,f0]
      exact hK _ w' (Below.refl _ _) rfl
     ·intro act w' hbe hd ho K hK
      have e0:act.tmps.getD 17 undef=.agg #[.slice ro R.length rc,.slice (some ⟨sb,sof,none⟩) S.length sc]:=hd 0 (by rfl)
      have e2:act.tmps.getD 19 undef=.int .i64 (a:Int):=hd 2 (by rfl)
      simp [Oper.wp,execOp,Oper.upon,go_sem,Act.eval,e0,e2]
      refine (HA.out w' hbe).mono ?_
      rintro e w6 ⟨v,rfl,h1,h2⟩
      exact hK _ w6 h2 h1
     ·intro act w' hbe hd ho K hK
      have g2:act.tmps.getD 2 undef=.pointer (some ⟨w.heap.size,0,none⟩):=ho 2 (by kernel_rfl)
      have f0:=cell_later hbe q0
      have f1:=cell_later hbe q1
      simp [Oper.wp,execOp,Oper.upon,go_sem,Act.eval,g2,f0,f1]
      exact hK _ w' (Below.refl _ _) rfl
     ·intro act w' hbe hd ho K hK
      have g5:act.tmps.getD 5 undef=.pointer (some ⟨W0.heap.size,0,none⟩):=ho 5 (by kernel_rfl)
      simp [Oper.wp,execOp,Oper.upon,go_sem,Act.eval,g5]
      exact hK _ w' (Below.refl _ _) rfl
     ·intro act w' hbe hd ho K hK
      have e1:act.tmps.getD 22 undef=.pointer (some ⟨W0.heap.size,5,none⟩):=hd 5 (by rfl)
      have f0:=cell_later hbe x5
      simp [Oper.wp,execOp,Oper.upon,go_sem,Act.eval,e1,f0]
      exact hK _ w' (Below.refl _ _) rfl
     ·intro act w' hbe hd ho K hK
      have e0:act.tmps.getD 21 undef=.agg #[.slice ro R.length rc,.slice (some ⟨sb,sof,none⟩) S.length sc]:=hd 4 (by rfl)
      have e2:act.tmps.getD 23 undef=.int .i64 (b:Int):=hd 6 (by rfl)
      simp [Oper.wp,execOp,Oper.upon,go_sem,Act.eval,e0,e2]
      refine (HBB.out w' hbe).mono ?_
      rintro e w6 ⟨v,rfl,h1,h2⟩
      exact hK _ w6 h2 h1
     ·intro act w' hbe hd ho K hK
      obtain ⟨aa,ca,ea,ha⟩:RowI la (act.tmps.getD 20 undef) w':=hd 3 (by rfl)
      obtain ⟨ab,cb,eb,hb⟩:RowI lb (act.tmps.getD 24 undef) w':=hd 7 (by rfl)
      simp [Oper.wp,execOp,Oper.upon,go_sem,Act.eval,ea,eb]
      refine (HJ.out _ _ w' ⟨aa,ca,rfl,ha⟩ ⟨ab,cb,rfl,hb⟩).mono ?_
      rintro e w6 ⟨v,rfl,h3,h4⟩
      exact hK _ w6 h4 h3
     ·intro act w' hbe hd ho K hK
      obtain ⟨a6,c6,e6,hu⟩:RowI (la++lb) (act.tmps.getD 25 undef) w':=hd 8 (by rfl)
      simp [Oper.wp,execOp,Oper.upon,go_sem,Act.eval,e6]
      exact hK _ w' (Below.refl _ _) ⟨a6,c6,by rw [List.length_append],hu⟩
    ·intro vs w' hb1 hR
     simp only [puts,dstAt,List.getElem?_cons_zero,List.getElem?_cons_succ,Option.bind_some,Option.getD_some,Act.put,List.length_cons,List.length_nil,Nat.reduceAdd,List.setIfInBounds_toArray,List.set_cons_zero,List.set_cons_succ]
     refine hK2 _ _ ?_
     go_meet
     exact ⟨hR 9 (by decide),hb1⟩
   case rest=>
    obtain ⟨⟨a9,c9,rfl,hrc⟩,hbc⟩:=hcut
    have HRC:=Lib.hid hrc
    have HBC:=Lib.hid (HB.out.st hbc)
    clear hrc hbc
    go_wp2
    go_ret
    exact ⟨_,rfl,⟨_,_,rfl,HRC.out⟩,HBC.out⟩
set_option maxRecDepth 100000 in
set_option maxHeartbeats 4000000 in
theorem refUnD_any (R:List Int) (S:List SC) (hF:FedS S) (ro so:Option Addr) (rc sc:Nat) (hsl:S.length≤1000000):∀(i:Nat),i<S.length→∀w,Cel w so (flatS S)→
  Calls Tryz.prog 60 #[.agg #[.slice ro R.length rc,.slice so S.length sc],.int .i64 (i:Int)] w fun e w'=>e=.returned (.int .i64 ((deL S i:Nat):Int))∧Below w.heap.size w w':=by
 intro i
 induction i using Nat.strongRecOn with
 |ind i ih=>
  intro hi w hS
  have hgk:S.getD i scZ=S[i]:=by rw [List.getD_eq_getElem?_getD,List.getElem?_eq_getElem hi];rfl
  obtain ⟨sb,sof,e,s0,s1,s2,s3,s4,s5⟩:=cel_sc6 hS hi
  subst e
  have hfd:=hF i hi
  rw [hgk] at hfd
  obtain ⟨x,hx⟩:∃x,x=S[i]:=⟨_,rfl⟩
  rw [←hx] at s0 s1 s2 s3 s4 s5 hgk hfd
  have hi0:(0:Int)≤(i:Int):=by omega
  have hi1:(i:Int)<(S.length:Int):=by omega
  obtain ⟨W0,hW0⟩:∃W0,W0=w.alloc (Obj.cells #[.slice ro R.length rc,.slice (some ⟨sb,sof,none⟩) S.length sc] 45):=⟨_,rfl⟩
  have hb0:Below w.heap.size w W0:=by rw [hW0];exact Below.of_al _ _
  have r0:W0.cell? ⟨w.heap.size,0,none⟩=some (.slice ro R.length rc):=by rw [hW0];go_simp
  have a0:W0.cell? ⟨w.heap.size,1,none⟩=some (.slice (some ⟨sb,sof,none⟩) S.length sc):=by rw [hW0];go_simp
  obtain ⟨W,hW⟩:∃W,W=W0.alloc (Obj.cells #[.int .i64 x.f,.int .i64 x.t,.int .u64 x.w,.int .i64 x.e,.int .i64 x.a,.int .i64 x.b] 79):=⟨_,rfl⟩
  have hb1:Below W0.heap.size W0 W:=by rw [hW];exact Below.of_al _ _
  have hxb:XB W W0.heap.size x:=by rw [hW];constructor<;>go_simp
  have t0:=cell_later hb0 s0
  have t1:=cell_later hb0 s1
  have t2:=cell_later hb0 s2
  have t3:=cell_later hb0 s3
  have t4:=cell_later hb0 s4
  have t5:=cell_later hb0 s5
  have q0:=cell_later hb1 r0
  have q1:=cell_later hb1 a0
  have HW0:=Lib.hid hW0
  have HW:=Lib.hid hW
  have HB:=Lib.hid (hb0.st hb1)
  have HS:=Lib.hid (hS.go (hb0.st hb1))
  have HIH:=Lib.hid ih
  obtain ⟨x0,x1,x2,x3,x4,x5⟩:=hxb
  clear hW hW0 hS ih s0 s1 s2 s3 s4 s5 hx
  rcases hfd with he|⟨he,a,b,hea,heb,hab,hbb⟩
  ·have HL:=Lib.hid (deL_edge (S:=S) (i:=i) (by rw [hgk];exact he))
   generalize deL S i=d at*
   have he1:decide (0≤x.e)=true:=by simpa using he
   clear he HIH hF hb0 hb1
   go_enter Tryz.func60,Tryz.ntmps60
   go_upto_region 1 with (fail)
   rw [←HW0.out]
   go_upto_region 2 with (fail)
   rw [←HW.out]
   go_wp2
   go_ret
   exact ⟨by rw [HL.out];rfl,HB.out⟩
  ·have hL:=deL_two hF hi (by rw [hgk];exact he) (by rw [hgk];exact hea) (by rw [hgk];exact heb) hab hbb
   have HA:=Lib.hid (fun p=>HIH.out a hab (by omega) (ext W p) (HS.out.go (below_ext W p)))
   have HBB:=Lib.hid (fun p=>HIH.out b hbb (by omega) (ext W p) (HS.out.go (below_ext W p)))
   have hla:=deL_le hF a (by omega)
   have hlb:=deL_le hF b (by omega)
   have HL:=Lib.hid hL
   have hda:((deL S a:Nat):Int)≤1000000:=by omega
   have hdb:((deL S b:Nat):Int)≤1000000:=by omega
   have hda0:0≤((deL S a:Nat):Int):=by omega
   have hdb0:0≤((deL S b:Nat):Int):=by omega
   have HM:=Lib.hid (show ((1+max (deL S a) (deL S b):Nat):Int)=1+max ((deL S a:Nat):Int) ((deL S b:Nat):Int) by omega)
   generalize deL S i=d at*
   generalize ((deL S a:Nat):Int)=da at*
   generalize ((deL S b:Nat):Int)=db at*
   have he1:decide (0≤x.e)=false:=by simpa using he
   rw [hea] at x4
   rw [heb] at x5
   have f0:=fun p=>cell_ext p q0
   have f1:=fun p=>cell_ext p q1
   have f4:=fun p=>cell_ext p x4
   have f5:=fun p=>cell_ext p x5
   clear he HIH hF hb0 hb1 hL hla hlb hea heb
   go_enter Tryz.func60,Tryz.ntmps60
   go_upto_region 1 with (fail)
   rw [←HW0.out]
   go_upto_region 2 with (fail)
   rw [←HW.out]
   go_upto_region 4 with (fail)
   clear r0 a0 t0 t1 t2 t3 t4 t5 x0 x1 x2 x3 x4 x5 q0 q1
   refine wp_region_ext (by kernel_rfl) (by kernel_rfl) ?_
   repeat (go_big_quiet_step ((first
    |(go_at_call_of 60 (#[.agg #[.slice ro R.length rc,.slice (some ⟨sb,sof,none⟩) S.length sc],.int .i64 (a:Int)]:Array Value);exact Calls.ext_of (HA.out _))
    |(go_at_call_of 60 (#[.agg #[.slice ro R.length rc,.slice (some ⟨sb,sof,none⟩) S.length sc],.int .i64 (b:Int)]:Array Value);exact Calls.ext_of (HBB.out _)))))
   refine wpQuiet_nil ?_
   rintro _ ⟨p4,rfl⟩
   have HB4:=Lib.hid (below_ext W p4)
   generalize ext W p4=w4 at HB4 ⊢
   go_wp2
   go_ret
   exact ⟨by rw [HL.out,HM.out];rfl,HB.out.st HB4.out⟩
end Go.Proofs.YtkdomobedfhhgaaGreat
