/- Walk of package upward: stalls. -/
import Derived.Test.YtkdomobedfhhgaaGreatProg
import Derived.Test.YtkdomobedfhhgaaGreatQm27
import Derived.Test.YtkdomobedfhhgaaGreatQm28
set_option linter.unusedVariables false
set_option linter.unusedSimpArgs false
set_option linter.unnecessarySimpa false
namespace Go.Proofs.YtkdomobedfhhgaaGreat
open Go Go.Proofs Go.RowKit Go.Shelf Go.Proofs.YtkdomobedfhhgaaGreat.Hp Go.Proofs.YtkdomobedfhhgaaGreat.Ch
attribute [local go_sem] Oper.semAt_some
theorem leavesK_end {fn:Func} {tmps:Array Value} {R:Ending→World→Prop} {D:Nat} {W:World} {a:Act} (ha:a={ tmps:=tmps,defers:=[{ target:=.collected D,args:=#[] }] }) (hK:W.heap[D]? =some (.deferred (some [])))
  (h:∀W',OffX (· =D) W W'→∃v,(results fn tmps).run Tryz.prog W'=.ok v W'∧R (.returned v) W'):Exit.noGoto (bodyPostM Fence.wide 4 Tryz.prog fn R) Exit.ret a W:=by
 subst ha
 refine ⟨by simp,.inl ⟨_,_,rfl,run_takeDeferred hK,?_⟩⟩
 exact h _ (.put _ rfl)
def hitB (far:List (Option Int)) (d:Int) (x:Step3):Bool:=match far.getD x.2.1.toNat none with
 |some e=>decide (e+x.2.2<d)
 |none=>false
def hitsB (far:List (Option Int)) (d:Int) (l:List Step3):Bool:=l.any (hitB far d)
theorem hitsB_no {far:List (Option Int)} {d:Int} {l:List Step3} {x:Step3} (h:hitsB far d l=false) (hx:hitB far d x=false):hitsB far d (l++[x])=false:=by
 unfold hitsB at*
 rw [List.any_append,h,List.any_cons,hx]
 rfl
theorem hitsB_yes {far:List (Option Int)} {d:Int} {l:List Step3} {x:Step3} (hx:hitB far d x=true):hitsB far d (l++[x])=true:=by
 unfold hitsB
 rw [List.any_append,List.any_cons,hx]
 simp
theorem hitsB_prefix {far:List (Option Int)} {d:Int} {l m:List Step3} (h:hitsB far d l=true) (hp:l <+:m):hitsB far d m=true:=by
 obtain ⟨t,rfl⟩:=hp
 unfold hitsB at*
 rw [List.any_append,h]
 rfl
structure StI (w0 W Wx:World) (xb hb:Nat) (back:Bool) (sb rb fb hp n:Nat) (va v:Value) (s:US) (d:Int):Prop where
 up:UpW w0 Wx xb hb back sb rb fb hp n va v s
 c0:Wx.cell? ⟨W.heap.size,0,none⟩=some (.pointer (some ⟨xb,0,none⟩))
 c1:Wx.cell? ⟨W.heap.size+1,0,none⟩=some (.int .u64 d)
 c2:Wx.cell? ⟨W.heap.size+2,0,none⟩=some (.bool false)
 z2:Wx.frozen? ⟨W.heap.size+2,0,none⟩=false
 bel:Below W.heap.size W Wx
 sz:W.heap.size+6≤Wx.heap.size
section
variable {w0 W Wx Wy:World} {xb hb:Nat} {back:Bool} {sb rb fb hp n:Nat} {va v:Value} {s:US} {d:Int}
theorem StI.off {D:Nat} (h:StI w0 W Wx xb hb back sb rb fb hp n va v s d) (hw:UpW w0 W xb hb back sb rb fb hp n va v s) (hD:D=W.heap.size+6) (ho:OffX (TurnK D) Wx Wy):StI w0 W Wy xb hb back sb rb fb hp n va v s d:=by
 have hux:=hw.ux
 have hx:=hw.bx.lt
 have hg:=hw.sr.bel.size
 refine ⟨h.up.off ho (fun k hk e=>?_) (fun e=>?_) (fun k e=>?_),ho.cell h.c0 ?_,ho.cell h.c1 ?_,ho.cell h.c2 ?_,(ho.frozen (p:=⟨W.heap.size+2,0,none⟩) (by show W.heap.size+2<_;have:=h.sz;omega) ?_).trans h.z2,h.bel.trans (ho.below h.bel.size (fun k e=>?_)),Nat.le_trans h.sz ho.size⟩
 ·have:=(hux k hk).2;unfold TurnK at e;omega
 ·unfold TurnK at e;omega
 ·unfold TurnK at e;omega
 ·intro e;unfold TurnK at e;simp only at e;omega
 ·intro e;unfold TurnK at e;simp only at e;omega
 ·intro e;unfold TurnK at e;simp only at e;omega
 ·intro e;unfold TurnK at e;simp only at e;omega
 ·unfold TurnK at e;omega
theorem StI.go (h:StI w0 W Wx xb hb back sb rb fb hp n va v s d) (hz:Below Wx.heap.size Wx Wy):StI w0 W Wy xb hb back sb rb fb hp n va v s d:=
 ⟨h.up.go hz,cell_later hz h.c0,cell_later hz h.c1,cell_later hz h.c2,(hz.frozen (p:=⟨W.heap.size+2,0,none⟩) (by show W.heap.size+2<_;have:=h.sz;omega)).trans h.z2,h.bel.st hz,Nat.le_trans h.sz hz.size⟩
end
def StallPost (W:World) (b:Bool) (e:Ending) (w':World):Prop:=e=.returned (.bool b)∧Below W.heap.size W w'
set_option maxHeartbeats 4000000 in
set_option maxRecDepth 100000 in
theorem stalls_any (w0 W:World) (xb hb:Nat) (back:Bool) (sb rb fb hp n:Nat) (va v:Value) (s:US) (es:List EdgeD) (R:List Int) (S:List SC) (O I:List (List Int)) (u:Nat) (d:Int) (h:UpW w0 W xb hb back sb rb fb hp n va v s) (hh:HierM w0 hb n es R S O I) (hu:u<n)
  (hrow:∀i∈(if (back != true) then I else O).getD u [],0≤i∧i<(S.length:Int)) (hends:∀x∈S,nodeN n x.f∧nodeN n x.t) (hto:∀x∈stepsH S O I u (back != true),0≤x.2.1∧x.2.1<n∧0≤x.2.2∧x.2.2≤1152921504606846976)
  (hd:0≤d∧d≤1152921504606846976) (hfar:∀i e,s.far.getD i none=some e→0≤e∧e≤1152921504606846976):
  Calls Tryz.prog 123 #[.pointer (some ⟨xb,0,none⟩),.int .i64 (u:Int),.int .u64 d] W (StallPost W (hitsB s.far d (stepsH S O I u (back != true)))):=by
 have HEA:=Lib.hid (fun w=>each_any hb back true (u:Int) w)
 have HU:=Lib.hid h
 have HH:=Lib.hid hh
 have HRO:=Lib.hid hrow
 have HEN:=Lib.hid hends
 have HTO:=Lib.hid hto
 have HFA:=Lib.hid hfar
 obtain ⟨V,hV⟩:∃V,V=((W.alloc (Obj.cells #[.pointer (some ⟨xb,0,none⟩)] 135)).alloc (Obj.cells #[.int .u64 d] 34)).alloc (Obj.cells #[.bool false] 4):=⟨_,rfl⟩
 have hbV:Below W.heap.size W V:=by rw [hV];exact ((Below.of_al _ _).al _).al _
 have hzV:V.heap.size=W.heap.size+3:=by rw [hV];simp
 have q0:V.cell? ⟨W.heap.size,0,none⟩=some (.pointer (some ⟨xb,0,none⟩)):=by rw [hV];go_simp
 have q1:V.cell? ⟨W.heap.size+1,0,none⟩=some (.int .u64 d):=by rw [hV];go_simp
 have q2:V.cell? ⟨W.heap.size+2,0,none⟩=some (.bool false):=by rw [hV];go_simp
 have z2:V.frozen? ⟨W.heap.size+2,0,none⟩=false:=by rw [hV];go_simp
 have x0:=cell_later hbV (h.bx 0 _ rfl).1
 have x1:=cell_later hbV (h.bx 1 _ rfl).1
 have HUV:=Lib.hid (h.go hbV)
 have HBV:=Lib.hid hbV
 have HZV:=Lib.hid hzV
 have HV:=Lib.hid hV
 have hxl:=h.bx.lt
 unfold StallPost
 clear h hh hrow hends hto hfar hbV hzV hV
 refine (callsIn_wide (n:=4)).1 (callsIn_of_wp_marks Tryz.func123 rfl trivial (wpIn_wide.2 ?_) rfl)
 simp only [Tryz.ntmps123,List.size_toArray,List.length_cons,List.length_nil,Nat.reduceAdd,Nat.reduceSub,Array.replicate_succ,Array.replicate_zero,List.push_toArray,List.append_toArray,List.nil_append,List.cons_append]
 go_upto_region 1 with (fail)
 rw [←HV.out]
 go_wp2_with (go_at_call 124;refine (HEA.out _).mono ?_;rintro e w1 ⟨rfl,hb1,hz1,b0,b1,b2,b3⟩)
 rw [HZV.out] at hb1 hz1 b0 b1 b2 b3 ⊢
 have hbl:Below W.heap.size W w1:=HBV.out.trans (hb1.mono (by omega))
 have hbl0:Below w0.heap.size w0 w1:=HU.out.sr.bel.trans (hbl.mono HU.out.sr.bel.size)
 have HI0:=Lib.hid (show StI w0 W w1 xb hb back sb rb fb hp n va v s d from ⟨HUV.out.go (by rw [HZV.out];exact hb1),(World.cell?_of_block (a:=⟨W.heap.size,0,none⟩) (hb1.block _ (by show W.heap.size<_;omega))).trans q0,(World.cell?_of_block (a:=⟨W.heap.size+1,0,none⟩) (hb1.block _ (by show W.heap.size+1<_;omega))).trans q1,
  (World.cell?_of_block (a:=⟨W.heap.size+2,0,none⟩) (hb1.block _ (by show W.heap.size+2<_;omega))).trans q2,(World.frozen?_of_block (a:=⟨W.heap.size+2,0,none⟩) (hb1.block _ (by show W.heap.size+2<_;omega))).trans z2,hbl,by omega⟩)
 have hkB:∀j,KpU w0.heap.size (W.heap.size+3) j→j<w1.heap.size:=by
  rintro j (h|h)
  ·have:=hbl0.size;omega
  ·omega
 have HSEQ:=Lib.hid (each_gives 3 (by decide) hb n es R S O I back true u (W.heap.size+3) w0 w1 HH.out (fun k hk=>hbl0.block k hk) hkB hu HRO.out HEN.out b0 b1 b2 b3)
 have hz0:w1.heap.size=W.heap.size+6:=by omega
 have HZ:=Lib.hid hz0
 have HKB:=Lib.hid hkB
 clear hb1 hz1 b0 b1 b2 b3 hbl hbl0 hkB hz0 q0 q1 q2 z2 x0 x1 HEA HUV HV
 refine (wpIn_wide (n:=4)).1 (wpIn_rangeK rfl (by decide) (gf:=161) rfl trivial (enters_of Tryz.func161 (by kernel_rfl) rfl) HSEQ.out HKB.out (fun _=>rfl)
  (fun pre Wx=>StI w0 W Wx xb hb back sb rb fb hp n va v s d∧hitsB s.far d pre=false)
  (fun c pre Wx=>c=.ret∧hitsB s.far d pre=true∧Wx.cell? ⟨W.heap.size+2,0,none⟩=some (.bool true)∧Below W.heap.size W Wx∧W.heap.size+6≤Wx.heap.size)
  (fun pre Wx Wy h ho=>⟨h.1.off HU.out HZ.out ho,h.2⟩)
  (fun c pre Wx Wy h ho=>⟨h.1,h.2.1,ho.cell h.2.2.1 (by intro e;unfold TurnK at e;simp only at e;have:=HZ.out;omega),h.2.2.2.1.trans (ho.below h.2.2.2.1.size (fun k e=>by unfold TurnK at e;have:=HZ.out;omega)),Nat.le_trans h.2.2.2.2 ho.size⟩)
  ⟨HI0.out,rfl⟩
  (fun x Wx=>{ tmps:=#[.pointer (some ⟨xb,0,none⟩),.int .i64 (u:Int),.int .u64 d,.pointer (some ⟨W.heap.size,0,none⟩),undef,.pointer (some ⟨W.heap.size+1,0,none⟩),.pointer (some ⟨W.heap.size+1+1,0,none⟩),undef,.pointer (some ⟨Wx.heap.size,0,none⟩),undef,undef,.pointer (some ⟨xb,0,none⟩),.pointer (some ⟨xb,0,none⟩),.pointer (some ⟨xb,0,none⟩),.agg #[.pointer (some ⟨hb,0,none⟩),.bool back],.int .i64 (u:Int),
   .func (.func 161) #[] #[.pointer (some ⟨W.heap.size+3,0,none⟩),.pointer (some ⟨W.heap.size+3+1,0,none⟩),.pointer (some ⟨W.heap.size+3+2,0,none⟩)],.int .i64 x.1,.agg #[.int .i64 0,.int .i64 x.2.1,.int .u64 x.2.2,.int .i64 0,.int .i64 0,.int .i64 0],undef,undef,undef,undef,undef,undef,undef,undef,undef,undef,undef,undef,undef,undef,undef,undef,undef,undef,undef],defers:=[] })
  (fun x Wx=>Wx.alloc (Obj.cells #[.int .i64 0,.int .i64 x.2.1,.int .u64 x.2.2,.int .i64 0,.int .i64 0,.int .i64 0] 79)) (fun x Wx=>Below.of_al _ _) ?assign ?body ?done ?stop)
 case assign=>
  intro l x Wx K hK
  dsimp only [encT]
  gi_wp2
  exact hK
 case body=>
  rintro l pre ⟨xi,xt,xw⟩ W0 Wx ⟨hI,hno⟩ hpx hsz ho
  obtain ⟨t0,t1,t2,t3⟩:=HTO.out (xi,xt,xw) (hpx.subset (by simp))
  simp only at t0 t1 t2 t3
  obtain ⟨t,rfl⟩:∃t:Nat,xt=t:=⟨xt.toNat,by omega⟩
  have hDz:w1.heap.size+1≠W0.heap.size:=by omega
  have y1:=ho.cell (p:=⟨W0.heap.size,1,none⟩) (v:=.int .i64 (t:Int)) (by go_simp) (fun e=>hDz (by unfold TurnK at e;exact e.symm))
  have y2:=ho.cell (p:=⟨W0.heap.size,2,none⟩) (v:=.int .u64 xw) (by go_simp) (fun e=>hDz (by unfold TurnK at e;exact e.symm))
  have hWx:W0.heap.size+1≤Wx.heap.size:=by have h9:=ho.size;rwa [World.size_alloc] at h9
  have c0:=hI.c0
  have c1:=hI.c1
  have c2:=hI.c2
  have z2:=hI.z2
  have x1:=(hI.up.bx 2 _ rfl).1
  have HI:=Lib.hid hI
  clear hI
  have hli:t<s.far.length:=by have:=HU.out.lens.1;omega
  have HG:=Lib.hid (fun Wz (hz:Below Wx.heap.size Wx Wz)=>sGet_any sb rb t s.far Wz (HI.out.up.sr.s1.go hz) hli)
  have hex:s.far.getD t none=s.far[t]:=by rw [List.getD_eq_getElem?_getD,List.getElem?_eq_getElem hli];rfl
  have HHB:=Lib.hid (show hitB s.far d (xi,(t:Int),xw)=match s.far[t] with|some e=>decide (e+xw<d)|none=>false by unfold hitB;simp only [Int.toNat_natCast];rw [hex])
  have HFE:=Lib.hid (show ∀e,s.far[t]=some e→0≤e∧e≤1152921504606846976 from fun e he=>HFA.out t e (by rw [hex];exact he))
  clear hex
  generalize s.far[t]=o at*
  gi_wp2
  rename_i K Q' hK2
  refine wpIn_region_vals [.pointer (some ⟨xb,0,none⟩),.pointer (some ⟨xb,0,none⟩),.pointer (some ⟨xb,2,none⟩),.pointer (some ⟨sb,0,none⟩),.pointer (some ⟨W0.heap.size,1,none⟩),.int .i64 (t:Int),.tuple #[.int .u64 (valO o),.bool o.isSome],.tuple #[.int .u64 (valO o),.bool o.isSome],.int .u64 (valO o),.bool o.isSome,.int .u64 (valO o),.bool o.isSome] (by kernel_rfl) (by kernel_rfl) (by kernel_rfl) ?_ ?_
  ·refine ⟨?_,?_,?_,?_,?_,?_,?_,?_,?_,?_,?_,?_,trivial⟩
   ·intro vs w' hbe hd K hK
    have hm0:True:=trivial
    have f0:=cell_later hbe c0
    simp only [puts,dstAt,List.getElem?_cons_zero,List.getElem?_cons_succ,Option.bind_some,Option.getD_some,Act.put,List.length_cons,List.length_nil,Nat.reduceAdd,List.setIfInBounds_toArray,List.set_cons_zero,List.set_cons_succ,List.getD_cons_zero,List.getD_cons_succ,f0] at hK ⊢
    simp [Oper.wp,execOp,Oper.upon,go_sem,Act.eval,Act.put,f0]
    exact hK w' (Below.refl _ _)
   ·intro vs w' hbe hd K hK
    have hm0:True:=trivial
    have e0:vs 0=.pointer (some ⟨xb,0,none⟩):=hd 0 (by rfl)
    simp only [puts,dstAt,List.getElem?_cons_zero,List.getElem?_cons_succ,Option.bind_some,Option.getD_some,Act.put,List.length_cons,List.length_nil,Nat.reduceAdd,List.setIfInBounds_toArray,List.set_cons_zero,List.set_cons_succ,List.getD_cons_zero,List.getD_cons_succ,e0] at hK ⊢
    simp [Oper.wp,execOp,Oper.upon,go_sem,Act.eval,Act.put,e0]
    exact hK w' (Below.refl _ _)
   ·intro vs w' hbe hd K hK
    have hm0:True:=trivial
    have e1:vs 1=.pointer (some ⟨xb,0,none⟩):=hd 1 (by rfl)
    simp only [puts,dstAt,List.getElem?_cons_zero,List.getElem?_cons_succ,Option.bind_some,Option.getD_some,Act.put,List.length_cons,List.length_nil,Nat.reduceAdd,List.setIfInBounds_toArray,List.set_cons_zero,List.set_cons_succ,List.getD_cons_zero,List.getD_cons_succ,e1] at hK ⊢
    simp [Oper.wp,execOp,Oper.upon,go_sem,Act.eval,Act.put,e1]
    exact hK w' (Below.refl _ _)
   ·intro vs w' hbe hd K hK
    have hm0:True:=trivial
    have e2:vs 2=.pointer (some ⟨xb,2,none⟩):=hd 2 (by rfl)
    have f0:=cell_later hbe x1
    simp only [puts,dstAt,List.getElem?_cons_zero,List.getElem?_cons_succ,Option.bind_some,Option.getD_some,Act.put,List.length_cons,List.length_nil,Nat.reduceAdd,List.setIfInBounds_toArray,List.set_cons_zero,List.set_cons_succ,List.getD_cons_zero,List.getD_cons_succ,e2,f0] at hK ⊢
    simp [Oper.wp,execOp,Oper.upon,go_sem,Act.eval,Act.put,e2,f0]
    exact hK w' (Below.refl _ _)
   ·intro vs w' hbe hd K hK
    have hm0:True:=trivial
    skip
    simp only [puts,dstAt,List.getElem?_cons_zero,List.getElem?_cons_succ,Option.bind_some,Option.getD_some,Act.put,List.length_cons,List.length_nil,Nat.reduceAdd,List.setIfInBounds_toArray,List.set_cons_zero,List.set_cons_succ,List.getD_cons_zero,List.getD_cons_succ,true_and] at hK ⊢
    simp [Oper.wp,execOp,Oper.upon,go_sem,Act.eval,Act.put,true_and]
    exact hK w' (Below.refl _ _)
   ·intro vs w' hbe hd K hK
    have hm0:True:=trivial
    have e4:vs 4=.pointer (some ⟨W0.heap.size,1,none⟩):=hd 4 (by rfl)
    have f0:=cell_later hbe y1
    simp only [puts,dstAt,List.getElem?_cons_zero,List.getElem?_cons_succ,Option.bind_some,Option.getD_some,Act.put,List.length_cons,List.length_nil,Nat.reduceAdd,List.setIfInBounds_toArray,List.set_cons_zero,List.set_cons_succ,List.getD_cons_zero,List.getD_cons_succ,e4,f0] at hK ⊢
    simp [Oper.wp,execOp,Oper.upon,go_sem,Act.eval,Act.put,e4,f0]
    exact hK w' (Below.refl _ _)
   ·intro vs w' hbe hd K hK
    have hm0:True:=trivial
    have e3:vs 3=.pointer (some ⟨sb,0,none⟩):=hd 3 (by rfl)
    have e5:vs 5=.int .i64 (t:Int):=hd 5 (by rfl)
    simp only [puts,dstAt,List.getElem?_cons_zero,List.getElem?_cons_succ,Option.bind_some,Option.getD_some,Act.put,List.length_cons,List.length_nil,Nat.reduceAdd,List.setIfInBounds_toArray,List.set_cons_zero,List.set_cons_succ,List.getD_cons_zero,List.getD_cons_succ,e3,e5] at hK ⊢
    simp [Oper.wp,execOp,Oper.upon,go_sem,Act.eval,Act.put,e3,e5]
    refine (HG.out _ hbe).mono ?_
    rintro e w4 ⟨rfl,hb4⟩
    dsimp only
    exact hK w4 hb4
   ·intro vs w' hbe hd K hK
    have hm0:True:=trivial
    have e6:vs 6=.tuple #[.int .u64 (valO o),.bool o.isSome]:=hd 6 (by rfl)
    simp only [puts,dstAt,List.getElem?_cons_zero,List.getElem?_cons_succ,Option.bind_some,Option.getD_some,Act.put,List.length_cons,List.length_nil,Nat.reduceAdd,List.setIfInBounds_toArray,List.set_cons_zero,List.set_cons_succ,List.getD_cons_zero,List.getD_cons_succ,e6] at hK ⊢
    simp [Oper.wp,execOp,Oper.upon,go_sem,Act.eval,Act.put,e6]
    exact hK w' (Below.refl _ _)
   ·intro vs w' hbe hd K hK
    have hm0:True:=trivial
    have e7:vs 7=.tuple #[.int .u64 (valO o),.bool o.isSome]:=hd 7 (by rfl)
    simp only [puts,dstAt,List.getElem?_cons_zero,List.getElem?_cons_succ,Option.bind_some,Option.getD_some,Act.put,List.length_cons,List.length_nil,Nat.reduceAdd,List.setIfInBounds_toArray,List.set_cons_zero,List.set_cons_succ,List.getD_cons_zero,List.getD_cons_succ,e7] at hK ⊢
    simp [Oper.wp,execOp,Oper.upon,go_sem,Act.eval,Act.put,e7]
    exact hK w' (Below.refl _ _)
   ·intro vs w' hbe hd K hK
    have hm0:True:=trivial
    have e7:vs 7=.tuple #[.int .u64 (valO o),.bool o.isSome]:=hd 7 (by rfl)
    simp only [puts,dstAt,List.getElem?_cons_zero,List.getElem?_cons_succ,Option.bind_some,Option.getD_some,Act.put,List.length_cons,List.length_nil,Nat.reduceAdd,List.setIfInBounds_toArray,List.set_cons_zero,List.set_cons_succ,List.getD_cons_zero,List.getD_cons_succ,e7] at hK ⊢
    simp [Oper.wp,execOp,Oper.upon,go_sem,Act.eval,Act.put,e7]
    exact hK w' (Below.refl _ _)
   ·intro vs w' hbe hd K hK
    have hm0:True:=trivial
    have e8:vs 8=.int .u64 (valO o):=hd 8 (by rfl)
    simp only [puts,dstAt,List.getElem?_cons_zero,List.getElem?_cons_succ,Option.bind_some,Option.getD_some,Act.put,List.length_cons,List.length_nil,Nat.reduceAdd,List.setIfInBounds_toArray,List.set_cons_zero,List.set_cons_succ,List.getD_cons_zero,List.getD_cons_succ,e8] at hK ⊢
    simp [Oper.wp,execOp,Oper.upon,go_sem,Act.eval,Act.put,e8]
    exact hK w' (Below.refl _ _)
   ·intro vs w' hbe hd K hK
    have hm0:True:=trivial
    have e9:vs 9=.bool o.isSome:=hd 9 (by rfl)
    simp only [puts,dstAt,List.getElem?_cons_zero,List.getElem?_cons_succ,Option.bind_some,Option.getD_some,Act.put,List.length_cons,List.length_nil,Nat.reduceAdd,List.setIfInBounds_toArray,List.set_cons_zero,List.set_cons_succ,List.getD_cons_zero,List.getD_cons_succ,e9] at hK ⊢
    simp [Oper.wp,execOp,Oper.upon,go_sem,Act.eval,Act.put,e9]
    exact hK w' (Below.refl _ _)
  ·intro w2 hb2
   simp only [puts,dstAt,List.getElem?_cons_zero,List.getElem?_cons_succ,Option.bind_some,Option.getD_some,Act.put,List.length_cons,List.length_nil,Nat.reduceAdd,List.setIfInBounds_toArray,List.set_cons_zero,List.set_cons_succ,List.getD_cons_zero,List.getD_cons_succ]
   refine hK2 _ _ ?_
   have y22:=cell_later hb2 y2
   have c12:=cell_later hb2 c1
   have c22:=cell_later hb2 c2
   have z22:=(hb2.frozen (p:=⟨W.heap.size+2,0,none⟩) (World.block_lt_of_cell? _ _ c2)).trans z2
   have HI2:=Lib.hid (HI.out.go hb2)
   have HKX:=Lib.hid (show KeepX (BodyK (KpU w0.heap.size (W.heap.size+3)) w1.heap.size) Wx w2 from ⟨hb2.size,fun k hk=>hb2.block k (by
    have:=HI.out.sz
    have:=HI.out.bel.size
    have h0:=HU.out.sr.bel.size
    have:=HZ.out
    rcases hk with (h|h)|h|h
    ·omega
    ·omega
    ·rw [h];omega
    ·rw [h];omega)⟩)
   clear hb2 y1 y2 c0 c1 c2 z2 x1 hK2
   cases o with
   |none=>
    have HNO:=Lib.hid (hitsB_no hno HHB.out)
    simp only [valO,Option.getD,Option.isSome]
    gi_wp2
    exact ⟨HKX.out,HI2.out,HNO.out⟩
   |some e=>
    obtain ⟨e0,e1⟩:=HFE.out e rfl
    simp only [valO,Option.getD,Option.isSome]
    obtain ⟨d0,d1⟩:=hd
    by_cases hlt:e+xw<d
    ·have HYES:=Lib.hid (hitsB_yes (l:=pre) (HHB.out.trans (decide_eq_true hlt)))
     gi_wp2
     have hset:=World.cell?_setCell_same w2 ⟨W.heap.size+2,0,none⟩ (.bool true) c22
     refine ⟨⟨by simpa [World.setCell] using HKX.out.1,fun k hk=>(Below.heap_setCell _ _ _ _ ?_).trans (HKX.out.2 k hk)⟩,rfl,HYES.out,hset,HI2.out.bel.setCell (show W.heap.size≤W.heap.size+2 by omega) _,by simpa [World.setCell] using HI2.out.sz⟩
     have h0:=HU.out.sr.bel.size
     have:=HZ.out
     show k≠W.heap.size+2
     rcases hk with (h|h)|h|h
     ·omega
     ·omega
     ·omega
     ·omega
    ·have HNO:=Lib.hid (hitsB_no hno (HHB.out.trans (decide_eq_false hlt)))
     gi_wp2
     exact ⟨HKX.out,HI2.out,HNO.out⟩
 case done=>
  rintro D W2 hD0 ⟨hI,hno⟩ hK
  have hD1:D=W.heap.size+6:=by have:=HZ.out;omega
  have hn:=Lib.hid (show D≠(⟨W.heap.size+2,0,none⟩:Addr).block by show D≠W.heap.size+2;omega)
  have HNO:=Lib.hid hno
  have HIB:=Lib.hid hI.bel
  have HKK:=Lib.hid hK
  have HD1:=Lib.hid hD1
  have c2:=hI.c2
  have z2:=hI.z2
  clear hI hK hD0 hD1 hno
  go_wp2
  have hset:=World.cell?_setCell_same W2 ⟨W.heap.size+2,0,none⟩ (.bool false) c2
  refine leavesK_end (a:=_) rfl ((Below.heap_setCell _ _ _ _ hn.out).trans HKK.out) (fun W9 ho=>⟨.bool false,?_,?_⟩)
  ·have r0:=ho.cell hset (show ¬W.heap.size+2=D by have:=HD1.out;omega)
   simp [results,Tryz.results123,go_sem,r0]
   try rfl
  ·exact ⟨by have h9:=HNO.out;rw [show (back != true)=!back by cases back<;>rfl] at h9;rw [h9],(HIB.out.setCell (show W.heap.size≤W.heap.size+2 by omega) _).trans (ho.below (by have:=HIB.out.size;simpa [World.setCell] using this) (fun k e=>by have:=HD1.out;omega))⟩
 case stop=>
  rintro D c pre W2 hD0 hpp ⟨rfl,hyes,c2,hbl,hsz⟩ hK
  have hD1:D=W.heap.size+6:=by have:=HZ.out;omega
  have HY:=Lib.hid (hitsB_prefix hyes hpp)
  refine wpIn_ret ?_
  refine leavesK_end (a:=_) rfl hK (fun W9 ho=>⟨.bool true,?_,?_⟩)
  ·have r0:=ho.cell c2 (show ¬W.heap.size+2=D by omega)
   simp [results,Tryz.results123,go_sem,r0]
   try rfl
  ·exact ⟨by rw [HY.out],hbl.trans (ho.below hbl.size (fun k e=>by omega))⟩
end Go.Proofs.YtkdomobedfhhgaaGreat
