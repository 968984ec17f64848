/- Parts; no condition. -/
import Derived.Test.YteaaapdjplbljaaGreatVa24
import Derived.Test.YteaaapdjplbljaaGreatVa10
set_option linter.unusedVariables false
set_option linter.unusedSimpArgs false
set_option linter.unnecessarySimpa false
set_option maxRecDepth 100000
set_option maxHeartbeats 8000000
namespace Go.Proofs.YteaaapdjplbljaaGreat
section
open Go Go.Proofs Go.RowKit Go.Shelf Hp Ch
attribute [local go_sem] Oper.semAt_some
theorem Gq {fn:Func} {tmps:Array Value} {R:Ending->World->Prop} {D:Nat} {W:World} {a:Act} (ha:a={ tmps:=tmps,defers:=[{ target:=.collected D,args:=#[] }] }) (hK:W.heap[D]? =some (.deferred (some [])))
  (h:∀W',OffX (· =D) W W'->∃v,(results fn tmps).run Tryz.prog W'=.ok v W'/\R (.returned v) W'):Exit.noGoto (bodyPostM Fence.wide 4 Tryz.prog fn R) Exit.ret a W:=by
 subst ha;refine ⟨by simp,.inl ⟨_,_,rfl,run_takeDeferred hK,?_⟩⟩;exact h _ (.put _ rfl)
def An7 (far:List (Option Int)) (d:Int) (x:Bx):Bool:=match far.getD x.2.1.toNat none with
 |some e=>decide (e+x.2.2<d)
 |none=>false
def Gt (far:List (Option Int)) (d:Int) (l:List Bx):Bool:=l.any (An7 far d)
theorem Zb {far:List (Option Int)} {d:Int} {l:List Bx} {x:Bx} (h:Gt far d l=false) (hx:An7 far d x=false):Gt far d (l++[x])=false:=by
 unfold Gt at*;rw [List.any_append,h,List.any_cons,hx];rfl
theorem An6 {far:List (Option Int)} {d:Int} {l:List Bx} {x:Bx} (hx:An7 far d x=true):Gt far d (l++[x])=true:=by
 unfold Gt;rw [List.any_append,List.any_cons,hx];simp
theorem Wp {far:List (Option Int)} {d:Int} {l m:List Bx} (h:Gt far d l=true) (hp:l <+:m):Gt far d m=true:=by
 obtain ⟨t,rfl⟩:=hp;unfold Gt at*;rw [List.any_append,h];rfl
structure StI (w0 W Wx:World) (xb hb:Nat) (back:Bool) (sb rb fb hp n:Nat) (va v:Value) (s:US) (d:Int):Prop where
 up:UpW w0 Wx xb hb back sb rb fb hp n va v s
 c0:Wx.cell? ⟨W.heap.size,0,none⟩=some (.pointer (some ⟨xb,0,none⟩))
 c1:Wx.cell? ⟨W.heap.size+1,0,none⟩=some (.int .u64 d)
 c2:Wx.cell? ⟨W.heap.size+2,0,none⟩=some (.bool false)
 z2:Wx.frozen? ⟨W.heap.size+2,0,none⟩=false
 bel:Below W.heap.size W Wx
 sz:W.heap.size+6<=Wx.heap.size
section
variable {w0 W Wx Wy:World} {xb hb:Nat} {back:Bool} {sb rb fb hp n:Nat} {va v:Value} {s:US} {d:Int}
theorem StI.off {D:Nat} (h:StI w0 W Wx xb hb back sb rb fb hp n va v s d) (hw:UpW w0 W xb hb back sb rb fb hp n va v s) (hD:D=W.heap.size+6) (ho:OffX (Av D) Wx Wy):StI w0 W Wy xb hb back sb rb fb hp n va v s d:=by
 have hux:=hw.ux;have hx:=hw.bx.lt;have hg:=hw.sr.bel.size;refine ⟨h.up.off ho (fun k hk e=>?_) (fun e=>?_) (fun k e=>?_),ho.cell h.c0 ?_,ho.cell h.c1 ?_,ho.cell h.c2 ?_,(ho.frozen (p:=⟨W.heap.size+2,0,none⟩) (by show W.heap.size+2<_;have:=h.sz;omega) ?_).trans h.z2,h.bel.trans (ho.below h.bel.size (fun k e=>?_)),Bj7 h.sz ho.size⟩
 ·have:=(hux k hk).2;unfold Av at e;omega
 ·unfold Av at e;omega
 ·unfold Av at e;omega
 ·intro e;unfold Av at e;simp only at e;omega
 ·intro e;unfold Av at e;simp only at e;omega
 ·intro e;unfold Av at e;simp only at e;omega
 ·intro e;unfold Av at e;simp only at e;omega
 ·unfold Av at e;omega
theorem StI.go (h:StI w0 W Wx xb hb back sb rb fb hp n va v s d) (hz:Below Wx.heap.size Wx Wy):StI w0 W Wy xb hb back sb rb fb hp n va v s d:=
 ⟨h.up.go hz,Bj4 hz h.c0,Bj4 hz h.c1,Bj4 hz h.c2,(hz.frozen (p:=⟨W.heap.size+2,0,none⟩) (by show W.heap.size+2<_;have:=h.sz;omega)).trans h.z2,h.bel.st hz,Bj7 h.sz hz.size⟩
end
def Pa (W:World) (b:Bool) (e:Ending) (w':World):Prop:=e=.returned (.bool b)/\Below W.heap.size W w'
theorem Aa8 (w0 W:World) (xb hb:Nat) (back:Bool) (sb rb fb hp n:Nat) (va v:Value) (s:US) (es:List EdgeD) (R:List Int) (S:List SC) (O I:List (List Int)) (u:Nat) (d:Int) (h:UpW w0 W xb hb back sb rb fb hp n va v s) (hh:HierM w0 hb n es R S O I) (hu:u<n)
  (hrow:∀i∈(if (back != true) then I else O).getD u [],0<=i/\i<(S.length:Int)) (hends:∀x∈S,Ac n x.f/\Ac n x.t) (hto:∀x∈Ll S O I u (back != true),0<=x.2.1/\x.2.1<n/\0<=x.2.2/\x.2.2<=1152921504606846976)
  (hd:0<=d/\d<=1152921504606846976) (hfar:∀i e,s.far.getD i none=some e->0<=e/\e<=1152921504606846976):
  Calls Tryz.prog 236 #[.pointer (some ⟨xb,0,none⟩),.int .i64 (u:Int),.int .u64 d] W (Pa W (Gt s.far d (Ll S O I u (back != true)))):=by
 have HEA:=Bj3 (fun w=>Hr hb back true (u:Int) w);have HU:=Bj3 h;have HH:=Bj3 hh;have HRO:=Bj3 hrow;have HEN:=Bj3 hends;have HTO:=Bj3 hto;have HFA:=Bj3 hfar;obtain ⟨V,hV⟩:∃V,V=((W.alloc (Obj.cells #[.pointer (some ⟨xb,0,none⟩)] 271)).alloc (Obj.cells #[.int .u64 d] 37)).alloc (Obj.cells #[.bool false] 4):=⟨_,rfl⟩;have hbV:Below W.heap.size W V:=by rw [hV];exact ((Below.of_al _ _).al _).al _
 have hzV:V.heap.size=W.heap.size+3:=by rw [hV];simp
 have q0:V.cell? ⟨W.heap.size,0,none⟩=some (.pointer (some ⟨xb,0,none⟩)):=by rw [hV];go_simp
 have q1:V.cell? ⟨W.heap.size+1,0,none⟩=some (.int .u64 d):=by rw [hV];go_simp
 have q2:V.cell? ⟨W.heap.size+2,0,none⟩=some (.bool false):=by rw [hV];go_simp
 have z2:V.frozen? ⟨W.heap.size+2,0,none⟩=false:=by rw [hV];go_simp
 have x0:=Bj4 hbV (h.bx 0 _ rfl).1;have x1:=Bj4 hbV (h.bx 1 _ rfl).1;have HUV:=Bj3 (h.go hbV);have HBV:=Bj3 hbV;have HZV:=Bj3 hzV;have HV:=Bj3 hV;have hxl:=h.bx.lt;unfold Pa;clear h hh hrow hends hto hfar hbV hzV hV;refine (callsIn_wide (n:=4)).1 (callsIn_of_wp_marks Tryz.func236 rfl trivial (wpIn_wide.2 ?_) rfl);simp only [Tryz.ntmps236,List.size_toArray,Bk8,Bk9,Nat.reduceAdd,Nat.reduceSub,Array.replicate_succ,Array.replicate_zero,List.push_toArray,List.append_toArray,List.nil_append,List.cons_append]
 go_upto_region 1 with (fail)
 rw [<-HV.out]
 go_wp2_with (go_at_call 199;refine (HEA.out _).mono ?_;rintro e w1 ⟨rfl,hb1,hz1,b0,b1,b2,b3⟩)
 rw [HZV.out] at hb1 hz1 b0 b1 b2 b3 ⊢;have hbl:Below W.heap.size W w1:=HBV.out.trans (hb1.mono (by omega));have hbl0:Below w0.heap.size w0 w1:=HU.out.sr.bel.trans (hbl.mono HU.out.sr.bel.size);have HI0:=Bj3 (show StI w0 W w1 xb hb back sb rb fb hp n va v s d from ⟨HUV.out.go (by rw [HZV.out];exact hb1),(Bm0 (a:=⟨W.heap.size,0,none⟩) (hb1.block _ (by show W.heap.size<_;omega))).trans q0,(Bm0 (a:=⟨W.heap.size+1,0,none⟩) (hb1.block _ (by show W.heap.size+1<_;omega))).trans q1,
  (Bm0 (a:=⟨W.heap.size+2,0,none⟩) (hb1.block _ (by show W.heap.size+2<_;omega))).trans q2,(World.frozen?_of_block (a:=⟨W.heap.size+2,0,none⟩) (hb1.block _ (by show W.heap.size+2<_;omega))).trans z2,hbl,by omega⟩)
 have hkB:∀j,KpU w0.heap.size (W.heap.size+3) j->j<w1.heap.size:=by
  rintro j (h|h)
  ·have:=hbl0.size;omega
  ·omega
 have HSEQ:=Bj3 (Ew 3 (by decide) hb n es R S O I back true u (W.heap.size+3) w0 w1 HH.out (fun k hk=>hbl0.block k hk) hkB hu HRO.out HEN.out b0 b1 b2 b3);have hz0:w1.heap.size=W.heap.size+6:=by omega
 have HZ:=Bj3 hz0;have HKB:=Bj3 hkB;clear hb1 hz1 b0 b1 b2 b3 hbl hbl0 hkB hz0 q0 q1 q2 z2 x0 x1 HEA HUV HV;refine (wpIn_wide (n:=4)).1 (Gm rfl (by decide) (gf:=250) rfl trivial (enters_of Tryz.func250 (by kernel_rfl) rfl) HSEQ.out HKB.out (fun _=>rfl)
  (fun pre Wx=>StI w0 W Wx xb hb back sb rb fb hp n va v s d/\Gt s.far d pre=false)
  (fun c pre Wx=>c=.ret/\Gt s.far d pre=true/\Wx.cell? ⟨W.heap.size+2,0,none⟩=some (.bool true)/\Below W.heap.size W Wx/\W.heap.size+6<=Wx.heap.size)
  (fun pre Wx Wy h ho=>⟨h.1.off HU.out HZ.out ho,h.2⟩)
  (fun c pre Wx Wy h ho=>⟨h.1,h.2.1,ho.cell h.2.2.1 (by intro e;unfold Av at e;simp only at e;have:=HZ.out;omega),h.2.2.2.1.trans (ho.below h.2.2.2.1.size (fun k e=>by unfold Av at e;have:=HZ.out;omega)),Bj7 h.2.2.2.2 ho.size⟩)
  ⟨HI0.out,rfl⟩
  (fun x Wx=>{ tmps:=#[.pointer (some ⟨xb,0,none⟩),.int .i64 (u:Int),.int .u64 d,.pointer (some ⟨W.heap.size,0,none⟩),undef,.pointer (some ⟨W.heap.size+1,0,none⟩),.pointer (some ⟨W.heap.size+1+1,0,none⟩),undef,.pointer (some ⟨Wx.heap.size,0,none⟩),undef,undef,.pointer (some ⟨xb,0,none⟩),.pointer (some ⟨xb,0,none⟩),.pointer (some ⟨xb,0,none⟩),.agg #[.pointer (some ⟨hb,0,none⟩),.bool back],.int .i64 (u:Int),
   .func (.func 250) #[] #[.pointer (some ⟨W.heap.size+3,0,none⟩),.pointer (some ⟨W.heap.size+3+1,0,none⟩),.pointer (some ⟨W.heap.size+3+2,0,none⟩)],.int .i64 x.1,.agg #[.int .i64 0,.int .i64 x.2.1,.int .u64 x.2.2,.int .i64 0,.int .i64 0,.int .i64 0],undef,undef,undef,undef,undef,undef,undef,undef,undef,undef,undef,undef,undef,undef,undef,undef,undef,undef,undef],defers:=[] })
  (fun x Wx=>Wx.alloc (Obj.cells #[.int .i64 0,.int .i64 x.2.1,.int .u64 x.2.2,.int .i64 0,.int .i64 0,.int .i64 0] 187)) (fun x Wx=>Below.of_al _ _) ?assign ?body ?done ?stop)
 case assign=>
  intro l x Wx K hK
  dsimp only [Ax7]
  gi_wp2
  exact hK
 case body=>
  rintro l pre ⟨xi,xt,xw⟩ W0 Wx ⟨hI,hno⟩ hpx hsz ho;obtain ⟨t0,t1,t2,t3⟩:=HTO.out (xi,xt,xw) (hpx.subset (by simp));simp only at t0 t1 t2 t3;obtain ⟨t,rfl⟩:∃t:Nat,xt=t:=⟨xt.toNat,by omega⟩;have hDz:w1.heap.size+1≠W0.heap.size:=by omega
  have y1:=ho.cell (p:=⟨W0.heap.size,1,none⟩) (v:=.int .i64 (t:Int)) (by go_simp) (fun e=>hDz (by unfold Av at e;exact e.symm));have y2:=ho.cell (p:=⟨W0.heap.size,2,none⟩) (v:=.int .u64 xw) (by go_simp) (fun e=>hDz (by unfold Av at e;exact e.symm));have hWx:W0.heap.size+1<=Wx.heap.size:=by have h9:=ho.size;rwa [World.size_alloc] at h9
  have c0:=hI.c0;have c1:=hI.c1;have c2:=hI.c2;have z2:=hI.z2;have x1:=(hI.up.bx 2 _ rfl).1;have HI:=Bj3 hI;clear hI;have hli:t<s.far.length:=by have:=HU.out.lens.1;omega
  have HG:=Bj3 (fun Wz (hz:Below Wx.heap.size Wx Wz)=>Xs sb rb t s.far Wz (HI.out.up.sr.s1.go hz) hli);have hex:s.far.getD t none=s.far[t]:=by rw [Bj9,Bj8 hli];rfl
  have HHB:=Bj3 (show An7 s.far d (xi,(t:Int),xw)=match s.far[t] with|some e=>decide (e+xw<d)|none=>false by unfold An7;simp only [Bk7];rw [hex]);have HFE:=Bj3 (show ∀e,s.far[t]=some e->0<=e/\e<=1152921504606846976 from fun e he=>HFA.out t e (by rw [hex];exact he));clear hex;generalize s.far[t]=o at*
  gi_wp2
  rename_i K Q' hK2
  refine Nl [.pointer (some ⟨xb,0,none⟩),.pointer (some ⟨xb,0,none⟩),.pointer (some ⟨xb,2,none⟩),.pointer (some ⟨sb,0,none⟩),.pointer (some ⟨W0.heap.size,1,none⟩),.int .i64 (t:Int),.tuple #[.int .u64 (Mf o),.bool o.isSome],.tuple #[.int .u64 (Mf o),.bool o.isSome],.int .u64 (Mf o),.bool o.isSome,.int .u64 (Mf o),.bool o.isSome] (by kernel_rfl) (by kernel_rfl) (by kernel_rfl) ?_ ?_
  ·refine ⟨?_,?_,?_,?_,?_,?_,?_,?_,?_,?_,?_,?_,trivial⟩
   ·intro vs w' hbe hd K hK
    have hm0:True:=trivial;have f0:=Bj4 hbe c0;simp only [Al,Ae,Bl5,Bl4,Bl9,Bl8,Act.put,Bk8,Bk9,Nat.reduceAdd,Bl3,Bl6,Bl7,List.getD_cons_zero,List.getD_cons_succ,f0] at hK ⊢;simp [Oper.wp,execOp,Oper.upon,go_sem,Act.eval,Act.put,f0];exact hK w' (Below.refl _ _)
   ·intro vs w' hbe hd K hK
    have hm0:True:=trivial;have e0:vs 0=.pointer (some ⟨xb,0,none⟩):=hd 0 (by rfl);simp only [Al,Ae,Bl5,Bl4,Bl9,Bl8,Act.put,Bk8,Bk9,Nat.reduceAdd,Bl3,Bl6,Bl7,List.getD_cons_zero,List.getD_cons_succ,e0] at hK ⊢;simp [Oper.wp,execOp,Oper.upon,go_sem,Act.eval,Act.put,e0];exact hK w' (Below.refl _ _)
   ·intro vs w' hbe hd K hK
    have hm0:True:=trivial;have e1:vs 1=.pointer (some ⟨xb,0,none⟩):=hd 1 (by rfl);simp only [Al,Ae,Bl5,Bl4,Bl9,Bl8,Act.put,Bk8,Bk9,Nat.reduceAdd,Bl3,Bl6,Bl7,List.getD_cons_zero,List.getD_cons_succ,e1] at hK ⊢;simp [Oper.wp,execOp,Oper.upon,go_sem,Act.eval,Act.put,e1];exact hK w' (Below.refl _ _)
   ·intro vs w' hbe hd K hK
    have hm0:True:=trivial;have e2:vs 2=.pointer (some ⟨xb,2,none⟩):=hd 2 (by rfl);have f0:=Bj4 hbe x1;simp only [Al,Ae,Bl5,Bl4,Bl9,Bl8,Act.put,Bk8,Bk9,Nat.reduceAdd,Bl3,Bl6,Bl7,List.getD_cons_zero,List.getD_cons_succ,e2,f0] at hK ⊢;simp [Oper.wp,execOp,Oper.upon,go_sem,Act.eval,Act.put,e2,f0];exact hK w' (Below.refl _ _)
   ·intro vs w' hbe hd K hK
    have hm0:True:=trivial
    skip
    simp only [Al,Ae,Bl5,Bl4,Bl9,Bl8,Act.put,Bk8,Bk9,Nat.reduceAdd,Bl3,Bl6,Bl7,List.getD_cons_zero,List.getD_cons_succ,true_and] at hK ⊢;simp [Oper.wp,execOp,Oper.upon,go_sem,Act.eval,Act.put,true_and];exact hK w' (Below.refl _ _)
   ·intro vs w' hbe hd K hK
    have hm0:True:=trivial;have e4:vs 4=.pointer (some ⟨W0.heap.size,1,none⟩):=hd 4 (by rfl);have f0:=Bj4 hbe y1;simp only [Al,Ae,Bl5,Bl4,Bl9,Bl8,Act.put,Bk8,Bk9,Nat.reduceAdd,Bl3,Bl6,Bl7,List.getD_cons_zero,List.getD_cons_succ,e4,f0] at hK ⊢;simp [Oper.wp,execOp,Oper.upon,go_sem,Act.eval,Act.put,e4,f0];exact hK w' (Below.refl _ _)
   ·intro vs w' hbe hd K hK
    have hm0:True:=trivial;have e3:vs 3=.pointer (some ⟨sb,0,none⟩):=hd 3 (by rfl);have e5:vs 5=.int .i64 (t:Int):=hd 5 (by rfl);simp only [Al,Ae,Bl5,Bl4,Bl9,Bl8,Act.put,Bk8,Bk9,Nat.reduceAdd,Bl3,Bl6,Bl7,List.getD_cons_zero,List.getD_cons_succ,e3,e5] at hK ⊢;simp [Oper.wp,execOp,Oper.upon,go_sem,Act.eval,Act.put,e3,e5];refine (HG.out _ hbe).mono ?_;rintro e w4 ⟨rfl,hb4⟩
    dsimp only
    exact hK w4 hb4
   ·intro vs w' hbe hd K hK
    have hm0:True:=trivial;have e6:vs 6=.tuple #[.int .u64 (Mf o),.bool o.isSome]:=hd 6 (by rfl);simp only [Al,Ae,Bl5,Bl4,Bl9,Bl8,Act.put,Bk8,Bk9,Nat.reduceAdd,Bl3,Bl6,Bl7,List.getD_cons_zero,List.getD_cons_succ,e6] at hK ⊢;simp [Oper.wp,execOp,Oper.upon,go_sem,Act.eval,Act.put,e6];exact hK w' (Below.refl _ _)
   ·intro vs w' hbe hd K hK
    have hm0:True:=trivial;have e7:vs 7=.tuple #[.int .u64 (Mf o),.bool o.isSome]:=hd 7 (by rfl);simp only [Al,Ae,Bl5,Bl4,Bl9,Bl8,Act.put,Bk8,Bk9,Nat.reduceAdd,Bl3,Bl6,Bl7,List.getD_cons_zero,List.getD_cons_succ,e7] at hK ⊢;simp [Oper.wp,execOp,Oper.upon,go_sem,Act.eval,Act.put,e7];exact hK w' (Below.refl _ _)
   ·intro vs w' hbe hd K hK
    have hm0:True:=trivial;have e7:vs 7=.tuple #[.int .u64 (Mf o),.bool o.isSome]:=hd 7 (by rfl);simp only [Al,Ae,Bl5,Bl4,Bl9,Bl8,Act.put,Bk8,Bk9,Nat.reduceAdd,Bl3,Bl6,Bl7,List.getD_cons_zero,List.getD_cons_succ,e7] at hK ⊢;simp [Oper.wp,execOp,Oper.upon,go_sem,Act.eval,Act.put,e7];exact hK w' (Below.refl _ _)
   ·intro vs w' hbe hd K hK
    have hm0:True:=trivial;have e8:vs 8=.int .u64 (Mf o):=hd 8 (by rfl);simp only [Al,Ae,Bl5,Bl4,Bl9,Bl8,Act.put,Bk8,Bk9,Nat.reduceAdd,Bl3,Bl6,Bl7,List.getD_cons_zero,List.getD_cons_succ,e8] at hK ⊢;simp [Oper.wp,execOp,Oper.upon,go_sem,Act.eval,Act.put,e8];exact hK w' (Below.refl _ _)
   ·intro vs w' hbe hd K hK
    have hm0:True:=trivial;have e9:vs 9=.bool o.isSome:=hd 9 (by rfl);simp only [Al,Ae,Bl5,Bl4,Bl9,Bl8,Act.put,Bk8,Bk9,Nat.reduceAdd,Bl3,Bl6,Bl7,List.getD_cons_zero,List.getD_cons_succ,e9] at hK ⊢;simp [Oper.wp,execOp,Oper.upon,go_sem,Act.eval,Act.put,e9];exact hK w' (Below.refl _ _)
  ·intro w2 hb2
   simp only [Al,Ae,Bl5,Bl4,Bl9,Bl8,Act.put,Bk8,Bk9,Nat.reduceAdd,Bl3,Bl6,Bl7,List.getD_cons_zero,List.getD_cons_succ];refine hK2 _ _ ?_;have y22:=Bj4 hb2 y2;have c12:=Bj4 hb2 c1;have c22:=Bj4 hb2 c2;have z22:=(hb2.frozen (p:=⟨W.heap.size+2,0,none⟩) (Bk3 _ _ c2)).trans z2;have HI2:=Bj3 (HI.out.go hb2);have HKX:=Bj3 (show KeepX (Nj (KpU w0.heap.size (W.heap.size+3)) w1.heap.size) Wx w2 from ⟨hb2.size,fun k hk=>hb2.block k (by
    have:=HI.out.sz;have:=HI.out.bel.size;have h0:=HU.out.sr.bel.size;have:=HZ.out
    rcases hk with (h|h)|h|h
    ·omega
    ·omega
    ·rw [h];omega
    ·rw [h];omega)⟩)
   clear hb2 y1 y2 c0 c1 c2 z2 x1 hK2
   cases o with
   |none=>
    have HNO:=Bj3 (Zb hno HHB.out);simp only [Mf,Option.getD,Option.isSome]
    gi_wp2
    exact ⟨HKX.out,HI2.out,HNO.out⟩
   |some e=>
    obtain ⟨e0,e1⟩:=HFE.out e rfl;simp only [Mf,Option.getD,Option.isSome];obtain ⟨d0,d1⟩:=hd
    by_cases hlt:e+xw<d
    ·have HYES:=Bj3 (An6 (l:=pre) (HHB.out.trans (decide_eq_true hlt)))
     gi_wp2
     have hset:=Bk2 w2 ⟨W.heap.size+2,0,none⟩ (.bool true) c22;refine ⟨⟨by simpa [World.setCell] using HKX.out.1,fun k hk=>(Below.heap_setCell _ _ _ _ ?_).trans (HKX.out.2 k hk)⟩,rfl,HYES.out,hset,HI2.out.bel.setCell (show W.heap.size<=W.heap.size+2 by omega) _,by simpa [World.setCell] using HI2.out.sz⟩;have h0:=HU.out.sr.bel.size;have:=HZ.out
     show k≠W.heap.size+2
     rcases hk with (h|h)|h|h
     ·omega
     ·omega
     ·omega
     ·omega
    ·have HNO:=Bj3 (Zb hno (HHB.out.trans (decide_eq_false hlt)))
     gi_wp2
     exact ⟨HKX.out,HI2.out,HNO.out⟩
 case done=>
  rintro D W2 hD0 ⟨hI,hno⟩ hK;have hD1:D=W.heap.size+6:=by have:=HZ.out;omega
  have hn:=Bj3 (show D≠(⟨W.heap.size+2,0,none⟩:Addr).block by show D≠W.heap.size+2;omega);have HNO:=Bj3 hno;have HIB:=Bj3 hI.bel;have HKK:=Bj3 hK;have HD1:=Bj3 hD1;have c2:=hI.c2;have z2:=hI.z2;clear hI hK hD0 hD1 hno
  go_wp2
  have hset:=Bk2 W2 ⟨W.heap.size+2,0,none⟩ (.bool false) c2;refine Gq (a:=_) rfl ((Below.heap_setCell _ _ _ _ hn.out).trans HKK.out) (fun W9 ho=>⟨.bool false,?_,?_⟩)
  ·have r0:=ho.cell hset (show ¬W.heap.size+2=D by have:=HD1.out;omega)
   simp [results,Tryz.results236,go_sem,r0]
   try rfl
  ·exact ⟨by have h9:=HNO.out;rw [show (back != true)=!back by cases back<;>rfl] at h9;rw [h9],(HIB.out.setCell (show W.heap.size<=W.heap.size+2 by omega) _).trans (ho.below (by have:=HIB.out.size;simpa [World.setCell] using this) (fun k e=>by have:=HD1.out;omega))⟩
 case stop=>
  rintro D c pre W2 hD0 hpp ⟨rfl,hyes,c2,hbl,hsz⟩ hK;have hD1:D=W.heap.size+6:=by have:=HZ.out;omega
  have HY:=Bj3 (Wp hyes hpp);refine wpIn_ret ?_;refine Gq (a:=_) rfl hK (fun W9 ho=>⟨.bool true,?_,?_⟩)
  ·have r0:=ho.cell c2 (show ¬W.heap.size+2=D by omega)
   simp [results,Tryz.results236,go_sem,r0]
   try rfl
  ·exact ⟨by rw [HY.out],hbl.trans (ho.below hbl.size (fun k e=>by omega))⟩
end
section
open Go Go.Proofs Go.RowKit Go.Shelf Hp Ch
structure LB where
 v:Int
 d:Int
 b:Int
def Ao:List LB->List Value
 |[]=>[]
 |x::l=>.int .i64 x.v::.int .u64 x.d::.int .i64 x.b::Ao l
theorem Fx:∀(l:List LB) (k:Nat) (h:k<l.length),(Ao l)[k*3]? =some (.int .i64 l[k].v)/\(Ao l)[k*3+1]? =some (.int .u64 l[k].d)/\(Ao l)[k*3+2]? =some (.int .i64 l[k].b)
 |x::l,0,_=>⟨rfl,rfl,rfl⟩
 |x::l,k+1,h=>by
  have ih:=Fx l k (by simpa using h);have e1:(k+1)*3=k*3+1+1+1:=by omega
  simp only [e1,Ao,Bl4,List.getElem_cons_succ];exact ih
theorem Cel.lab {w:World} {ao:Option Addr} {l:List LB} (h:Cel w ao (Ao l)) {i:Nat} (hi:i<l.length):
  ∃b o,ao=some ⟨b,o,none⟩/\w.cell? ⟨b,o+i*3,none⟩=some (.int .i64 l[i].v)/\w.cell? ⟨b,o+i*3+1,none⟩=some (.int .u64 l[i].d)/\w.cell? ⟨b,o+i*3+2,none⟩=some (.int .i64 l[i].b):=by
 obtain ⟨h1,h2,h3⟩:=Fx l i hi;obtain ⟨b,o,e,c1⟩:=h _ _ h1;obtain ⟨b',o',e',c2⟩:=h _ _ h2;obtain ⟨b'',o'',e'',c3⟩:=h _ _ h3;rw [e] at e' e''
 cases e'
 cases e''
 exact ⟨b,o,e,c1,by rw [Nat.add_assoc];exact c2,by rw [Nat.add_assoc];exact c3⟩
def byF (l:List LB):Int->Option Int:=l.foldl (fun f x=>Aa7 f x.v x.d) (fun _=>none)
theorem Ss {l:List LB} {k:Nat} (h:k<l.length):byF (l.take (k+1))=Aa7 (byF (l.take k)) l[k].v l[k].d:=by
 unfold byF;rw [Bl1 h,List.foldl_append];rfl
def Mc (l:List LB) (w:World) (e:Ending) (w':World):Prop:=∃b,e=.returned (.map (some b))/\MapW w' b l.length (byF l)/\w.heap.size<=b/\Below w.heap.size w w'
theorem Af4 (l:List LB) (ao:Option Addr) (cap:Nat) (w:World) (hc:Cel w ao (Ao l)) (hl:l.length<=1000000) (hin:∀x∈l,In6 x.v/\0<=x.d/\x.d<=18446744073709551615):
  Calls Tryz.prog 143 #[.slice ao l.length cap] w (Mc l w):=by
 have hmm:=@run_makeMap Tryz.prog;have HC:=Bj3 hc;have HIN:=Bj3 hin;have hl2:(l.length:Int)<=1000000:=by omega
 have HM0:=Bj3 (MapW.new w);have HL:=Bj3 hl;unfold Mc;clear hc hin
 go_enter Tryz.func143,Tryz.ntmps143
 go_wp2
 go_loopg [9] l.length (fun gm v9 wr=>∃k:Nat,k<=l.length/\l.length-k<=gm/\v9=.int .i64 k/\Aside (MapW wr w.heap.size k (byF (l.take k)))/\Aside (Below w.heap.size w wr))
 case atStart=>exact ⟨0,Bj6 _,by omega,rfl,by rw [List.take_zero];exact HM0.out,Below.of_al _ _⟩
 case round=>
  obtain ⟨k,hk,hg,rfl,HM,HB⟩:=hrel
  by_cases hlt:k<l.length
  ·have hlt2:(k:Int)<(l.length:Int):=by omega
   have hk0:(0:Int)<=(k:Int):=by omega
   obtain ⟨lb,lo,rfl,y0,y1,y2⟩:=(HC.out.go HB.out).lab hlt;obtain ⟨i1,i2⟩:=HIN.out l[k] (Bk5 hlt);have HTK:=Bj3 (Ss hlt);generalize l[k]=x at*;obtain ⟨w2,hup,hm2,ho2⟩:=(HM.out.go (Below.of_al wr (Obj.cells #[.int .i64 x.v,.int .u64 x.d,.int .i64 x.b] 150))).put (by omega) i1 i2;have HM2:=Bj3 (show MapW w2 w.heap.size (k+1) (byF (l.take (k+1))) by rw [HTK.out];exact hm2);have HB2:=Bj3 (show Below w.heap.size w w2 from (HB.out.st (Below.of_al wr _)).trans (ho2.below ((HB.out.st (Below.of_al wr (Obj.cells #[.int .i64 x.v,.int .u64 x.d,.int .i64 x.b] 150))).size) (fun j hj=>by have e:j=w.heap.size:=hj;omega)));clear hm2 ho2 i1 i2
   go_wp2
   go_roundg (l.length-(k+1))
   case measure=>omega
   case rel=>exact ⟨k+1,by omega,Bj5 _,by go_num,HM2.out,HB2.out⟩
  ·obtain rfl:k=l.length:=by omega
   go_wp2
   go_ret
   have:=HM.out;rw [Bn9] at this;exact ⟨_,rfl,this,Bj5 _,HB.out⟩
def Ym (f:Int->Option Int) (best:Int) (x:LB):Int:=match f x.v with
 |some y=>min best (x.d+y)
 |none=>best
def Bm (f:Int->Option Int) (l:List LB):Int:=l.foldl (Ym f) 4611686018427387904
theorem Rk {f:Int->Option Int} {l:List LB} {k:Nat} (h:k<l.length):Bm f (l.take (k+1))=Ym f (Bm f (l.take k)) l[k]:=by
 unfold Bm;rw [Bl1 h,List.foldl_append];rfl
theorem An1 (l:List LB) (f:Int->Option Int) (ao:Option Addr) (cap b n:Nat) (w:World) (hc:Cel w ao (Ao l)) (hm:MapW w b n f) (hl:l.length<=1000000) (hin:∀x∈l,In6 x.v/\0<=x.d/\x.d<=1152921504606846976) (hf:∀u x,f u=some x->0<=x/\x<=1152921504606846976):
  Calls Tryz.prog 142 #[.slice ao l.length cap,.map (some b)] w fun e w'=>e=.returned (.int .u64 (Bm f l))/\Below w.heap.size w w':=by
 have HC:=Bj3 hc;have HIN:=Bj3 hin;have HF:=Bj3 hf;have HM:=Bj3 hm;have hl2:(l.length:Int)<=1000000:=by omega
 clear hc hin hf hm
 go_enter Tryz.func142,Tryz.ntmps142
 go_wp2
 go_loopg [5,12] l.length (fun gm v5 v12 wr=>∃k:Nat,k<=l.length/\l.length-k<=gm/\v12=.int .i64 k/\v5=.int .u64 (Bm f (l.take k))/\Aside (Below w.heap.size w wr))
 case atStart=>exact ⟨0,Bj6 _,by omega,rfl,rfl,Below.refl _ _⟩
 case round=>
  obtain ⟨k,hk,hg,rfl,rfl,HB⟩:=hrel
  by_cases hlt:k<l.length
  ·have hlt2:(k:Int)<(l.length:Int):=by omega
   have hk0:(0:Int)<=(k:Int):=by omega
   obtain ⟨lb,lo,rfl,y0,y1,y2⟩:=(HC.out.go HB.out).lab hlt;obtain ⟨i1,d0,d1⟩:=HIN.out l[k] (Bk5 hlt);have HTK:=Bj3 (Rk (f:=f) hlt);generalize l[k]=x at*;generalize Bm f (l.take k)=best at*;have lk:=((HM.out.go HB.out).go (Below.of_al wr (Obj.cells #[.int .i64 x.v,.int .u64 x.d,.int .i64 x.b] 150))).look i1;have HB2:=Bj3 (HB.out.st (Below.of_al wr (Obj.cells #[.int .i64 x.v,.int .u64 x.d,.int .i64 x.b] 150)))
   cases hy:f x.v with
   |none=>
    rw [hy] at lk;have HN:=Bj3 (show Bm f (l.take (k+1))=best by have:=HTK.out;unfold Ym at this;rw [hy] at this;exact this);simp only [Option.isSome,Option.getD] at lk;clear hy i1
    go_wp2
    go_roundg (l.length-(k+1))
    case measure=>omega
    case rel=>exact ⟨k+1,by omega,Bj5 _,by go_num,by rw [HN.out],HB2.out⟩
   |some y=>
    rw [hy] at lk;obtain ⟨e0,e1⟩:=HF.out _ _ hy;have HN:=Bj3 (show Bm f (l.take (k+1))=if x.d+y<best then x.d+y else best by
     have:=HTK.out;unfold Ym at this;rw [hy] at this;rw [this]
     show min best (x.d+y)=_
     rw [Int.min_def]
     split<;>split<;>omega)
    simp only [Option.isSome,Option.getD] at lk;clear hy i1
    by_cases hmn:x.d+y<best
    ·have HN2:=Bj3 (show Bm f (l.take (k+1))=x.d+y by rw [HN.out,if_pos hmn])
     go_wp2
     go_roundg (l.length-(k+1))
     case measure=>omega
     case rel=>exact ⟨k+1,by omega,Bj5 _,by go_num,by rw [HN2.out],HB2.out⟩
    ·have HN2:=Bj3 (show Bm f (l.take (k+1))=best by rw [HN.out,if_neg hmn])
     go_wp2
     go_roundg (l.length-(k+1))
     case measure=>omega
     case rel=>exact ⟨k+1,by omega,Bj5 _,by go_num,by rw [HN2.out],HB2.out⟩
  ·obtain rfl:k=l.length:=by omega
   rw [Bn9]
   go_wp2
   go_ret
   exact ⟨rfl,HB.out⟩
end
section
open Go Go.Proofs Go.RowKit
section
variable {P:Program} {ops:Array Oper} {md:Region.Mode} {C:World->Prop}
def Ha (md:Region.Mode) (ops:Array Oper) (m n:Nat):Bool:=
 (List.range n).all fun i=>decide (i<m)||(List.range (n+1)).any fun j=>decide (i<j)&&Region.waitsFor md ops j i
def Ahead (m:Nat) (listed:Array Bool):Prop:=∀i,i<m->listed.getD i true=true
theorem Ahead.set {m j:Nat} {listed:Array Bool} (h:Ahead m listed):Ahead m (listed.setIfInBounds j true):=by
 intro i hi
 by_cases e:j=i
 ·subst e
  rcases Nat.lt_or_ge j listed.size with h'|h'<;>simp [h']
 ·rw [getD_set_ne true e];exact h i hi
theorem Im {m n:Nat} {listed:Array Bool} (hs:Ha md ops m n=true) (hc:Region.chainB md ops n=true) (hn:n<ops.size) (inv:HeadInv md ops n listed) (hp:Ahead m listed):
  ∀(d i:Nat),n-i=d->i<n->listed.getD i true=false->∀t,n<=t->t∉Region.ready md ops listed:=by
 intro d
 induction d using Nat.strongRecOn with
 |_ d ih=>
  intro i hd hi hun t ht hr;obtain ⟨_,ot,hot,hall⟩:=mem_ready.1 hr;have htlt:t<ops.size:=(Bk0.1 hot).1
  by_cases htn:t=n
  ·subst htn
   have h1:=List.all_eq_true.1 hs i (Bm7.2 hi);have him:¬i<m:=fun h=>by rw [hp i h] at hun;cases hun
   simp only [him,decide_false,Bool.false_or] at h1;obtain ⟨j,hj,hj2⟩:=List.any_eq_true.1 h1;simp only [Bool.and_eq_true,decide_eq_true_eq] at hj2;obtain ⟨oj,hoj,e,he,hb,hon⟩:=Region.waitsFor_spec hj2.2;have hjle:j<=t:=by have:=Bm7.1 hj;omega
   by_cases hjt:j=t
   ·subst hjt
    have:oj=ot:=Bm2 (hoj.symm.trans hot);subst this;have h2:=hall e he hb;rw [hon,getD_both hun] at h2
    cases h2
   ·cases hl:listed.getD j false with
    |true=>
     have h2:=inv.closed j oj hoj hl e he hb;rw [hon,getD_both hun] at h2
     cases h2
    |false=>
     have hjs:j<listed.size:=by rw [inv.size];omega
     exact ih (t-j) (by omega) j rfl (by omega) (Go.getD_in hjs hl) t (Bj5 _) hr
  ·have h1:=List.all_eq_true.1 hc t (Bm7.2 htlt)
   simp only [Bool.or_eq_true,decide_eq_true_eq] at h1
   rcases h1 with h1|h1
   ·omega
   ·obtain ⟨o',ho',e,he,hb,hon⟩:=Region.waitsFor_spec h1
    have:o'=ot:=Bm2 (ho'.symm.trans hot);subst this;have h2:=hall e he hb;rw [hon,getD_both (inv.tail (t-1) (by omega) (by omega))] at h2
    cases h2
def Zd (P:Program) (md:Region.Mode) (ops:Array Oper) (C:World->Prop) (n:Nat) (L:Array Bool->Act->Prop):Nat->Array Bool->Act->Prop
 |0,listed,a=>L listed a
 |f+1,listed,a=>
  Region.ready md ops listed≠[]/\∀i∈Region.ready md ops listed,i<n/\qOp P ops C i (Zd P md ops C n L f (listed.setIfInBounds i true)) a
theorem Ij {n g:Nat} {L:Array Bool->Act->Prop} {Q':Exit->Act->World->Prop} (hL:∀listed a w,C w->L listed a->wpAny P md ops Q' g listed a w):
  ∀(f:Nat) (listed:Array Bool) (a:Act) (w:World),C w->Zd P md ops C n L f listed a->wpAny P md ops Q' (f+g) listed a w
 |0,listed,a,w,hw,h=>by rw [Nat.zero_add];exact hL _ _ _ hw h
 |f+1,listed,a,w,hw,h=>by
  rw [show f+1+g=(f+g)+1 by omega];exact ⟨fun h0=>absurd h0 h.1,fun i hi=>wpOp_of_qOp hw (fun a' w' hw' h'=>Ij hL f _ a' w' hw' h') (h.2 i hi).2⟩
theorem Zc {m n i:Nat} {oi:Oper} {v:Value} {L:Array Bool->Act->Prop} (hi:ops[i]? =some oi) (hsel:∀(j:Nat) (o:Oper) cs b,ops[j]? =some o->o.op≠.select cs b)
  (hs:Ha md ops m n=true) (hc:Region.chainB md ops n=true) (hn:n<ops.size) (hin:i<n)
  (hdone:∀listed a,L listed a->∀j∈Region.ready md ops listed,n<=j):
  ∀(f:Nat) (listed:Array Bool) (a:Act),HeadInv md ops n listed->Ahead m listed->
   (∀j oj,ops[j]? =some oj->j≠i->listed.getD j true=false->(∀e∈oj.after,Region.binds md e=true->e.on≠i)->oi.apart ops oj=true)->
   i∈Region.ready md ops listed->YieldsIn P ops C oi v a->
   Zd P md ops C n L f (listed.setIfInBounds i true) (a.put oi.dst v)->Zd P md ops C n L (f+1) listed a:=by
 intro f
 induction f with
 |zero=>
  intro listed a inv hp _ hr hy H;have hun:=(mem_ready.1 hr).1;refine ⟨fun h=>(by rw [h] at hr;cases hr),fun j hj=>?_⟩;have hjn:j<n:=by
   rcases Nat.lt_or_ge j n with h|h
   ·exact h
   ·exact absurd hj (Im hs hc hn inv hp _ i rfl hin hun j h)
  refine ⟨hjn,?_⟩
  by_cases hji:j=i
  ·subst hji;exact hy.qOp hi H
  ·have:=hdone _ _ H j (ready_mono hj hji)
   omega
 |succ f ih=>
  intro listed a inv hp hfree hr hy H;have hun:=(mem_ready.1 hr).1;refine ⟨fun h=>(by rw [h] at hr;cases hr),fun j hj=>?_⟩;have hjn:j<n:=by
   rcases Nat.lt_or_ge j n with h|h
   ·exact h
   ·exact absurd hj (Im hs hc hn inv hp _ i rfl hin hun j h)
  refine ⟨hjn,?_⟩
  by_cases hji:j=i
  ·subst hji;exact hy.qOp hi H
  ·have h1:=(H.2 j (ready_mono hj hji)).2
   obtain ⟨hjun,oj,hoj,hall⟩:=mem_ready.1 hj;have hnot:∀e∈oj.after,Region.binds md e=true->e.on≠i:=fun e he hb heq=>by
    have h1:=hall e he hb;rw [heq,getD_both hun] at h1
    cases h1
   have h2:=qOp_put hoj (hfree j oj hoj hji hjun hnot) (fun cs b=>hsel i oi cs b hi) (fun cs b=>hsel j oj cs b hoj) hy h1;have hfree':∀k ok,ops[k]? =some ok->k≠i->(listed.setIfInBounds j true).getD k true=false->
     (∀e∈ok.after,Region.binds md e=true->e.on≠i)->oi.apart ops ok=true:=fun k ok hk hki hun hno=>by
    refine hfree k ok hk hki ?_ hno
    by_cases hjk:j=k
    ·subst hjk;exact hjun
    ·rw [getD_set_ne true hjk] at hun;exact hun
   refine qOp_mono (fun a' h3=>ih (listed.setIfInBounds j true) a' (inv.set hj hjn) hp.set hfree' (ready_mono hr (Ne.symm hji)) h3.1 ?_) h2;rw [Array.setIfInBounds_comm _ _ hji];exact h3.2
theorem Oi {m n g:Nat} {Lq:Act->Prop} (hsel:Region.noSelect ops=true) (hs:Ha md ops m n=true) (hc:Region.chainB md ops n=true) (hn:n<ops.size):
  ∀(l:List Oper) (k:Nat) (listed:Array Bool) (a:Act),(∀j,j<l.length->l[j]? =ops[k+j]?)->k+l.length=n->HeadInv md ops n listed->Ahead m listed->
  Region.lexHead md ops g l.length k listed=true->wpQuiet P ops C Lq l a->
  Zd P md ops C n (fun listed' a'=>Region.seqB md ops g n listed'=true/\Lq a') l.length listed a
 |[],k,listed,a,_,hk,_,_,hB,h=>by
  have:k=n:=by simpa using hk
  subst this;exact ⟨by simpa [Region.lexHead] using hB,h⟩
 |o::l,k,listed,a,hl,hk,inv,hp,hB,h=>by
  have h0:ops[k]? =some o:=by simpa using (hl 0 (by simp)).symm
  simp only [Bk8,Region.lexHead,Bool.and_eq_true] at hB;obtain ⟨⟨hr,hf⟩,hB'⟩:=hB;have hkn:k<n:=by simp only [Bk8] at hk;omega
  have hr':k∈Region.ready md ops listed:=by simpa using hr
  have hst:qOp P ops C k (wpQuiet P ops C Lq l) a:=by unfold qOp;simp only [h0];exact h
  obtain ⟨v,hy,hK⟩:=yieldsIn_of_qOp h0 hst;exact Zc h0 (Region.noSelect_spec hsel) hs hc hn hkn (fun listed' a' hL=>seqB_ready hL.1) l.length listed a inv hp (Region.free_spec h0 hf) hr' hy
   (Oi hsel hs hc hn l (k+1) _ _ (fun j hj=>by have:=hl (j+1) (by simp;omega);simpa [Nat.add_assoc,Nat.add_comm 1 j] using this) (by simp only [Bk8] at hk;omega) (inv.set hr' hkn) hp.set hB' hK)
theorem Pr {id:Nat} {Q:Exit->Act->World->Prop} {a:Act} {w:World} {l:List Oper} (n:Nat) (hm:P.follows .mixedOrders=true) (hB:Region.lexTailB .any l.toArray n=true) (hC:C { w with drawn:=w.drawn+1 })
  (h:wpQuiet P l.toArray C (fun a'=>∀w',C w'->wpList P l.toArray Q (l.drop n) a' w') (l.take n) a):(Code.region id l.toArray true).wp P Q a w:=by
 simp only [Region.lexTailB,Bool.and_eq_true,decide_eq_true_eq] at hB;obtain ⟨⟨⟨⟨hsel,hn⟩,hs⟩,hc⟩,hlex⟩:=hB;have hn':n<l.length:=by simpa using hn
 have htl:(l.take n).length=n:=by simp;omega
 have hdl:(l.drop n).length=l.toArray.size-n:=by simp
 have inv0:HeadInv .any l.toArray n (Array.replicate l.toArray.size false):=
  ⟨by simp,fun j oj _ hl=>(by rw [getD_replicate_false] at hl;cases hl),fun t _ ht=>Go.getD_in (by simpa using ht) (getD_replicate_false _ _)⟩
 have hs0:Ha .any l.toArray 0 n=true:=by
  unfold Ha
  simpa [Region.sinkB] using hs
 have H:=Oi (md:=.any) (C:=C) (m:=0) (g:=l.toArray.size-n) hsel hs0 hc hn (l.take n) 0 _ a (fun j hj=>by
  have hj':j<n:=by rw [htl] at hj;exact hj
  simp [hj']) (by simpa using htl) inv0 (fun i hi=>absurd hi (Nat.not_lt_zero _)) (by rw [htl];exact hlex) h
 refine wp_region_any hm ?_;have:=Ij (Q':=Q) (g:=l.toArray.size-n) (fun listed a' w' hw hL=>by
  have:=wpAny_of_seq (md:=.any) (Q':=Q) (l.drop n) n listed a' w' (fun j=>by simp [List.getElem?_drop]) (by rw [hdl];exact hL.1) (hL.2 _ hw)
  rwa [hdl] at this) _ _ _ _ hC H
 rw [htl,show n+(l.toArray.size-n)=l.toArray.size by omega] at this;exact this
def Oe (md:Region.Mode) (ops:Array Oper) (n:Nat):Bool:=
 Region.noSelect ops&&decide (n<ops.size)&&Ha md ops 1 n&&Region.chainB md ops n&&(decide (0<n)&&(Region.ready md ops (Array.replicate ops.size false)).contains 0&&Region.free md ops (Array.replicate ops.size false) 0)&&
  Region.lexHead md ops (ops.size-n) (n-1) 1 ((Array.replicate ops.size false).setIfInBounds 0 true)
theorem Nk {id:Nat} {Q:Exit->Act->World->Prop} {a:Act} {w:World} {d:Option Tmp} {x:Operand} {ty:TypeId} {pos:String} {aft:Array Edge} {l:List Oper} (n:Nat) (hm:P.follows .mixedOrders=true)
  (hB:Oe .any (⟨d,.move x,ty,pos,aft,none⟩::l).toArray (n+1)=true) (hC:C { w with drawn:=w.drawn+1 })
  (hQ:∀c a' w',Q (.panic c) (a'.put d (a.eval x)) w'->Q (.panic c) a' w')
  (h:wpQuiet P (⟨d,.move x,ty,pos,aft,none⟩::l).toArray C (fun a'=>∀w',C w'->wpList P (⟨d,.move x,ty,pos,aft,none⟩::l).toArray Q (l.drop n) a' w') (l.take n) (a.put d (a.eval x))):
  (Code.region id (⟨d,.move x,ty,pos,aft,none⟩::l).toArray true).wp P Q a w:=by
 simp only [Oe,Bool.and_eq_true,decide_eq_true_eq] at hB;obtain ⟨⟨⟨⟨⟨hsel,hn⟩,hs⟩,hc⟩,⟨_,hr0⟩,hf0⟩,hlex⟩:=hB;have hn':n<l.length:=by simpa using hn
 have htl:(l.take n).length=n:=by simp;omega
 generalize hops:(⟨d,.move x,ty,pos,aft,none⟩::l).toArray=ops at*;have hsz:ops.size=l.length+1:=by rw [<-hops];simp
 have h0:ops[0]? =some ⟨d,.move x,ty,pos,aft,none⟩:=by rw [<-hops];simp
 have hdl:(l.drop n).length=ops.size-(n+1):=by rw [hsz];simp
 have inv0:HeadInv .any ops (n+1) (Array.replicate ops.size false):=
  ⟨by simp,fun j oj _ hl=>(by rw [getD_replicate_false] at hl;cases hl),fun t _ ht=>Go.getD_in (by simpa using ht) (getD_replicate_false _ _)⟩
 have hr0':0∈Region.ready .any ops (Array.replicate ops.size false):=by simpa using hr0
 have hp:Ahead 1 ((Array.replicate ops.size false).setIfInBounds 0 true):=by
  intro i hi;obtain rfl:i=0:=by omega
  simp [hsz]
 have H:=Oi (md:=.any) (C:=C) (m:=1) (g:=ops.size-(n+1)) hsel hs hc hn (l.take n) 1 _ (a.put d (a.eval x)) (fun j hj=>by
  have hj':j<n:=by rw [htl] at hj;exact hj
  rw [<-hops,Nat.add_comm 1 j];simp [hj']) (by rw [htl];omega) (inv0.set hr0' (by omega)) hp (by rw [htl];exact hlex) h
 refine wp_region_any hm ?_;have H2:=Ij (Q':=Q) (g:=ops.size-(n+1)) (fun listed a' w' hw hL=>by
  have:=wpAny_of_seq (md:=.any) (Q':=Q) (l.drop n) (n+1) listed a' w' (fun j=>by rw [<-hops,show n+1+j=(n+j)+1 by omega];simp [List.getElem?_drop]) (by rw [hdl];exact hL.1) (hL.2 _ hw)
  rwa [hdl] at this) _ _ _ _ hC H
 rw [htl] at H2;have hy:Yields P ops ⟨d,.move x,ty,pos,aft,none⟩ (a.eval x) a:=.inl ⟨rfl,fun w'=>BigFrame.run_move (o:=⟨d,.move x,ty,pos,aft,none⟩) x rfl w'⟩;have H3:=wpAny_take (fuel:=n+(ops.size-(n+1))) (Q:=Q) h0 hsel hf0 hr0 hQ hy H2;rw [show n+(ops.size-(n+1))+1=ops.size by omega] at H3;exact H3
end
theorem Gb {P:Program} {id:Nat} {Q:Exit->Act->World->Prop} {a:Act} {w:World} {l:List Oper} (n:Nat) (hm:P.follows .mixedOrders=true) (hB:Region.lexTailB .any l.toArray n=true)
  (h:wpQuiet P l.toArray (fun w'=>∃p:EP,w'=ext w p) (fun a'=>∀w',(∃p:EP,w'=ext w p)->wpList P l.toArray Q (l.drop n) a' w') (l.take n) a):(Code.region id l.toArray true).wp P Q a w:=
 Pr (C:=fun w'=>∃p:EP,w'=ext w p) n hm hB (Fs (below_drewN (Below.refl _ w) 1)) h
theorem Fi {P:Program} {id:Nat} {Q:Exit->Act->World->Prop} {a:Act} {w:World} {d:Option Tmp} {x:Operand} {ty:TypeId} {pos:String} {aft:Array Edge} {l:List Oper} (n:Nat) (hm:P.follows .mixedOrders=true)
  (hB:Oe .any (⟨d,.move x,ty,pos,aft,none⟩::l).toArray (n+1)=true)
  (hQ:∀c a' w',Q (.panic c) (a'.put d (a.eval x)) w'->Q (.panic c) a' w')
  (h:wpQuiet P (⟨d,.move x,ty,pos,aft,none⟩::l).toArray (fun w'=>∃p:EP,w'=ext w p) (fun a'=>∀w',(∃p:EP,w'=ext w p)->wpList P (⟨d,.move x,ty,pos,aft,none⟩::l).toArray Q (l.drop n) a' w') (l.take n) (a.put d (a.eval x))):
  (Code.region id (⟨d,.move x,ty,pos,aft,none⟩::l).toArray true).wp P Q a w:=
 Nk (C:=fun w'=>∃p:EP,w'=ext w p) n hm hB (Fs (below_drewN (Below.refl _ w) 1)) hQ h
end
end Go.Proofs.YteaaapdjplbljaaGreat
