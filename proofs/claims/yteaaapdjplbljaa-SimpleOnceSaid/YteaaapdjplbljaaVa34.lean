/- Walk of package simple: All. -/
import Derived.Test.YteaaapdjplbljaaProg
import Derived.Test.YteaaapdjplbljaaVa30
import Derived.Test.YteaaapdjplbljaaVa32
import Derived.Test.YteaaapdjplbljaaVa33
import Derived.Deep.Cut
import Derived.Maps.OwnIn
set_option linter.unusedVariables false
set_option linter.unusedSimpArgs false
set_option linter.unnecessarySimpa false
namespace Go.Proofs.Yteaaapdjplbljaa.Sm
open Go Go.Proofs Go.RowKit Go.Shelf Go.Proofs.Yteaaapdjplbljaa Go.Proofs.Yteaaapdjplbljaa.Ad Go.Proofs.Yteaaapdjplbljaa.Hp Go.Proofs.Yteaaapdjplbljaa.Ch
attribute [local go_sem] Oper.semAt_some
theorem insNil (p:Option Addr) (cap:Nat) (fv:Value) (w:World):Calls Try.prog 63 #[.slice p 0 cap,.int .i64 0,.int .i64 0,fv] w fun e w'=>e=.returned (.tuple #[])∧w'=w:=by
 go_enter Try.func63,Try.ntmps63
 go_wp2
 refine wp_loop_rounds 1 ?_
 rw [rounds_succ]
 go_wp2
 go_end0
 exact ⟨rfl,rfl⟩
set_option maxRecDepth 100000 in
theorem pdqNil (p:Option Addr) (cap:Nat) (lim:Int) (fv:Value) (w:World):Calls Try.prog 45 #[.slice p 0 cap,.int .i64 0,.int .i64 0,.int .i64 lim,fv] w fun e w'=>e=.returned (.tuple #[])∧w'=w:=by
 have H:=Lib.hid (fun W=>insNil p cap fv W)
 go_enter Try.func45,Try.ntmps45
 repeat go_step
 refine wp_loop_rounds 1 ?_
 rw [rounds_succ]
 go_wp2_with (go_at_call 63;refine (H.out _).mono ?_;rintro e w' ⟨rfl,rfl⟩)
 refine bodyPost_ret (results_none rfl _ _ _) rfl ?_
 exact ⟨rfl,rfl⟩
theorem sortNil (p:Option Addr) (cap:Nat) (fv:Value) (w:World):Calls Try.prog 24 #[.slice p 0 cap,fv] w fun e w'=>e=.returned (.tuple #[])∧w'=w:=by
 have H:=Lib.hid (fun lim W=>pdqNil p cap lim fv W)
 have HL:=Lib.hid (Try.bits_Len 0 w (by omega) (by omega))
 go_enter Try.func24,Try.ntmps24
 go_wp2_with (first|(go_at_call 46;refine HL.out.mono ?_;rintro e w' ⟨rfl,rfl⟩)|(go_at_call 45;refine (H.out _ _).mono ?_;rintro e w' ⟨rfl,rfl⟩))
 go_end0
 exact ⟨rfl,rfl⟩
theorem elem_rtS:Elem Try.prog 39 (.agg #[.slice none 0 0,.int .u64 0]) 2 32:=⟨by kernel_rfl,rfl,by decide⟩
theorem simF_len {es:List EdgeD} {t:Int}:∀(n:Nat) (v:Int) (met r:List Int) (w:Int) (x:RtD),x∈simF es t n v met r w→x.es.length≤r.length+n
 |0,_,_,_,_,_,h=>by simp [simF] at h
 |n+1,v,met,r,w,x,h=>by
  by_cases e:v=t
  ·subst e
   rw [simF_end] at h
   rw [List.mem_singleton.1 h]
   exact Nat.le_add_right _ _
  ·rw [simF_go e] at h
   obtain ⟨i,_,hi⟩:=List.mem_flatMap.1 h
   unfold stF at hi
   split at hi
   ·have:=simF_len n _ _ _ _ _ hi
    rw [List.length_append,List.length_singleton] at this
    omega
   ·cases hi
theorem ga_offS {w w':World} {v:Value} (h:w.grownBy w' v.ownBlock):OffX (fun k=>v.ownBlock=some k) w w':=⟨h.os,h.tape,h.output,h.size,fun k hk hn=>h.block k hk (fun e=>hn e.symm)⟩
theorem sl_own {va:Option Addr} {n c k:Nat} (e:(Value.slice va n c).ownBlock=some k):va.elim False (fun a=>a.block=k):=by
 cases va with
 |none=>cases e
 |some x=>exact Option.some.inj e
theorem sl_own' {va:Option Addr} {n c k:Nat} (e:va.elim False (fun a=>a.block=k)):(Value.slice va n c).ownBlock=some k:=by
 cases va with
 |none=>cases e
 |some x=>exact congrArg some e
structure AlC (W:World) (z:Nat) (most:Int) (Pr:Nat→Prop) (Wx:World):Prop where
 bel:Below W.heap.size W Wx
 old:∀k,k<z+2→Pr k
 pb:∀k,Pr k→k<z+2∨k<Wx.heap.size
 cm:Wx.cell? ⟨W.heap.size+1,0,none⟩=some (.int .i64 most)
 co:∃v,Wx.cell? ⟨W.heap.size+1+1,0,none⟩=some v
 fo:Wx.frozen? ⟨W.heap.size+1+1,0,none⟩=false
 ci:∃b,Wx.cell? ⟨W.heap.size+1+1+1,0,none⟩=some (.bool b)
 fi:Wx.frozen? ⟨W.heap.size+1+1+1,0,none⟩=false
 cf:∃k,Wx.cell? ⟨W.heap.size+1+1+1+1,0,none⟩=some (.int .i64 k)
 ff:Wx.frozen? ⟨W.heap.size+1+1+1+1,0,none⟩=false
 sz:z≤Wx.heap.size
 z5:W.heap.size+8≤z
theorem AlC.off {W:World} {z:Nat} {most:Int} {Pr Pr':Nat→Prop} {Wx Wy:World} {Y:Nat→Prop} (h:AlC W z most Pr Wx) (ho:OffX Y Wx Wy) (hY:∀k,Y k→z≤k) (h1:∀k,k<z+2→Pr' k) (h2:∀k,Pr' k→k<z+2∨k<Wy.heap.size):AlC W z most Pr' Wy:=by
 have hz:=h.z5
 have hn:∀k,k<z→¬Y k:=fun k hk e=>by have:=hY k e;omega
 obtain ⟨v,co⟩:=h.co
 obtain ⟨b,ci⟩:=h.ci
 obtain ⟨k,cf⟩:=h.cf
 have hs:=h.bel.size
 exact ⟨⟨ho.os.trans h.bel.os,ho.tape.trans h.bel.tape,ho.output.trans h.bel.output,Nat.le_trans h.bel.size ho.size,fun k hk=>(ho.block k (by omega) (hn k (by omega))).trans (h.bel.block k hk)⟩,h1,h2,ho.cell h.cm (hn _ (by simp only;omega)),⟨v,ho.cell co (hn _ (by simp only;omega))⟩,(ho.frozen (World.block_lt_of_cell? _ _ co) (hn _ (by simp only;omega))).trans h.fo,
  ⟨b,ho.cell ci (hn _ (by simp only;omega))⟩,(ho.frozen (World.block_lt_of_cell? _ _ ci) (hn _ (by simp only;omega))).trans h.fi,⟨k,ho.cell cf (hn _ (by simp only;omega))⟩,(ho.frozen (World.block_lt_of_cell? _ _ cf) (hn _ (by simp only;omega))).trans h.ff,Nat.le_trans h.sz ho.size,h.z5⟩
structure AlR (W:World) (z:Nat) (pre:List RtC) (Pr:Nat→Prop) (v:Value) (Wx:World):Prop where
 co:Wx.cell? ⟨W.heap.size+1+1,0,none⟩=some v
 ow:Wx.ownsRow (z+2) 39 2 v pre.length (flatR pre)
 op:∀k,v.ownBlock=some k→Pr k
 at':∀x∈pre,AtR x Wx∧∀k,bkR x k→Pr k∧z+2≤k∧v.ownBlock≠some k∧k<Wx.heap.size
theorem AtR.off {X:Nat→Prop} {x:RtC} {W W':World} (h:AtR x W) (ho:OffX X W W') (hX:∀k,bkR x k→¬X k):AtR x W':=by
 intro i u hu
 obtain ⟨b,o,e,h1⟩:=h i u hu
 exact ⟨b,o,e,ho.cell h1 (hX _ ⟨_,e,rfl⟩)⟩
theorem AlR.turn {W:World} {z:Nat} {pre:List RtC} {Pr:Nat→Prop} {v:Value} {Wx Wy:World} (h:AlR W z pre Pr v Wx) (hz:W.heap.size+8≤z) (hold:∀k,k<z+2→Pr k) (ho:OffX (TurnE z Pr) Wx Wy):AlR W z pre Pr v Wy:=by
 have hn:∀k,Pr k→k≠z+1→¬TurnE z Pr k:=fun k h1 h2 e=>by rcases e with e|e;exact h2 e;exact e h1
 refine ⟨ho.cell h.co (hn _ (hold _ (by simp only;omega)) (by simp only;omega)),own_off h.ow ho (fun k hk=>hn _ (h.op k hk) (by have:=(h.ow.lt k hk).1;omega)),h.op,fun x hx=>⟨(h.at' x hx).1.off ho (fun k hk=>hn _ ((h.at' x hx).2 k hk).1 (by have:=((h.at' x hx).2 k hk).2.1;omega)),fun k hk=>let ⟨q1,q2,q3,q4⟩:=(h.at' x hx).2 k hk;⟨q1,q2,q3,Nat.lt_of_lt_of_le q4 ho.size⟩⟩⟩
def AllSIs (n:Nat) (es:List EdgeD) (s t most:Int) (rs:List RtD) (is:Bool) (k:Int):Prop:=
 (k=whyS ⟨(n:Int),es⟩ s t∧k≠0∧rs=[]∧is=false)∨(whyS ⟨(n:Int),es⟩ s t=0∧k=0∧((((allS n es s t).length:Int)≤max most 0∧is=true∧rs=sortR (allS n es s t))∨(max most 0<((allS n es s t).length:Int)∧is=false∧rs=[])))
def AllSPost (n:Nat) (es:List EdgeD) (s t most:Int) (w:World) (e:Ending) (w':World):Prop:=
 ∃ao cap ts is k,e=.returned (.tuple #[.slice ao (List.length ts) cap,.bool is,.int .i64 k])∧Cel w' ao (flatR ts)∧(∀x∈ts,AtR x w'∧x.r.es.length≤1000000)∧Below w.heap.size w w'∧AllSIs n es s t most (ts.map (·.r)) is k
theorem leaves_mark {fn:Func} {tmps:Array Value} {R:Ending→World→Prop} {D:Nat} {W:World} (hD:W.heap[D]? =some (.deferred (some [])))
  (h:∀W',OffX (· =D) W W'→∃v,(results fn tmps).run Try.prog W'=.ok v W'∧R (.returned v) W'):LeavesInM Fence.wide 4 Try.prog fn tmps R [{ target:=.collected D,args:=#[] }] .returning W:=by
 refine ⟨by simp,.inl ⟨_,_,rfl,run_takeDeferred hD,?_⟩⟩
 exact h _ (.put _ rfl)
theorem all_end {fn:Func} {tmps:Array Value} {w U:World} {z n:Nat} {es:List EdgeD} {s t most:Int} {v:Value} {a:Option Addr} {c:Nat} {ts:List RtC} {b3:Bool} {k4:Int} (hz:w.heap.size+8≤z) (hzU:z≤U.heap.size) (hb:Below w.heap.size w U) (hD:U.heap[z]? =some (.deferred (some [])))
  (co:U.cell? ⟨w.heap.size+1+1,0,none⟩=some v) (ci:U.cell? ⟨w.heap.size+1+1+1,0,none⟩=some (.bool b3)) (cf:U.cell? ⟨w.heap.size+1+1+1+1,0,none⟩=some (.int .i64 k4)) (hv:v=.slice a ts.length c) (how:U.ownsRow (z+2) 39 2 v ts.length (flatR ts))
  (hat:∀x∈ts,AtR x U∧x.r.es.length≤1000000∧∀k,bkR x k→z+2≤k) (his:AllSIs n es s t most (ts.map (·.r)) true 0)
  (hres:∀W9:World,W9.cell? ⟨w.heap.size+1+1,0,none⟩=some v→W9.cell? ⟨w.heap.size+1+1+1,0,none⟩=some (.bool true)→W9.cell? ⟨w.heap.size+1+1+1+1,0,none⟩=some (.int .i64 0)→(results fn tmps).run Try.prog W9=.ok (.tuple #[v,.bool true,.int .i64 0]) W9):
  LeavesInM Fence.wide 4 Try.prog fn tmps (AllSPost n es s t most w) [{ target:=.collected z,args:=#[] }] .returning (((U.setCell ⟨w.heap.size+1+1,0,none⟩ v).setCell ⟨w.heap.size+1+1+1,0,none⟩ (.bool true)).setCell ⟨w.heap.size+1+1+1+1,0,none⟩ (.int .i64 0)):=by
 obtain ⟨U1,hU1⟩:∃U1,U1=U.setCell ⟨w.heap.size+1+1,0,none⟩ v:=⟨_,rfl⟩
 obtain ⟨U2,hU2⟩:∃U2,U2=U1.setCell ⟨w.heap.size+1+1+1,0,none⟩ (.bool true):=⟨_,rfl⟩
 obtain ⟨U3,hU3⟩:∃U3,U3=U2.setCell ⟨w.heap.size+1+1+1+1,0,none⟩ (.int .i64 0):=⟨_,rfl⟩
 rw [←hU1,←hU2,←hU3]
 have o1:OffX (· =w.heap.size+1+1) U U1:=by rw [hU1];exact .set _ rfl
 have o2:OffX (· =w.heap.size+1+1+1) U1 U2:=by rw [hU2];exact .set _ rfl
 have o3:OffX (· =w.heap.size+1+1+1+1) U2 U3:=by rw [hU3];exact .set _ rfl
 have o:OffX (fun k=>w.heap.size≤k∧k<z) U U3:=((o1.mono fun k (e:k=_)=>⟨by omega,by omega⟩).trans (o2.mono fun k (e:k=_)=>⟨by omega,by omega⟩)).trans (o3.mono fun k (e:k=_)=>⟨by omega,by omega⟩)
 have n1:∀j,j≠w.heap.size+1+1→¬(fun k=>k=w.heap.size+1+1) j:=fun j h e=>h e
 have p1:U3.cell? ⟨w.heap.size+1+1,0,none⟩=some v:=o3.cell (o2.cell (by rw [hU1];exact World.cell?_setCell_same _ _ _ co) (fun e=>by simp only at e;omega)) (fun e=>by simp only at e;omega)
 have p2:U3.cell? ⟨w.heap.size+1+1+1,0,none⟩=some (.bool true):=o3.cell (by rw [hU2];exact World.cell?_setCell_same _ _ _ (o1.cell ci (fun e=>by simp only at e;omega))) (fun e=>by simp only at e;omega)
 have p3:U3.cell? ⟨w.heap.size+1+1+1+1,0,none⟩=some (.int .i64 0):=by rw [hU3];exact World.cell?_setCell_same _ _ _ (o2.cell (o1.cell cf (fun e=>by simp only at e;omega)) (fun e=>by simp only at e;omega))
 refine leaves_mark ((o.block _ (Array.getElem?_eq_some_iff.1 hD).1 (fun e=>by have:=e.2;omega)).trans hD) (fun W9 ho9=>⟨_,hres W9 (ho9.cell p1 (fun e=>by simp only at e;omega)) (ho9.cell p2 (fun e=>by simp only at e;omega)) (ho9.cell p3 (fun e=>by simp only at e;omega)),?_⟩)
 have o9:OffX (fun k=>w.heap.size≤k∧k<z+1) U W9:=(o.mono fun k e=>⟨e.1,by have:=e.2;omega⟩).trans (ho9.mono fun k (e:k=z)=>⟨by omega,by omega⟩)
 have hw9:=own_off how o9 (fun k hk e=>by have:=(how.lt k hk).1;have:=e.2;omega)
 subst hv
 refine ⟨a,c,ts,true,0,rfl,?_,fun x hx=>⟨(hat x hx).1.off o9 (fun k hk e=>by have:=(hat x hx).2.2 k hk;have:=e.2;omega),(hat x hx).2.1⟩,?_,his⟩
 ·obtain ⟨a',c',e,h⟩:=Cel.of_owns hw9
  cases e
  exact h
 ·exact hb.trans (o9.below hb.size (fun k e=>e.1))
theorem two_newS (W:World) (x y:Value) (T:TypeId):∀j u,[x,y][j]? =some u→(W.alloc (Obj.cells #[x,y] T)).cell? ((⟨W.heap.size,0,none⟩:Addr).add j)=some u:=by
 intro j u hu
 rw [Addr.add_lit]
 match j with
 |0=>cases hu;go_simp
 |1=>cases hu;go_simp
 |j+2=>simp at hu
set_option maxRecDepth 100000 in
set_option maxHeartbeats 4000000 in
theorem all_no (g:GD) (ao:Option Addr) (cap:Nat) (s t most:Int) (w:World) (hc:Cel w ao (flat g.es)) (hel:g.es.length≤1000000) (hk:¬whyS g s t=0):
  Calls Try.prog 9 #[.agg #[.int .i64 g.n,.slice ao g.es.length cap],.int .i64 s,.int .i64 t,.int .i64 most] w fun e w'=>e=.returned (.tuple #[.slice none 0 0,.bool false,.int .i64 (whyS g s t)])∧Below w.heap.size w w':=by
 obtain ⟨V,hV⟩:∃V,V=((((w.alloc (Obj.cells #[.int .i64 g.n,.slice ao g.es.length cap] 24)).alloc (Obj.cells #[.int .i64 most] 3)).alloc (Obj.cells #[.slice none 0 0] 32)).alloc (Obj.cells #[.bool false] 4)).alloc (Obj.cells #[.int .i64 0] 28):=⟨_,rfl⟩
 have hbV:Below w.heap.size w V:=by rw [hV];exact ((((Below.of_al _ _).al _).al _).al _).al _
 have hzV:V.heap.size=w.heap.size+5:=by rw [hV];simp
 have x0:V.cell? ⟨w.heap.size,0,none⟩=some (.int .i64 g.n):=by rw [hV];go_simp
 have x1:V.cell? ⟨w.heap.size,1,none⟩=some (.slice ao g.es.length cap):=by rw [hV];go_simp
 have x2:V.cell? ⟨w.heap.size+1,0,none⟩=some (.int .i64 most):=by rw [hV];go_simp
 have x3:V.cell? ⟨w.heap.size+1+1,0,none⟩=some (.slice none 0 0):=by rw [hV];go_simp
 have x4:V.cell? ⟨w.heap.size+1+1+1,0,none⟩=some (.bool false):=by rw [hV];go_simp
 have x5:V.cell? ⟨w.heap.size+1+1+1+1,0,none⟩=some (.int .i64 0):=by rw [hV];go_simp
 have y3:V.frozen? ⟨w.heap.size+1+1,0,none⟩=false:=by rw [hV];go_simp
 have y4:V.frozen? ⟨w.heap.size+1+1+1,0,none⟩=false:=by rw [hV];go_simp
 have y5:V.frozen? ⟨w.heap.size+1+1+1+1,0,none⟩=false:=by rw [hV];go_simp
 have HCK:=Lib.hid (fun W' (hz:Below w.heap.size w W')=>check_any g ao cap s t W' (by omega) (hc.go hz))
 have HBV:=Lib.hid hbV
 have HZV:=Lib.hid hzV
 have HV:=Lib.hid hV
 clear hV hbV hzV hc
 refine (callsIn_wide (n:=4)).1 (callsIn_of_wp_marks Try.func9 rfl trivial (wpIn_wide.2 ?_) rfl)
 simp only [Try.ntmps9,List.size_toArray,List.length_cons,List.length_nil,Nat.reduceAdd,Nat.reduceSub,Array.replicate_succ,Array.replicate_zero,List.push_toArray,List.append_toArray,List.nil_append,List.cons_append]
 obtain ⟨kk,hkk⟩:∃kk,whyS g s t=kk:=⟨_,rfl⟩
 rw [hkk] at HCK hk
 have HKK:=Lib.hid hkk
 have hbV:=HBV.out
 have HK:=Lib.hid hk
 clear hkk
 go_upto_region 1 with (fail)
 rw [←HV.out]
 go_upto_region 3 with (go_at_call 15;refine (HCK.out _ HBV.out).mono ?_;rintro e w2 ⟨rfl,hb⟩;(have HB2:=Lib.hid hb);(have z3:=cell_later hb x3);(have z4:=cell_later hb x4);(have z5:=cell_later hb x5);(have u3:=(hb.frozen (World.block_lt_of_cell? _ _ x3)).trans y3);(have u4:=(hb.frozen (World.block_lt_of_cell? _ _ x4)).trans y4);(have u5:=(hb.frozen (World.block_lt_of_cell? _ _ x5)).trans y5);clear hb)
 have hz2:=HB2.out.size
 have hzv:=HZV.out
 have HB3:=Lib.hid (HBV.out.st HB2.out)
 go_wp2
 obtain ⟨U1,hU1⟩:∃U1,U1=w2.setCell ⟨w.heap.size+1+1,0,none⟩ (.slice none 0 0):=⟨_,rfl⟩
 obtain ⟨U2,hU2⟩:∃U2,U2=U1.setCell ⟨w.heap.size+1+1+1,0,none⟩ (.bool false):=⟨_,rfl⟩
 obtain ⟨U3,hU3⟩:∃U3,U3=U2.setCell ⟨w.heap.size+1+1+1+1,0,none⟩ (.int .i64 kk):=⟨_,rfl⟩
 rw [←hU1,←hU2,←hU3]
 have o1:OffX (· =w.heap.size+1+1) w2 U1:=by rw [hU1];exact .set _ rfl
 have o2:OffX (· =w.heap.size+1+1+1) U1 U2:=by rw [hU2];exact .set _ rfl
 have o3:OffX (· =w.heap.size+1+1+1+1) U2 U3:=by rw [hU3];exact .set _ rfl
 have p1':U3.cell? ⟨w.heap.size+1+1,0,none⟩=some (.slice none 0 0):=o3.cell (o2.cell (by rw [hU1];exact World.cell?_setCell_same _ _ _ z3) (fun e=>by simp only at e;omega)) (fun e=>by simp only at e;omega)
 have p2':U3.cell? ⟨w.heap.size+1+1+1,0,none⟩=some (.bool false):=o3.cell (by rw [hU2];exact World.cell?_setCell_same _ _ _ (o1.cell z4 (fun e=>by simp only at e;omega))) (fun e=>by simp only at e;omega)
 have p3':U3.cell? ⟨w.heap.size+1+1+1+1,0,none⟩=some (.int .i64 kk):=by rw [hU3];exact World.cell?_setCell_same _ _ _ (o2.cell (o1.cell z5 (fun e=>by simp only at e;omega)) (fun e=>by simp only at e;omega))
 have o:OffX (fun k=>w.heap.size≤k∧k<w.heap.size+5) w2 U3:=((o1.mono fun k (e:k=_)=>⟨by omega,by omega⟩).trans (o2.mono fun k (e:k=_)=>⟨by omega,by omega⟩)).trans (o3.mono fun k (e:k=_)=>⟨by omega,by omega⟩)
 refine ⟨.tuple #[.slice none 0 0,.bool false,.int .i64 kk],by simp [results,Try.results9,go_sem,p1',p2',p3'],by rw [HKK.out],HB3.out.trans (o.below HB3.out.size (fun k e=>e.1))⟩
set_option maxRecDepth 100000 in
set_option maxHeartbeats 8000000 in
theorem all_anyS (n:Nat) (es:List EdgeD) (ao:Option Addr) (cap:Nat) (s t most:Int) (w:World) (hc:Cel w ao (flat es)) (hel:es.length≤1000000) (hmost:most≤1000):
  Calls Try.prog 9 #[.agg #[.int .i64 (n:Int),.slice ao es.length cap],.int .i64 s,.int .i64 t,.int .i64 most] w (AllSPost n es s t most w):=by
 rcases Decidable.em (whyS ⟨(n:Int),es⟩ s t=0) with hk0|hk
 rotate_left
 ·refine (all_no ⟨(n:Int),es⟩ ao cap s t most w hc hel hk).mono ?_
  rintro e w' ⟨rfl,hb⟩
  exact ⟨none,0,[],false,_,rfl,Cel.nil _ _,fun x hx=>(nomatch hx),hb,.inl ⟨rfl,hk,rfl,rfl⟩⟩
 obtain ⟨V,hV⟩:∃V,V=((((w.alloc (Obj.cells #[.int .i64 (n:Int),.slice ao es.length cap] 24)).alloc (Obj.cells #[.int .i64 most] 3)).alloc (Obj.cells #[.slice none 0 0] 32)).alloc (Obj.cells #[.bool false] 4)).alloc (Obj.cells #[.int .i64 0] 28):=⟨_,rfl⟩
 have hbV:Below w.heap.size w V:=by rw [hV];exact ((((Below.of_al _ _).al _).al _).al _).al _
 have hzV:V.heap.size=w.heap.size+5:=by rw [hV];simp
 have x0:V.cell? ⟨w.heap.size,0,none⟩=some (.int .i64 (n:Int)):=by rw [hV];go_simp
 have x1:V.cell? ⟨w.heap.size,1,none⟩=some (.slice ao es.length cap):=by rw [hV];go_simp
 have x2:V.cell? ⟨w.heap.size+1,0,none⟩=some (.int .i64 most):=by rw [hV];go_simp
 have x3:V.cell? ⟨w.heap.size+1+1,0,none⟩=some (.slice none 0 0):=by rw [hV];go_simp
 have x4:V.cell? ⟨w.heap.size+1+1+1,0,none⟩=some (.bool false):=by rw [hV];go_simp
 have x5:V.cell? ⟨w.heap.size+1+1+1+1,0,none⟩=some (.int .i64 0):=by rw [hV];go_simp
 have y3:V.frozen? ⟨w.heap.size+1+1,0,none⟩=false:=by rw [hV];go_simp
 have y4:V.frozen? ⟨w.heap.size+1+1+1,0,none⟩=false:=by rw [hV];go_simp
 have y5:V.frozen? ⟨w.heap.size+1+1+1+1,0,none⟩=false:=by rw [hV];go_simp
 have HCK:=Lib.hid (fun W' (hz:Below w.heap.size w W')=>check_any ⟨(n:Int),es⟩ ao cap s t W' (by show es.length≤_;omega) (hc.go hz))
 simp only at HCK
 have HEA:=Lib.hid (fun W'=>each_anyS n es ao cap s t W')
 have HBV:=Lib.hid hbV
 have HZV:=Lib.hid hzV
 have HV:=Lib.hid hV
 have HC:=Lib.hid hc
 clear hV hbV hzV hc
 refine (callsIn_wide (n:=4)).1 (callsIn_of_wp_marks Try.func9 rfl trivial (wpIn_wide.2 ?_) rfl)
 simp only [Try.ntmps9,List.size_toArray,List.length_cons,List.length_nil,Nat.reduceAdd,Nat.reduceSub,Array.replicate_succ,Array.replicate_zero,List.push_toArray,List.append_toArray,List.nil_append,List.cons_append]
 by_cases hk:whyS ⟨(n:Int),es⟩ s t=0
 ·rw [hk] at HCK
  have HK:=Lib.hid hk
  clear hk hk0
  go_upto_region 1 with (fail)
  rw [←HV.out]
  go_upto_region 4 with (go_at_call 15;refine (HCK.out _ HBV.out).mono ?_;rintro e w2 ⟨rfl,hb⟩;(have HB2:=Lib.hid hb);(have z0:=cell_later hb x0);(have z1:=cell_later hb x1);clear hb)
  go_wp2_with (go_at_call 23;refine (HEA.out _).mono ?_;rintro e w5 ⟨rfl,hb,hz5,c0,c1,c2,c3⟩)
  have HB5:=Lib.hid (HB2.out.st hb)
  have hB:=HB5.out
  have hz2:=HB2.out.size
  have hzV:=HZV.out
  have HCW:=Lib.hid (HC.out.go (HBV.out.st HB5.out))
  have HSEQ:=Lib.hid (each_seq 3 n es ao cap s t w2.heap.size w5 HK.out HCW.out (by omega) c0 c1 c2 c3)
  have HKB:=Lib.hid (kpS_lt (B:=w2.heap.size) HCW.out (by omega))
  have HKL:=Lib.hid (show ∀k,KpS w2.heap.size ao es k→(w2.heap.size≤k∧k<w2.heap.size+3)∨k<w.heap.size from fun k hk=>by
   rcases hk with h|⟨hne,x,hx,rfl⟩
   ·exact .inl h
   ·right
    obtain ⟨e,r,he⟩:=List.exists_cons_of_ne_nil hne
    have hc:=HC.out
    rw [he] at hc
    obtain ⟨b',o',e',c5⟩:=hc 0 _ rfl
    rw [hx] at e'
    cases e'
    exact World.block_lt_of_cell? _ _ c5)
  have hfz:∀{p:Addr} {v:Value},V.cell? p=some v→V.frozen? p=false→w5.frozen? p=false:=fun {p v} h1 h2=>(hB.frozen (World.block_lt_of_cell? _ _ h1)).trans h2
  have HI0:=Lib.hid (show AlC w w5.heap.size most (fun k=>k<w5.heap.size+2) w5 from
   ⟨HBV.out.st hB,fun k hk=>hk,fun k hk=>.inl hk,cell_later hB x2,⟨_,cell_later hB x3⟩,hfz x3 y3,⟨_,cell_later hB x4⟩,hfz x4 y4,⟨_,cell_later hB x5⟩,hfz x5 y5,Nat.le_refl _,by omega⟩)
  have HR0:=Lib.hid (show AlR w w5.heap.size [] (fun k=>k<w5.heap.size+2) (.slice none 0 0) w5 from ⟨cell_later hB x3,World.ownsRow_nil _ _ _ _,fun k hk=>(nomatch hk),fun x hx=>(nomatch hx)⟩)
  have HZ5:=Lib.hid hz5
  clear hfz c0 c1 c2 c3 x0 x1 x2 x3 x4 x5 y3 y4 y5 hb hB z0 z1 hz5 HCK HEA
  refine (wpIn_wide (n:=4)).1 (wpIn_rangeE rfl (by decide) (gf:=39) rfl trivial (enters_of Try.func39 (by kernel_rfl) rfl) HSEQ.out HKB.out (fun _=>rfl)
   (fun pre Pr Wx=>AlC w w5.heap.size most Pr Wx∧(pre.length:Int)≤max most 0∧∃v,AlR w w5.heap.size pre Pr v Wx)
   (fun c pre Pr Wx=>c=.ret∧AlC w w5.heap.size most Pr Wx∧most<(pre.length:Int)∧1≤pre.length∧Wx.cell? ⟨w.heap.size+1+1,0,none⟩=some (.slice none 0 0)∧Wx.cell? ⟨w.heap.size+1+1+1,0,none⟩=some (.bool false)∧Wx.cell? ⟨w.heap.size+1+1+1+1,0,none⟩=some (.int .i64 0))
   ?hI ?hIx ⟨HI0.out,by simp;omega,_,HR0.out⟩
   ?a1 (fun x Wx=>Wx.alloc (Obj.cells #[.slice x.ao x.r.es.length x.cap,.int .u64 x.r.w] 39)) (fun x Wx=>Below.of_al _ _) ?assign ?body ?done ?stop)
  case assign=>
   intro l x Wx K3 hK3
   dsimp only [encSR,encRt]
   gi_wp2
   exact hK3
  case hI=>
   rintro pre Pr W1 W2 ⟨h1,hpl,v,h2⟩ ho
   exact ⟨h1.off ho (fun k e=>by rcases e with e|e;omega;exact Nat.le_of_not_lt (fun h=>e (h1.old k (by omega)))) h1.old (fun k hk=>(h1.pb k hk).imp id (fun h=>Nat.lt_of_lt_of_le h ho.size)),hpl,v,h2.turn h1.z5 h1.old ho⟩
  case hIx=>
   rintro c pre Pr W1 W2 ⟨hc,h1,h2,h3,h4,h5,h6⟩ ho
   have hz:=h1.z5
   have hn:∀k,k<w5.heap.size→¬TurnE w5.heap.size Pr k:=fun k hk e=>by
    rcases e with e|e
    ·omega
    ·exact e (h1.old k (by omega))
   exact ⟨hc,h1.off ho (fun k e=>by rcases e with e|e;omega;exact Nat.le_of_not_lt (fun h=>e (h1.old k (by omega)))) h1.old (fun k hk=>(h1.pb k hk).imp id (fun h=>Nat.lt_of_lt_of_le h ho.size)),h2,h3,ho.cell h4 (hn _ (by simp only;omega)),ho.cell h5 (hn _ (by simp only;omega)),ho.cell h6 (hn _ (by simp only;omega))⟩
  case stop=>
   rintro D c pre Pr Wx rfl hok ⟨rfl,h1,h2,h3,h4,h5,h6⟩ hmk
   have HF:=Lib.hid h1
   have HMK:=Lib.hid hmk
   have H4:=Lib.hid h4
   have H5:=Lib.hid h5
   have H6:=Lib.hid h6
   have HOK:=Lib.hid hok
   clear h1 h4 h5 h6 hmk hok
   refine wpIn_wide.2 ?_
   dsimp only
   go_wp2
   try simp only [Exit.noGoto]
   have hz:=HF.out.z5
   refine leaves_mark HMK.out (fun W9 ho9=>⟨.tuple #[.slice none 0 0,.bool false,.int .i64 0],?_,?_⟩)
   ·have q4:=ho9.cell H4.out (fun e=>by have e:w.heap.size+1+1=w5.heap.size:=e;omega)
    have q5:=ho9.cell H5.out (fun e=>by have e:w.heap.size+1+1+1=w5.heap.size:=e;omega)
    have q6:=ho9.cell H6.out (fun e=>by have e:w.heap.size+1+1+1+1=w5.heap.size:=e;omega)
    simp [results,Try.results9,go_sem,q4,q5,q6]
   ·have hlen:=HOK.out.length_le
    rw [List.length_map] at hlen
    refine ⟨none,0,[],false,0,rfl,Cel.nil _ _,fun x hx=>(nomatch hx),?_,.inr ⟨HK.out,rfl,.inr ⟨by omega,rfl,rfl⟩⟩⟩
    exact ⟨ho9.os.trans HF.out.bel.os,ho9.tape.trans HF.out.bel.tape,ho9.output.trans HF.out.bel.output,Nat.le_trans HF.out.bel.size ho9.size,fun k hk=>(ho9.block k (by have:=HF.out.bel.size;omega) (fun e=>by have e:k=w5.heap.size:=e;omega)).trans (HF.out.bel.block k hk)⟩
  case done=>
   rintro D pre Pr Wx rfl hdn ⟨h1,hpl,v,h2⟩ hmk
   have HF:=Lib.hid h1
   have HMK:=Lib.hid hmk
   have HDN:=Lib.hid hdn
   have HAT:=Lib.hid h2.at'
   have HOW:=Lib.hid h2.ow
   have hn4:n≤4096:=by
    have:=rightG_bounds (whyS_ok HK.out).1
    simp only at this
    omega
   have HLN:=Lib.hid (show ∀x∈pre,x.r.es.length≤1000000 from fun x hx=>by
    have hx2:x.r∈allS n es s t:=by rw [←hdn];exact List.mem_map.2 ⟨x,hx,rfl⟩
    have:=simF_len _ _ _ _ _ _ hx2
    simp only [List.length_nil] at this
    omega)
   have co:=h2.co
   obtain ⟨b3,ci⟩:=h1.ci
   obtain ⟨k4,cf⟩:=h1.cf
   have fo:=h1.fo
   have fi:=h1.fi
   have ff:=h1.ff
   have hz:=h1.z5
   have hsx:=h1.sz
   have HPL:=Lib.hid hpl
   clear h1 hmk hpl hdn hn4
   rcases h2.ow.2 with ⟨rfl,hn0⟩|⟨g,cp,cur,rfl,hbg,hg,-⟩
   ·obtain rfl:pre=[]:=List.eq_nil_of_length_eq_zero hn0
    have HSO:=Lib.hid (fun W'=>sortNil none 0 (.func (.func 20) #[] #[]) W')
    clear h2
    go_wp2_with (go_at_call 24;refine (HSO.out _).mono ?_;rintro e w' ⟨rfl,rfl⟩)
    refine all_end hz hsx HF.out.bel HMK.out co ci cf rfl HOW.out (fun x hx=>nomatch hx) (.inr ⟨HK.out,rfl,.inl ⟨by rw [←HDN.out];simp;omega,rfl,by rw [←HDN.out];rfl⟩⟩) (fun W9 q1 q2 q3=>by simp [results,Try.results9,go_sem,q1,q2,q3])
   ·have hgw:g<Wx.heap.size:=(Array.getElem?_eq_some_iff.1 hg).1
    have HSO:=Lib.hid (sortR_any Wx (w5.heap.size+2) g cp pre HOW.out (fun x hx=>⟨(HAT.out x hx).1,HLN.out x hx,fun a ha=>by
     obtain ⟨q1,q2,q3,q4⟩:=(HAT.out x hx).2 a.block ⟨a,ha,rfl⟩
     exact ⟨q4,fun e=>q3 (by rw [e];rfl)⟩⟩) (by have:=HPL.out;omega))
    clear h2 hg
    go_wp2_with (go_at_call 24;refine HSO.out.mono ?_;rintro e w6 ⟨rfl,ts',k1,k2,k3,k4'⟩;(have HP1:=Lib.hid k1);(have HP2:=Lib.hid k2);(have HP3:=Lib.hid k3);(have HP4:=Lib.hid k4');(have co:=k4'.cell co (fun e=>by have e:w.heap.size+1+1=g:=e;omega));(have ci:=k4'.cell ci (fun e=>by have e:w.heap.size+1+1+1=g:=e;omega));(have cf:=k4'.cell cf (fun e=>by have e:w.heap.size+1+1+1+1=g:=e;omega));(have fi:=(k4'.frozen (p:=⟨w.heap.size+1+1+1,0,none⟩) (by simp only;omega) (fun e=>by have e:w.heap.size+1+1+1=g:=e;omega)).trans fi);(have fo:=(k4'.frozen (p:=⟨w.heap.size+1+1,0,none⟩) (by simp only;omega) (fun e=>by have e:w.heap.size+1+1=g:=e;omega)).trans fo);(have ff:=(k4'.frozen (p:=⟨w.heap.size+1+1+1+1,0,none⟩) (by simp only;omega) (fun e=>by have e:w.heap.size+1+1+1+1=g:=e;omega)).trans ff);clear k1 k2 k3 k4')
    have hts:ts'.length=pre.length:=HP1.out.length_eq
    refine all_end (v:=.slice (some ⟨g,0,none⟩) pre.length cp) (ts:=ts') hz (Nat.le_trans hsx HP4.out.size) (HF.out.bel.trans (HP4.out.below HF.out.bel.size (fun k (e:k=g)=>by omega))) ((HP4.out.block _ (Array.getElem?_eq_some_iff.1 HMK.out).1 (fun e=>by have e:w5.heap.size=g:=e;omega)).trans HMK.out) co ci cf (by rw [hts]) (by rw [hts];exact HP3.out)
     (fun x hx=>by
      have hx2:=HP1.out.mem_iff.1 hx
      exact ⟨(HAT.out x hx2).1.off HP4.out (fun k hk e=>by have e:k=g:=e;exact ((HAT.out x hx2).2 k hk).2.2.1 (by rw [e];rfl)),HLN.out x hx2,fun k hk=>((HAT.out x hx2).2 k hk).2.1⟩)
     (.inr ⟨HK.out,rfl,.inl ⟨by rw [←HDN.out,List.length_map];exact HPL.out,rfl,sortR_uniq (by rw [←HDN.out];exact HP1.out.map _) HP2.out⟩⟩) (fun W9 q1 q2 q3=>by simp [results,Try.results9,go_sem,q1,q2,q3])
  case body=>
   rintro l pre Pr x W0 Wx ⟨h1,hpl,v,h2⟩ hok hat hbx hsz ho p1 p2
   have hWx:W0.heap.size+1≤Wx.heap.size:=by have h9:=ho.size;rwa [World.size_alloc] at h9
   have hDz:w5.heap.size+1≠W0.heap.size:=by omega
   have y0:=ho.cell (p:=⟨W0.heap.size,0,none⟩) (v:=.slice x.ao x.r.es.length x.cap) (by go_simp) (fun e=>hDz e.symm)
   have y1:=ho.cell (p:=⟨W0.heap.size,1,none⟩) (v:=.int .u64 x.r.w) (by go_simp) (fun e=>hDz e.symm)
   have HAX:=Lib.hid (show AtR x Wx from (hat.off (X:=fun _=>False) (.of_below (Below.of_al _ _)) (fun _ _ h=>h)).off ho (fun k hk e=>by have:=(hbx k hk).2.1;have e:k=w5.heap.size+1:=e;omega))
   have HF:=Lib.hid h1
   have HR:=Lib.hid h2
   have HBX:=Lib.hid hbx
   have HWX:=Lib.hid hWx
   have HSZ:=Lib.hid hsz
   have HPL:=Lib.hid hpl
   have hz:=h1.z5
   have co:=h2.co
   have cm:=h1.cm
   obtain ⟨b3,ci⟩:=h1.ci
   obtain ⟨k4,cf⟩:=h1.cf
   have fo:=h1.fo
   have fi:=h1.fi
   have ff:=h1.ff
   obtain ⟨va,vc,rfl,-⟩:=Cel.of_owns h2.ow
   clear h1 h2 hat hbx ho hDz hpl hWx hsz
   have HPB:=Lib.hid (show ∀k,Pr k→k<Wx.heap.size from fun k hk=>by have:=HF.out.pb k hk;have:=HWX.out;have:=HSZ.out;omega)
   have HBE:=Lib.hid (show ∀k,w.heap.size≤k→k<w.heap.size+5→BodyE (KpS w2.heap.size ao es) Pr w5.heap.size W0.heap.size k from fun k q1 q2=>⟨.inl (HF.out.old k (by omega)),fun h=>by have:=HKL.out k h;omega,by omega,by omega⟩)
   by_cases hge:most≤(pre.length:Int)
   ·have HG:=Lib.hid hge
    gi_wp2
    obtain ⟨U1,hU1⟩:∃U1,U1=Wx.setCell ⟨w.heap.size+1+1,0,none⟩ (.slice none 0 0):=⟨_,rfl⟩
    obtain ⟨U2,hU2⟩:∃U2,U2=U1.setCell ⟨w.heap.size+1+1+1,0,none⟩ (.bool false):=⟨_,rfl⟩
    obtain ⟨U3,hU3⟩:∃U3,U3=U2.setCell ⟨w.heap.size+1+1+1+1,0,none⟩ (.int .i64 0):=⟨_,rfl⟩
    rw [←hU1,←hU2,←hU3]
    have o1:OffX (· =w.heap.size+1+1) Wx U1:=by rw [hU1];exact .set _ rfl
    have o2:OffX (· =w.heap.size+1+1+1) U1 U2:=by rw [hU2];exact .set _ rfl
    have o3:OffX (· =w.heap.size+1+1+1+1) U2 U3:=by rw [hU3];exact .set _ rfl
    have p1':U3.cell? ⟨w.heap.size+1+1,0,none⟩=some (.slice none 0 0):=o3.cell (o2.cell (by rw [hU1];exact World.cell?_setCell_same _ _ _ co) (fun e=>by simp only at e;omega)) (fun e=>by simp only at e;omega)
    have p2':U3.cell? ⟨w.heap.size+1+1+1,0,none⟩=some (.bool false):=o3.cell (by rw [hU2];exact World.cell?_setCell_same _ _ _ (o1.cell ci (fun e=>by simp only at e;omega))) (fun e=>by simp only at e;omega)
    have p3':U3.cell? ⟨w.heap.size+1+1+1+1,0,none⟩=some (.int .i64 0):=by rw [hU3];exact World.cell?_setCell_same _ _ _ (o2.cell (o1.cell cf (fun e=>by simp only at e;omega)) (fun e=>by simp only at e;omega))
    have o:OffX (fun k=>w.heap.size≤k∧k<w.heap.size+5) Wx U3:=((o1.mono fun k (e:k=_)=>⟨by omega,by omega⟩).trans (o2.mono fun k (e:k=_)=>⟨by omega,by omega⟩)).trans (o3.mono fun k (e:k=_)=>⟨by omega,by omega⟩)
    have hos:=o.size
    have hbel:Below w.heap.size w U3:=HF.out.bel.trans (o.below HF.out.bel.size (fun k e=>e.1))
    have hfr:∀{p:Addr},U3.frozen? p=Wx.frozen? p:=fun {p}=>by rw [hU3,World.frozen?_setCell,hU2,World.frozen?_setCell,hU1,World.frozen?_setCell]
    refine ⟨Pr,fun k hk=>⟨.inl hk,by have:=HPB.out k hk;omega⟩,p1,p2,o.mono (fun k e=>HBE.out k e.1 e.2),rfl,⟨hbel,HF.out.old,fun k hk=>.inr (by have:=HPB.out k hk;omega),o3.cell (o2.cell (o1.cell cm (fun e=>by simp only at e;omega)) (fun e=>by simp only at e;omega)) (fun e=>by simp only at e;omega),⟨_,p1'⟩,hfr.trans fo,⟨_,p2'⟩,hfr.trans fi,⟨_,p3'⟩,hfr.trans ff,by have:=HF.out.sz;omega,hz⟩,?_,?_,p1',p2',p3'⟩
    ·rw [List.length_append,List.length_singleton];have:=HG.out;omega
    ·rw [List.length_append,List.length_singleton];omega
   ·have hlt:(pre.length:Int)<most:=by omega
    have HLM:=Lib.hid hlt
    obtain ⟨i0,hi0,hz0,hz1,hz2'⟩:=info_parts elem_rtS.1
    gi_wp2_with (gi_at_builtin;(refine wpListIn_append_own_at _ rfl _ _ 32 rfl (w5.heap.size+2) 39 i0 (.agg #[.slice none 0 0,.int .u64 0]) 2 32 Try.underlying32 hi0 hz0 hz1 hz2' rfl (by decide) (.slice va pre.length vc) _ _ rfl (hp_owns_go HR.out.ow (Below.of_al _ _)) ⟨Wx.heap.size,0,none⟩ 1 1 [.slice x.ao x.r.es.length x.cap,.int .u64 x.r.w] rfl rfl (two_newS _ _ _ _) (fun u hu=>by simp only [List.mem_cons,List.not_mem_nil,or_false] at hu;rcases hu with rfl|rfl<;>rfl) (by unfold maxLen;have:=HLM.out;omega) (by have:=HLM.out;omega) (by have:=HWX.out;have:=HSZ.out;simp;omega) ?_;intro v6 w6 hown hgrow _ hat;obtain ⟨la6,lc6,rfl,-⟩:=Cel.of_owns hown;(have HO6:=Lib.hid hown);(have HT6:=Lib.hid hat);(have hox:=(OffX.of_below (X:=fun k=>va.elim False (fun a=>a.block=k)) (Below.of_al Wx (Obj.cells #[.slice x.ao x.r.es.length x.cap,.int .u64 x.r.w] 39))).trans ((ga_offS hgrow).mono (fun k e=>sl_own e)));(have HOX:=Lib.hid hox);(have HVA:=Lib.hid (fun (k:Nat) (h:va.elim False (fun a=>a.block=k))=>sl_own' (n:=pre.length) (c:=vc) h));(have hnb:=fun (k:Nat) (h1:k<w5.heap.size+2) (h:va.elim False (fun a=>a.block=k))=>Nat.not_lt_of_le (HR.out.ow.lt k (HVA.out k h)).1 h1);(have co6:=hox.cell co (hnb _ (by simp only;omega)));(have fo6:=(hox.frozen (World.block_lt_of_cell? _ _ co) (hnb _ (by simp only;omega))).trans fo);(have HNB:=Lib.hid hnb);clear hown hgrow hat hox hnb))
    obtain ⟨U,hU⟩:∃U,U=w6.setCell ⟨w.heap.size+1+1,0,none⟩ (.slice la6 (pre.length+1) lc6):=⟨_,rfl⟩
    rw [←hU]
    have oU:OffX (· =w.heap.size+1+1) w6 U:=by rw [hU];exact .set _ rfl
    have hcoU:U.cell? ⟨w.heap.size+1+1,0,none⟩=some (.slice la6 (pre.length+1) lc6):=by rw [hU];exact World.cell?_setCell_same _ _ _ co6
    have hox:=HOX.out
    have ho2:OffX (fun k=>k=w.heap.size+1+1∨va.elim False (fun a=>a.block=k)) Wx U:=(hox.mono fun k e=>.inr e).trans (oU.mono fun k e=>.inl e)
    have hsU:=ho2.size
    have hs6:=oU.size
    have hwx:=HWX.out
    have hsz:=HSZ.out
    have hl6:∀k,(Value.slice la6 (pre.length+1) lc6).ownBlock=some k→(Value.slice va pre.length vc).ownBlock=some k∨k=Wx.heap.size+1:=fun k hk=>by
     rcases HT6.out with e|e
     ·exact .inl (e.symm.trans hk)
     ·have:=e.symm.trans hk
      rw [World.size_alloc] at this
      exact .inr (Option.some.inj this).symm
    have hlt6:=HO6.out.lt
    have hbo:∀k,(k=w.heap.size+1+1∨va.elim False (fun a=>a.block=k))→Pr k:=fun k e=>by
     rcases e with e|e
     ·exact HF.out.old k (by omega)
     ·exact HR.out.op k (HVA.out k e)
    have hns:∀k,k<w5.heap.size+2→k≠w.heap.size+1+1→¬(k=w.heap.size+1+1∨va.elim False (fun a=>a.block=k)):=fun k h1 h2 e=>e.elim h2 (HNB.out k h1)
    have hxx:∀k,bkR x k→¬(k=w.heap.size+1+1∨va.elim False (fun a=>a.block=k)):=fun k hk e=>(HBX.out k hk).1 (hbo k e)
    refine ⟨fun k=>Pr k∨bkR x k∨(Value.slice la6 (pre.length+1) lc6).ownBlock=some k,fun k hk=>?_,.inl p1,.inl p2,ho2.mono (fun k e=>?_),⟨?_,fun k hk=>.inl (HF.out.old k hk),fun k hk=>.inr ?_,ho2.cell cm (hns _ (by simp only;omega) (by simp only;omega)),⟨_,hcoU⟩,?_,⟨_,ho2.cell ci (hns _ (by simp only;omega) (by simp only;omega))⟩,(ho2.frozen (World.block_lt_of_cell? _ _ ci) (hns _ (by simp only;omega) (by simp only;omega))).trans fi,⟨_,ho2.cell cf (hns _ (by simp only;omega) (by simp only;omega))⟩,(ho2.frozen (World.block_lt_of_cell? _ _ cf) (hns _ (by simp only;omega) (by simp only;omega))).trans ff,by have:=HF.out.sz;omega,hz⟩,?_,_,hcoU,?_,fun k hk=>.inr (.inr hk),fun y hy=>?_⟩
    ·rcases hk with hk|hk|hk
     ·exact ⟨.inl hk,by have:=HPB.out k hk;omega⟩
     ·exact ⟨.inr (.inl hk),by have:=(HBX.out k hk).2.2;omega⟩
     ·have h9:=hlt6 k hk
      rcases hl6 k hk with e|e
      ·exact ⟨.inl (HR.out.op k e),by omega⟩
      ·exact ⟨.inr (.inr (by omega)),by omega⟩
    ·rcases e with e|e
     ·exact HBE.out k (by omega) (by omega)
     ·have e:=HVA.out k e
      have:=(HR.out.ow.lt k e).1
      exact ⟨.inl (HR.out.op k e),fun h=>by have:=HKL.out k h;have:=HZ5.out;omega,by omega,by omega⟩
    ·exact HF.out.bel.trans (ho2.below HF.out.bel.size (fun k e=>by
      rcases e with e|e
      ·omega
      ·have:=(HR.out.ow.lt k (HVA.out k e)).1;omega))
    ·rcases hk with hk|hk|hk
     ·have:=HPB.out k hk;omega
     ·have:=(HBX.out k hk).2.2;omega
     ·have:=(hlt6 k hk).2;omega
    ·rw [hU,World.frozen?_setCell];exact fo6
    ·rw [List.length_append,List.length_singleton];have:=HLM.out;omega
    ·rw [List.length_append,List.length_singleton,flatR_append]
     exact own_off HO6.out oU (fun k hk e=>by have:=(hlt6 k hk).1;have e:k=w.heap.size+1+1:=e;omega)
    ·rcases List.mem_append.1 hy with hy|hy
     ·refine ⟨(HR.out.at' y hy).1.off ho2 (fun k hk e=>?_),fun k hk=>?_⟩
      ·obtain ⟨q1,q2,q3,q4⟩:=(HR.out.at' y hy).2 k hk
       rcases e with e|e
       ·omega
       ·exact q3 (HVA.out k e)
      ·obtain ⟨q1,q2,q3,q4⟩:=(HR.out.at' y hy).2 k hk
       exact ⟨.inl q1,q2,fun e=>by rcases hl6 k e with e|e;exact q3 e;omega,by omega⟩
     ·obtain rfl:=List.mem_singleton.1 hy
      refine ⟨HAX.out.off ho2 hxx,fun k hk=>?_⟩
      obtain ⟨q1,q2,q3⟩:=HBX.out k hk
      exact ⟨.inr (.inl hk),q2,fun e=>by rcases hl6 k e with e|e;exact q1 (HR.out.op k e);omega,by omega⟩
 ·exact absurd hk0 hk
end Go.Proofs.Yteaaapdjplbljaa.Sm
