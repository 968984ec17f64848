/- The law TourOrders. -/
import Derived.Test.YteaaapdjplbljaaGreatLyS
import Derived.Test.YteaaapdjplbljaaGreatProg
import Derived.Test.YteaaapdjplbljaaGreatLy10
import Derived.Test.YteaaapdjplbljaaGreatLy07
import Derived.Test.YteaaapdjplbljaaGreatLw41
import Derived.Test.YteaaapdjplbljaaGreatLw38
set_option linter.unusedVariables false
set_option linter.unusedSimpArgs false
set_option linter.unnecessarySimpa false
namespace Go.Proofs.YteaaapdjplbljaaGreat
open Go Go.Proofs Go.RowKit Go.Shelf Go.Proofs.YteaaapdjplbljaaGreat.Hp Go.Proofs.YteaaapdjplbljaaGreat.Ch Go.Proofs.YteaaapdjplbljaaGreat.To
theorem joinS (a lo:Option Addr) (lc:Nat) (s:Int) (l:List Int) (W:World) (hl:l.length≤1000) (h:Cel W a (([s]:List Int).map encI)) (h2:Cel W lo (l.map encI)):
  Calls Tryz.prog 23 #[.slice a 1 1,.slice lo l.length lc] W fun e w'=>∃ao' cap',e=.returned (.slice ao' (l.length+1) cap')∧Cel w' ao' (([s]++l).map encI)∧Below W.heap.size W w':=
 refJoin_any a lo 1 lc [s] l W (by simp) (by omega) h h2
def OrdBad (k:Int) (gv:Value) (s t:Int) (l:List Int) (w:World) (e:Ending) (w':World):Prop:=
 ∃(hv:Value) (f:Int),e=.returned (.tuple #[hv,.int .i64 f])∧Below w.heap.size w w'∧
  (∀W a c,Below w'.heap.size w' W→Cel W a ((s::t::l).map encI)→Calls Tryz.prog 60 #[hv,.slice a (s::t::l).length c] W fun e W'=>e=.returned (.int .i64 k)∧Below W.heap.size W W')∧
  (∀W a c,Below w'.heap.size w' W→Cel W a ((s::l).map encI)→Calls Tryz.prog 60 #[hv,.slice a (s::l).length c] W fun e W'=>e=.returned (.int .i64 k)∧Below W.heap.size W W')∧
  ∀W a c,Below w'.heap.size w' W→Cel W a (([s]++l).map encI)→Calls Tryz.prog 16 #[gv,.int .i64 f,.slice a (l.length+1) c] W fun e W'=>e=.returned (.int .i64 k)∧Below W.heap.size W W'
def whR (G F S L:Value) (s k:Int) (l:List Int):Nat→Value→World→Prop
 |0,v,_=>v=G
 |1,v,_=>v=F
 |2,v,_=>v=S
 |3,v,W=>BoxI s v W
 |4,v,_=>v=L
 |5,v,W=>ListI (l.length+1) ([s]++l) v W
 |_,v,_=>v=.int .i64 k
theorem whR_go {G F S L:Value} {s k:Int} {l:List Int} (i:Nat) (v:Value) (w w':World) (hb:Below w.heap.size w w') (h:whR G F S L s k l i v w):whR G F S L s k l i v w':=by
 unfold whR at h ⊢
 split at h
 case h_4=>exact h.go hb
 case h_6=>exact h.go hb
 all_goals exact h
set_option maxRecDepth 100000 in
set_option maxHeartbeats 4000000 in
theorem tOrders_bad (kk:Int) (gn:Int) (es:List EdgeD) (ao:Option Addr) (cap:Nat) (h1 s1:Int) (ro:Option Addr) (r:List Int) (rc:Nat) (s:Int) (lo:Option Addr) (l:List Int) (lc:Nat) (t:Int) (w V:World)
  (hV:V=(w.alloc (Obj.cells #[.int .i64 gn,.slice ao es.length cap] 24)).alloc (Obj.cells #[.int .i64 h1,.int .i64 s1,.slice ro r.length rc] 27)) (hl:light20 gn es=true) (hr6:¬(60:Int)<(r.length:Int)) (hf1:(4:Int)<(l.length:Int)→(7:Int)<(l.length:Int)) (hf2:¬(20:Int)<(l.length:Int)) (hk:kk≠0) (hlc:Cel w lo (l.map encI))
  (HBD:∀W,Below V.heap.size V W→Calls Tryz.prog 13 #[.agg #[.int .i64 gn,.slice ao es.length cap],.agg #[.int .i64 h1,.int .i64 s1,.slice ro r.length rc]] W (OrdBad kk (.agg #[.int .i64 gn,.slice ao es.length cap]) s t l W)):
  Calls Tryz.prog 4 #[.agg #[.int .i64 gn,.slice ao es.length cap],.agg #[.int .i64 h1,.int .i64 s1,.slice ro r.length rc],.int .i64 s,.slice lo l.length lc,.int .i64 t] w fun e w'=>e=.returned (.bool true)∧Below w.heap.size w w':=by
 have hbV:Below w.heap.size w V:=by rw [hV];exact (Below.of_al _ _).al _
 have HQ:=Lib.hid (show QB1 V w.heap.size ⟨gn,es⟩ ao cap h1 s1 ro r rc by rw [hV];constructor<;>go_simp)
 have HAL:=Lib.hid alive34_any
 have HLI:=Lib.hid (light20_any gn es ao cap V)
 rw [hl] at HLI
 have HB:=Lib.hid hbV
 have HV:=Lib.hid hV
 have HLC:=Lib.hid (hlc.go hbV)
 obtain ⟨p0,p1,p2,p3,p4⟩:=HQ.out
 have hk1:(kk != 0)=true:=by simpa using hk
 have HK:=Lib.hid hk
 have HBD:=Lib.hid HBD
 have HL50:=Lib.hid (show l.length≤20 by omega)
 have hg1:decide ((4:Int)<(l.length:Int))=true→decide ((l.length:Int)≤7)=false:=fun h=>by
  have h9:=hf1 (by simpa using h)
  simp
  omega
 unfold OrdBad at HBD
 clear hbV hV hl hk hlc
 by_cases hf4:(4:Int)<(l.length:Int)
 all_goals
  first
   |(have hf7:decide ((l.length:Int)≤7)=false:=by have:=hf1 hf4;simp;omega)
   |skip
  clear hf1 hg1
  go_enter Tryz.func4,Tryz.ntmps4
  go_upto_region 1 with (fail)
  rw [←HV.out]
  go_upto_region 4 with (first
   |(go_at_call 11;refine HLI.out.mono ?_;rintro e w1 ⟨rfl,hb1⟩;(have HB1:=Lib.hid hb1);(obtain ⟨x0,x1,x2,x3,x4⟩:=HQ.out.go hb1);clear hb1)
   |(go_at_call 13;refine (HBD.out _ HB1.out).mono ?_;rintro e w2 ⟨hv,f,rfl,hb2,hr1,hr2,hwy⟩;(have HB2:=Lib.hid (HB1.out.st hb2));(have HR1:=Lib.hid hr1);(have HR2:=Lib.hid hr2);(have HW9:=Lib.hid hwy);(have z0:=cell_later hb2 x0);(have z1:=cell_later hb2 x1);clear hb2 hr1 hr2 hwy))
  have HOR:=Lib.hid (trOrder_bad hv kk HK.out s t l lo lc w2 (HLC.out.go HB2.out) (by have:=HL50.out;omega) (fun a c W hz hc=>HR1.out W a c hz hc))
  go_upto_region 5 with (go_at_call 21;refine HOR.out.mono ?_;rintro e w3 ⟨rfl,hb3⟩;(have HB3:=Lib.hid hb3);clear hb3)
  have HNE:=Lib.hid (trNear_bad hv kk HK.out s l lo lc w3 (HLC.out.go (HB2.out.st HB3.out)) (by have:=HL50.out;omega) (fun a c W hz hc=>HR2.out W a c (HB3.out.st hz) hc))
  go_upto_region 6 with (go_at_call 22;refine HNE.out.mono ?_;rintro e w4 ⟨rfl,hb4⟩;(have HB4:=Lib.hid (HB3.out.st hb4));clear hb4)
  have y0:=cell_later HB4.out z0
  have y1:=cell_later HB4.out z1
  have HJ1:=Lib.hid (fun (a:Option Addr) (W:World) (hz:Below w4.heap.size w4 W) (h:Cel W a (([s]:List Int).map encI))=>joinS a lo lc s l W (by have:=HL50.out;omega) h (HLC.out.go (HB2.out.st (HB4.out.st hz))))
  have HWY:=Lib.hid (fun (W:World) (a:Option Addr) (c:Nat) (hz:Below w4.heap.size w4 W) (h:Cel W a (([s]++l).map encI))=>HW9.out W a c (HB4.out.st hz) h)
  clear x0 x1 x2 x3 x4 p0 p1 p2 p3 p4 z0 z1 HOR HNE HR1 HR2 HW9 HBD HLI HQ
  refine wp_region_grows_g 8 rfl (whR (.agg #[.int .i64 gn,.slice ao es.length cap]) (.int .i64 f) (.int .i64 s) (.slice lo l.length lc) s kk l) (by kernel_rfl) (by kernel_rfl) whR_go ?_ ?_
  ·refine ⟨?_,?_,?_,?_,?_,?_,?_,?_,trivial⟩
   ·intro act w' hbe hd ho K hK
    have q0:act.tmps.getD 5 undef=.pointer (some ⟨w.heap.size,0,none⟩):=ho 5 (by kernel_rfl)
    have f0:=cell_later hbe y0
    have f1:=cell_later hbe y1
    refine .inl ⟨goes_free rfl,?_⟩
    simp [Oper.wp,execOp,Oper.upon,go_sem,Act.eval,q0,f0,f1]
    exact hK _ w' (Below.refl _ _) rfl
   ·intro act w' hbe hd ho K hK
    have q0:act.tmps.getD 12 undef=.int .i64 f:=ho 12 (by kernel_rfl)
    refine .inl ⟨goes_free rfl,?_⟩
    simp [Oper.wp,execOp,Oper.upon,go_sem,Act.eval,q0]
    exact hK _ w' (Below.refl _ _) rfl
   ·intro act w' hbe hd ho K hK
    have q0:act.tmps.getD 2 undef=.int .i64 s:=ho 2 (by kernel_rfl)
    refine .inl ⟨goes_free rfl,?_⟩
    simp [Oper.wp,execOp,Oper.upon,go_sem,Act.eval,q0]
    exact hK _ w' (Below.refl _ _) rfl
   ·intro act w' hbe hd ho K hK
    have q0:act.tmps.getD 76 undef=.int .i64 s:=hd 2 (by rfl)
    have z0:=(Array.getD_eq_getD_getElem? (xs:=act.tmps) (i:=76) (d:=undef)).symm.trans q0
    refine .inl ⟨goes_free rfl,?_⟩
    simp [Oper.wp,execOp,Oper.upon,go_sem,Act.eval,q0,z0]
    exact hK _ _ (Below.of_al _ _) ⟨w'.heap.size,rfl,by go_simp⟩
   ·intro act w' hbe hd ho K hK
    have q0:act.tmps.getD 3 undef=.slice lo l.length lc:=ho 3 (by kernel_rfl)
    refine .inl ⟨goes_free rfl,?_⟩
    simp [Oper.wp,execOp,Oper.upon,go_sem,Act.eval,q0]
    exact hK _ w' (Below.refl _ _) rfl
   ·intro act w' hbe hd ho K hK
    have q0:act.tmps.getD 78 undef=.slice lo l.length lc:=hd 4 (by rfl)
    have b5:BoxI s (act.tmps.getD 77 undef) w':=hd 3 (by rfl)
    obtain ⟨a5,e5,c5⟩:=b5.cel
    refine .inl ⟨goes_free rfl,?_⟩
    simp [Oper.wp,execOp,Oper.upon,go_sem,Act.eval,q0,e5]
    refine (HJ1.out a5 w' hbe c5).mono ?_
    rintro e w8 ⟨a6,c6,rfl,k1,k2⟩
    exact hK _ w8 k2 ⟨a6,c6,rfl,k1⟩
   ·intro act w' hbe hd ho K hK
    have q0:act.tmps.getD 74 undef=.agg #[.int .i64 gn,.slice ao es.length cap]:=hd 0 (by rfl)
    have q1:act.tmps.getD 75 undef=.int .i64 f:=hd 1 (by rfl)
    obtain ⟨a6,c6,e6,h6⟩:ListI (l.length+1) ([s]++l) (act.tmps.getD 79 undef) w':=hd 5 (by rfl)
    refine .inl ⟨goes_free rfl,?_⟩
    simp [Oper.wp,execOp,Oper.upon,go_sem,Act.eval,q0,q1,e6]
    refine (HWY.out w' a6 c6 hbe h6).mono ?_
    rintro e w8 ⟨rfl,k2⟩
    exact hK _ w8 k2 rfl
   ·intro act w' hbe hd ho K hK
    have q0:act.tmps.getD 80 undef=.int .i64 kk:=hd 6 (by rfl)
    refine .inl ⟨goes_free rfl,?_⟩
    simp [Oper.wp,execOp,Oper.upon,go_sem,Act.eval,q0]
    exact hK _ w' (Below.refl _ _) rfl
  ·intro vs w5 hb5 hR
   have e7:vs 7=.int .i64 kk:=hR 7 (by decide)
   simp only [puts,dstAt,List.getElem?_cons_zero,List.getElem?_cons_succ,Option.bind_some,Option.getD_some,Act.put,List.length_cons,List.length_nil,Nat.reduceAdd,List.setIfInBounds_toArray,List.set_cons_zero,List.set_cons_succ,e7]
   have HB5:=Lib.hid (HB4.out.st hb5)
   clear hR e7 hb5 HJ1 HWY y0 y1
   generalize vs 0=a0
   generalize vs 1=a1
   generalize vs 2=a2
   generalize vs 3=a3
   generalize vs 4=a4
   generalize vs 5=a5
   generalize vs 6=a6
   go_wp2_with (go_at_call 12;refine (HAL.out _).mono ?_;rintro e w7 ⟨rfl,hb7⟩;(have HB7:=Lib.hid (HB2.out.st (HB5.out.st hb7)));clear hb7)
   go_ret
   exact ⟨rfl,HB.out.st HB7.out⟩
theorem dist_T {n:Nat} {es:List EdgeD} {s t:Int} (hn:n≤12) (hA:∀u v w,arcG es u v w→nodeN n u∧nodeN n v∧1≤w∧w≤4294967296) (ht:nodeN n t):DistT es s t:=by
 have key:∃x,FarV (arcG es) s t x:=by
  by_cases h:∃e,Way0 (arcG es) Any s t e
  ·obtain ⟨e,he⟩:=h
   obtain ⟨d,hd⟩:=dist_some (fun u v w h=>(hA u v w h).2.2.1) he
   have h1:=dist_bnd (by decide) hA n t d [] ht hd (by simp) List.nodup_nil (by simp)
   exact ⟨d,.inl ⟨hd,hd.1.nonneg (fun u v w h=>(hA u v w h).2.2.1),by omega⟩⟩
  ·exact ⟨FAR,.inr ⟨rfl,fun e he=>h ⟨e,he⟩⟩⟩
 obtain ⟨x,hx⟩:=key
 have:=hx.eqD
 subst this
 exact far_T hn hA ht hx
noncomputable def nearR (es:List EdgeD) (s:Int) (l:List Int):List Nat×Int×Int:=match tnearF (cmat es (s::s::l)) l.length l.length 0 [] 0 with
 |some q=>(q.1,q.2,0)
 |none=>([],0,9)
def ordR (F:List Nat×Int):List Nat×Int×Int:=if F.2<4611686018427387904 then (F.1,F.2,0) else ([],0,9)
def Flat3 (r:List Nat×Int×Int) (w:World) (e:Ending) (w':World):Prop:=∃(a:Option Addr) (c:Nat),e=.returned (.tuple #[.slice a r.1.length c,.int .u64 r.2.1,.int .i64 r.2.2])∧Cel w' a (r.1.map encN)∧Below w.heap.size w w'
theorem TrNearPost.flat {es:List EdgeD} {s:Int} {l:List Int} {w w':World} {e:Ending} (h:TrNearPost es s l w e w'):Flat3 (nearR es s l) w e w':=by
 obtain ⟨h1,h2⟩:=h
 unfold nearR
 cases hq:tnearF (cmat es (s::s::l)) l.length l.length 0 [] 0 with
 |none=>rw [hq] at h1;exact ⟨none,0,h1,Cel.nil _ _,h2⟩
 |some q=>rw [hq] at h1;obtain ⟨a,c,h3,h4⟩:=h1;exact ⟨a,c,h3,h4,h2⟩
theorem nearR_len (es:List EdgeD) (s:Int) (l:List Int):(nearR es s l).1.length≤l.length:=by
 unfold nearR
 cases hq:tnearF (cmat es (s::s::l)) l.length l.length 0 [] 0 with
 |none=>simp
 |some q=>
  obtain ⟨p,p1,-,-,p4,-⟩:=near_spec _ _ _ _ _ hq
  show q.1.length≤_
  rw [p4]
  simp [p1]
theorem TrOrdPost.flat {es:List EdgeD} {all:List Int} {m:Nat} {w w':World} {e:Ending} (h:TrOrdPost es all m w e w'):Flat3 (ordR (growF (cmat es all) m m 0 [] 0 ([],4611686018427387904))) w e w':=by
 obtain ⟨-,h2,h3⟩:=h
 unfold ordR
 rcases h2 with ⟨k1,a,c,k2,k3⟩|⟨k1,k2⟩
 ·rw [if_pos k1]
  exact ⟨a,c,k2,by rw [encN_map] at k3;exact k3,h3⟩
 ·rw [if_neg (by omega)]
  exact ⟨none,0,k2,Cel.nil _ _,h3⟩
theorem RefOrdPost.flat {F:List Nat×Int} {w w':World} {e:Ending} (h:RefOrdPost F w e w'):Flat3 (ordR F) w e w':=by
 obtain ⟨h2,h3⟩:=h
 unfold ordR
 rcases h2 with ⟨k1,a,c,k2,k3⟩|⟨k1,k2⟩
 ·rw [if_pos k1]
  exact ⟨a,c,k2,k3,h3⟩
 ·rw [if_neg (by omega)]
  exact ⟨none,0,k2,Cel.nil _ _,h3⟩
theorem ordR_len {es:List EdgeD} {s t:Int} {l:List Int} (hl:l.length≤7) (hD:∀x∈s::t::l,∀y∈s::t::l,DistT es x y):(ordR (growF (cmat es (s::t::l)) l.length l.length 0 [] 0 ([],4611686018427387904))).1.length≤7:=by
 rw [←foldQ_grow hl hD]
 unfold ordR
 split
 ·have:=foldQ_len (c:=cmat es (s::t::l)) (all:=tailsF l.length l.length []) (fun q hq=>by rw [((mem_tails _ _ _).1 hq).1];exact hl) (tailsF l.length l.length []).length (Nat.le_refl _)
  unfold foldQ at this
  rw [List.take_length] at this
  exact this
 ·simp
theorem tails_few:∀m,m≤4→(tailsF m m []).length≤1000000
 |0,_=>by decide
 |1,_=>by decide
 |2,_=>by decide
 |3,_=>by decide
 |4,_=>by decide
 |m+5,h=>by omega
set_option maxRecDepth 100000 in
set_option maxHeartbeats 8000000 in
theorem TourOrders_any (g:GD) (ao:Option Addr) (cap:Nat) (h1 s1:Int) (ro:Option Addr) (r:List Int) (rc:Nat) (s:Int) (lo:Option Addr) (l:List Int) (lc:Nat) (t:Int) (w:World) (hc:Cel w ao (flat g.es)) (hr:Cel w ro (r.map encI)) (hlc:Cel w lo (l.map encI)):
  Calls Tryz.prog 4 #[.agg #[.int .i64 g.n,.slice ao g.es.length cap],.agg #[.int .i64 h1,.int .i64 s1,.slice ro r.length rc],.int .i64 s,.slice lo l.length lc,.int .i64 t] w fun e w'=>e=.returned (.bool true)∧Below w.heap.size w w':=by
 obtain ⟨V,hV⟩:∃V,V=(w.alloc (Obj.cells #[.int .i64 g.n,.slice ao g.es.length cap] 24)).alloc (Obj.cells #[.int .i64 h1,.int .i64 s1,.slice ro r.length rc] 27):=⟨_,rfl⟩
 have hbV:Below w.heap.size w V:=by rw [hV];exact (Below.of_al _ _).al _
 have HQ:=Lib.hid (show QB1 V w.heap.size g ao cap h1 s1 ro r rc by rw [hV];constructor<;>go_simp)
 have HAL:=Lib.hid alive34_any
 have HLI:=Lib.hid (light20_any g.n g.es ao cap V)
 have HB:=Lib.hid hbV
 have HV:=Lib.hid hV
 obtain ⟨p0,p1,p2,p3,p4⟩:=HQ.out
 have HCS:=Lib.hid (And.intro (hc.go hbV) (hr.go hbV))
 have HFT:=Lib.hid (hlc.go hbV)
 have HLW:=Lib.hid hlc
 clear hbV hV hc hr hlc
 cases hl:light20 g.n g.es with
 |false=>
  rw [hl] at HLI
  clear hl
  go_enter Tryz.func4,Tryz.ntmps4
  go_upto_region 1 with (fail)
  rw [←HV.out]
  go_wp2_with (first
   |(go_at_call 11;refine HLI.out.mono ?_;rintro e w1 ⟨rfl,hb1⟩;(have HB1:=Lib.hid (HB.out.st hb1));clear hb1)
   |(go_at_call 12;refine (HAL.out _).mono ?_;rintro e w2 ⟨rfl,hb2⟩;(have HB2:=Lib.hid (HB1.out.st hb2));clear hb2))
  go_ret
  exact ⟨rfl,HB2.out⟩
 |true=>
  obtain ⟨hg,hes⟩:=light20_small hl
  have HG:=Lib.hid hg
  rw [hl] at HLI
  clear hg
  by_cases hr6:(60:Int)<(r.length:Int)
  ·go_enter Tryz.func4,Tryz.ntmps4
   go_upto_region 1 with (fail)
   rw [←HV.out]
   go_wp2_with (first
    |(go_at_call 11;refine HLI.out.mono ?_;rintro e w1 ⟨rfl,hb1⟩;(have HB1:=Lib.hid (HB.out.st hb1));(have k4:=cell_later hb1 p4);clear hb1)
    |(go_at_call 12;refine (HAL.out _).mono ?_;rintro e w2 ⟨rfl,hb2⟩;(have HB2:=Lib.hid (HB1.out.st hb2));clear hb2))
   go_ret
   exact ⟨rfl,HB2.out⟩
  by_cases hf6:(4:Int)<(l.length:Int)∧(l.length:Int)≤7
  ·obtain ⟨hf6,hf7⟩:=hf6
   go_enter Tryz.func4,Tryz.ntmps4
   go_upto_region 1 with (fail)
   rw [←HV.out]
   go_wp2_with (first
    |(go_at_call 11;refine HLI.out.mono ?_;rintro e w1 ⟨rfl,hb1⟩;(have HB1:=Lib.hid (HB.out.st hb1));(have k4:=cell_later hb1 p4);clear hb1)
    |(go_at_call 12;refine (HAL.out _).mono ?_;rintro e w2 ⟨rfl,hb2⟩;(have HB2:=Lib.hid (HB1.out.st hb2));clear hb2))
   go_ret
   exact ⟨rfl,HB2.out⟩
  by_cases hf20:(20:Int)<(l.length:Int)
  ·have hf4:decide ((4:Int)<(l.length:Int))=true:=by simp;omega
   have hf5:decide ((l.length:Int)≤7)=false:=by simp;omega
   clear hf6
   go_enter Tryz.func4,Tryz.ntmps4
   go_upto_region 1 with (fail)
   rw [←HV.out]
   go_wp2_with (first
    |(go_at_call 11;refine HLI.out.mono ?_;rintro e w1 ⟨rfl,hb1⟩;(have HB1:=Lib.hid (HB.out.st hb1));(have k4:=cell_later hb1 p4);clear hb1)
    |(go_at_call 12;refine (HAL.out _).mono ?_;rintro e w2 ⟨rfl,hb2⟩;(have HB2:=Lib.hid (HB1.out.st hb2));clear hb2))
   go_ret
   exact ⟨rfl,HB2.out⟩
  have HBA:=Lib.hid (fun W (hz:Below V.heap.size V W)=>built_any g ao ro cap rc h1 s1 r W (HCS.out.1.go hz) (HCS.out.2.go hz) (fun k=>by have:=HG.out k;omega) (by omega) (by omega))
  have HZ:=Lib.hid (fun k:buildB g h1 s1 r=0=>build_right k)
  have hl20:l.length≤20:=by omega
  have hf61:(4:Int)<(l.length:Int)→(7:Int)<(l.length:Int):=fun h=>by
   rcases Classical.em ((l.length:Int)≤7) with h9|h9
   ·exact absurd ⟨h,h9⟩ hf6
   ·omega
  generalize buildB g h1 s1 r=k1 at*
  by_cases e1:k1=0
  ·subst e1
   have hgz:=HZ.out rfl
   have hn:=HG.out hgz
   have hgn:=right_n hgz
   obtain ⟨n,hnn⟩:∃n:Nat,g.n=(n:Int):=⟨g.n.toNat,by omega⟩
   obtain ⟨gn,es⟩:=g
   simp only at hnn hn hes
   subst hnn
   have hn12:n≤12:=by omega
   have hes40:es.length≤40:=by omega
   have HGZ:=Lib.hid hgz
   clear HZ
   have hA:∀u v w,arcG es u v w→nodeN n u∧nodeN n v∧1≤w∧w≤4294967296:=by
    rintro u v w ⟨x,hx,rfl,rfl,rfl⟩
    have:=(edges_ok hgz (n:=n) rfl).ok x hx
    exact ⟨this.1,this.2.1,this.2.2.2⟩
   cases hno:(s::l).any (outB n) with
   |true=>
    refine tOrders_bad 7 (n:Int) es ao cap h1 s1 ro r rc s lo l lc t w V HV.out hl hr6 hf61 hf20 (by decide) HLW.out (fun W hz=>(HBA.out W hz).mono ?_)
    intro e w2 hp2
    obtain ⟨hb,R,S,po,rfl,hbh,hb2⟩:=hp2.good rfl hgz hn
    have hno2:(s::t::l).any (outB n)=true:=by
     rw [List.any_cons] at hno ⊢
     rw [List.any_cons]
     cases h9:outB n s with
     |true=>rfl
     |false=>
      rw [h9,Bool.false_or] at hno
      rw [hno]
      simp
    refine ⟨_,_,rfl,hb2,fun W' a c hz' hc'=>?_,fun W' a c hz' hc'=>?_,fun W' a c hz' hc'=>?_⟩
    ·exact trRight_off hb n es R S _ _ (s::t::l) a c W' ((show BH w2 hb n es R S po from hbh).go hz').mem hc' (by simp;omega) hno2
    ·exact trRight_off hb n es R S _ _ (s::l) a c W' ((show BH w2 hb n es R S po from hbh).go hz').mem hc' (by simp;omega) hno
    ·have:=why34_ok n ao es.length cap a c ([s]++l) W' hc' (by simp;omega)
     rw [show ([s]++l).any (outB n)=true from hno] at this
     exact this
   |false=>
    have hnod:=outB_no.1 hno
    have HTT:=Lib.hid (fun (x:Int) (hx:nodeN n x) (y:Int)=>dist_T (s:=y) (t:=x) hn12 hA hx)
    have HND:=Lib.hid hnod
    have HL:=Lib.hid hl20
    have HF61:=Lib.hid hf61
    have HAA:=Lib.hid hA
    have HWY:=Lib.hid (fun (W:World) (a:Option Addr) (c:Nat) (h:Cel W a (([s]++l).map encI))=>why34_ok n ao es.length cap a c ([s]++l) W h (by simp;omega))
    rw [show ([s]++l).any (outB n)=false from hno] at HWY
    simp only [Bool.false_eq_true,if_false] at HWY
    have HCA:=Lib.hid (show ∃(L:List Nat) (d k:Int),L.length≤7∧(∀(W:World) (hb:Nat) (R:List Int) (S:List SC) (po:List Int),BH W hb n es R S po→Cel W lo (l.map encI)→Calls Tryz.prog 21 #[.pointer (some ⟨hb,0,none⟩),.int .i64 s,.slice lo l.length lc,.int .i64 t] W (Flat3 (L,d,k) W))∧
      (((t<0∨(0≤t∧(n:Int)≤t))∧L=[]∧d=0∧k=7)∨((0≤t∧t<(n:Int))∧(7:Int)<(l.length:Int)∧L=[]∧d=0∧k=5)∨((0≤t∧t<(n:Int))∧¬(7:Int)<(l.length:Int)∧(∀v∈s::t::l,nodeN n v)∧(∀x∈s::t::l,∀y∈s::t::l,DistT es x y)∧(L,d,k)=ordR (growF (cmat es (s::t::l)) l.length l.length 0 [] 0 ([],4611686018427387904)))) from by
     by_cases ht:0≤t∧t<(n:Int)
     ·have hno3:∀v∈s::t::l,nodeN n v:=fun v hv=>by
       rcases List.mem_cons.1 hv with rfl|hv
       ·exact hnod _ (List.mem_cons_self ..)
       rcases List.mem_cons.1 hv with rfl|hv
       ·exact ht
       exact hnod v (List.mem_cons_of_mem _ hv)
      by_cases h7:(7:Int)<(l.length:Int)
      ·refine ⟨[],0,5,by simp,fun W hb R S po h hc=>Calls.mono (trOrder_big hb n es R S po s t l lo lc W h hc (by omega) (by omega) hno3) ?_,.inr (.inl ⟨ht,h7,rfl,rfl,rfl⟩)⟩
       rintro e w' ⟨rfl,h9⟩
       exact ⟨none,0,rfl,Cel.nil _ _,h9⟩
      ·have hD:∀x∈s::t::l,∀y∈s::t::l,DistT es x y:=fun x _ y hy=>HTT.out y (hno3 y hy) x
       have hlen:=ordR_len (es:=es) (s:=s) (t:=t) (l:=l) (by omega) hD
       have hcl:=fun (W:World) (hb:Nat) (R:List Int) (S:List SC) (po:List Int) (h:BH W hb n es R S po) (hc:Cel W lo (l.map encI))=>trOrder_any hb n es R S po s t l lo lc W h hc (by omega) hno3
       exact ⟨_,_,_,hlen,fun W hb R S po h hc=>Calls.mono (hcl W hb R S po h hc) (fun e w' h9=>h9.flat),.inr (.inr ⟨ht,h7,hno3,hD,rfl⟩)⟩
     ·have ht2:t<0∨(0≤t∧(n:Int)≤t):=by omega
      have hob:(s::t::l).any (outB n)=true:=by
       rw [List.any_cons,List.any_cons]
       have:outB n t=true:=by
        unfold outB
        rcases ht2 with h|h
        ·rw [decide_eq_true h];rfl
        ·rw [decide_eq_true h.2];simp
       rw [this]
       simp
      refine ⟨[],0,7,by simp,fun W hb R S po h hc=>Calls.mono (trOrder_bad (.pointer (some ⟨hb,0,none⟩)) 7 (by decide) s t l lo lc W hc (by omega) (fun a c U hz hc'=>trRight_off hb n es R S _ _ (s::t::l) a c U (h.go hz).mem hc' (by simp;omega) hob)) ?_,.inl ⟨ht2,rfl,rfl,rfl⟩⟩
      rintro e w' ⟨rfl,h9⟩
      exact ⟨none,0,rfl,Cel.nil _ _,h9⟩)
    obtain ⟨L,d,k,hL7,hord,hcase⟩:=HCA.out
    have HOR:=Lib.hid hord
    have HCASE:=Lib.hid hcase
    have HL7:=Lib.hid hL7
    obtain ⟨NR,hNR⟩:∃NR,NR=nearR es s l:=⟨_,rfl⟩
    have HNL:=Lib.hid (show NR.1.length≤20 by rw [hNR];have:=nearR_len es s l;omega)
    have HNE:=Lib.hid (fun (W:World) (hb:Nat) (R:List Int) (S:List SC) (po:List Int) (h:BH W hb n es R S po) (hc:Cel W lo (l.map encI))=>show Calls Tryz.prog 22 #[.pointer (some ⟨hb,0,none⟩),.int .i64 s,.slice lo l.length lc] W (Flat3 NR W) from by rw [hNR];exact Calls.mono (trNear_any hb n es R S po s l lo lc W h hc hl20 hnod) (fun e w' h9=>h9.flat))
    have HRN:=Lib.hid (fun (W:World) (hc1:Cel W ao (flat es)) (hc2:Cel W lo (l.map encI))=>show Calls Tryz.prog 24 #[.agg #[.int .i64 (n:Int),.slice ao es.length cap],.int .i64 s,.slice lo l.length lc] W (Flat3 NR W) from by rw [hNR];exact Calls.mono (refNear34_any n es ao cap s lo lc l W hgz hn12 hes40 hc1 hc2 hl20 hnod hA) (fun e w' h9=>h9.flat))
    obtain ⟨M,md,mk⟩:=NR
    have HHN:=Lib.hid hn
    simp only at HNL
    clear HCA hord hcase hL7 hNR hl hno hnod hgz hA hl20
    by_cases hf4:(4:Int)<(l.length:Int)
    all_goals
     first
      |(have hf7:decide ((l.length:Int)≤7)=false:=by have:=hf61 hf4;simp;omega)
      |skip
     clear hf61 hf6
     go_enter Tryz.func4,Tryz.ntmps4
     go_upto_region 1 with (fail)
     rw [←HV.out]
     go_upto_region 4 with (first
      |(go_at_call 11;refine HLI.out.mono ?_;rintro e w1 ⟨rfl,hb1⟩;(have HB1:=Lib.hid hb1);(obtain ⟨x0,x1,x2,x3,x4⟩:=HQ.out.go hb1);clear hb1)
      |(go_at_call 13;refine (HBA.out _ HB1.out).mono ?_;rintro e w2 hp2;(obtain ⟨hb,R,S,po,rfl,hbh,hb2⟩:=hp2.good rfl HGZ.out HHN.out);(have HH:=Lib.hid (show BH w2 hb n es R S po from hbh));(have HB2:=Lib.hid (HB1.out.st hb2));(have z0:=cell_later hb2 x0);(have z1:=cell_later hb2 x1);clear hb2 hp2 hbh))
     clear x0 x1 x2 x3 x4 p0 p1 p2 p3 p4 HBA HQ HLI
     have HO2:=Lib.hid (HOR.out w2 hb R S po HH.out (HFT.out.go HB2.out))
     unfold Flat3 at HO2
     simp only at HO2
     go_upto_region 5 with (go_at_call 21;refine HO2.out.mono ?_;rintro e w3 ⟨a13,c13,rfl,k1,k2⟩;(have HC13:=Lib.hid k1);(have HB3:=Lib.hid k2);clear k1 k2)
     have HN2:=Lib.hid (HNE.out w3 hb R S po (HH.out.go HB3.out) (HFT.out.go (HB2.out.st HB3.out)))
     unfold Flat3 at HN2
     simp only at HN2
     go_upto_region 6 with (go_at_call 22;refine HN2.out.mono ?_;rintro e w4 ⟨a16,c16,rfl,k1,k2⟩;(have HC16:=Lib.hid k1);(have HB4:=Lib.hid k2);clear k1 k2)
     have HB24:=Lib.hid (HB2.out.st (HB3.out.st HB4.out))
     have y0:=cell_later (HB3.out.st HB4.out) z0
     have y1:=cell_later (HB3.out.st HB4.out) z1
     have HC13:=Lib.hid (HC13.out.go HB4.out)
     have HJ1:=Lib.hid (fun (a:Option Addr) (W:World) (hz:Below w4.heap.size w4 W) (h:Cel W a (([s]:List Int).map encI))=>joinS a lo lc s l W (by have:=HL.out;omega) h (HFT.out.go (HB24.out.st hz)))
     have HWY:=Lib.hid (fun (W:World) (a:Option Addr) (c:Nat) (_:Below w4.heap.size w4 W) (h:Cel W a (([s]++l).map encI))=>HWY.out W a c h)
     clear z0 z1 HOR HO2 HNE HN2 HH
     refine wp_region_grows_g 8 rfl (whR (.agg #[.int .i64 (n:Int),.slice ao es.length cap]) (.int .i64 0) (.int .i64 s) (.slice lo l.length lc) s 0 l) (by kernel_rfl) (by kernel_rfl) whR_go ?_ ?_
     ·refine ⟨?_,?_,?_,?_,?_,?_,?_,?_,trivial⟩
      ·intro act w' hbe hd ho K hK
       have q0:act.tmps.getD 5 undef=.pointer (some ⟨w.heap.size,0,none⟩):=ho 5 (by kernel_rfl)
       have f0:=cell_later hbe y0
       have f1:=cell_later hbe y1
       refine .inl ⟨goes_free rfl,?_⟩
       simp [Oper.wp,execOp,Oper.upon,go_sem,Act.eval,q0,f0,f1]
       exact hK _ w' (Below.refl _ _) rfl
      ·intro act w' hbe hd ho K hK
       have q0:act.tmps.getD 12 undef=.int .i64 0:=ho 12 (by kernel_rfl)
       refine .inl ⟨goes_free rfl,?_⟩
       simp [Oper.wp,execOp,Oper.upon,go_sem,Act.eval,q0]
       exact hK _ w' (Below.refl _ _) rfl
      ·intro act w' hbe hd ho K hK
       have q0:act.tmps.getD 2 undef=.int .i64 s:=ho 2 (by kernel_rfl)
       refine .inl ⟨goes_free rfl,?_⟩
       simp [Oper.wp,execOp,Oper.upon,go_sem,Act.eval,q0]
       exact hK _ w' (Below.refl _ _) rfl
      ·intro act w' hbe hd ho K hK
       have q0:act.tmps.getD 76 undef=.int .i64 s:=hd 2 (by rfl)
       have z0:=(Array.getD_eq_getD_getElem? (xs:=act.tmps) (i:=76) (d:=undef)).symm.trans q0
       refine .inl ⟨goes_free rfl,?_⟩
       simp [Oper.wp,execOp,Oper.upon,go_sem,Act.eval,q0,z0]
       exact hK _ _ (Below.of_al _ _) ⟨w'.heap.size,rfl,by go_simp⟩
      ·intro act w' hbe hd ho K hK
       have q0:act.tmps.getD 3 undef=.slice lo l.length lc:=ho 3 (by kernel_rfl)
       refine .inl ⟨goes_free rfl,?_⟩
       simp [Oper.wp,execOp,Oper.upon,go_sem,Act.eval,q0]
       exact hK _ w' (Below.refl _ _) rfl
      ·intro act w' hbe hd ho K hK
       have q0:act.tmps.getD 78 undef=.slice lo l.length lc:=hd 4 (by rfl)
       have b5:BoxI s (act.tmps.getD 77 undef) w':=hd 3 (by rfl)
       obtain ⟨a5,e5,c5⟩:=b5.cel
       refine .inl ⟨goes_free rfl,?_⟩
       simp [Oper.wp,execOp,Oper.upon,go_sem,Act.eval,q0,e5]
       refine (HJ1.out a5 w' hbe c5).mono ?_
       rintro e w8 ⟨a6,c6,rfl,k1,k2⟩
       exact hK _ w8 k2 ⟨a6,c6,rfl,k1⟩
      ·intro act w' hbe hd ho K hK
       have q0:act.tmps.getD 74 undef=.agg #[.int .i64 (n:Int),.slice ao es.length cap]:=hd 0 (by rfl)
       have q1:act.tmps.getD 75 undef=.int .i64 0:=hd 1 (by rfl)
       obtain ⟨a6,c6,e6,h6⟩:ListI (l.length+1) ([s]++l) (act.tmps.getD 79 undef) w':=hd 5 (by rfl)
       refine .inl ⟨goes_free rfl,?_⟩
       simp [Oper.wp,execOp,Oper.upon,go_sem,Act.eval,q0,q1,e6]
       refine (HWY.out w' a6 c6 hbe h6).mono ?_
       rintro e w8 ⟨rfl,k2⟩
       exact hK _ w8 k2 rfl
      ·intro act w' hbe hd ho K hK
       have q0:act.tmps.getD 80 undef=.int .i64 0:=hd 6 (by rfl)
       refine .inl ⟨goes_free rfl,?_⟩
       simp [Oper.wp,execOp,Oper.upon,go_sem,Act.eval,q0]
       exact hK _ w' (Below.refl _ _) rfl
     ·intro vs w5 hb5 hR
      have e7:vs 7=.int .i64 0:=hR 7 (by decide)
      simp only [puts,dstAt,List.getElem?_cons_zero,List.getElem?_cons_succ,Option.bind_some,Option.getD_some,Act.put,List.length_cons,List.length_nil,Nat.reduceAdd,List.setIfInBounds_toArray,List.set_cons_zero,List.set_cons_succ,e7]
      have HB5:=Lib.hid (HB24.out.st hb5)
      have y0:=cell_later hb5 y0
      have y1:=cell_later hb5 y1
      have HC13:=Lib.hid (HC13.out.go hb5)
      have HC16:=Lib.hid (HC16.out.go hb5)
      have HRN2:=Lib.hid (HRN.out w5 (HCS.out.1.go HB5.out) (HFT.out.go HB5.out))
      unfold Flat3 at HRN2
      simp only at HRN2
      clear hR e7 hb5 HJ1 HWY HB24 HRN
      generalize vs 0=a0
      generalize vs 1=a1
      generalize vs 2=a2
      generalize vs 3=a3
      generalize vs 4=a4
      generalize vs 5=a5
      generalize vs 6=a6
      go_upto_region 10 with (go_at_call 24;refine HRN2.out.mono ?_;rintro e w6 ⟨a20,c20,rfl,k1,k2⟩;(have HC20:=Lib.hid k1);(have HB6:=Lib.hid k2);clear k1 k2)
      have HSM:=Lib.hid (sameInts_any a16 a20 c16 c20 (M.map Int.ofNat) (M.map Int.ofNat) w6 (by rw [List.length_map];have:=HNL.out;omega) (by rw [List.length_map];have:=HNL.out;omega) (by rw [encN_map];exact HC16.out.go HB6.out) (by rw [encN_map];exact HC20.out))
      rw [List.length_map,decide_eq_true rfl] at HSM
      have y0:=cell_later HB6.out y0
      have y1:=cell_later HB6.out y1
      have HC13:=Lib.hid (HC13.out.go HB6.out)
      have HB6:=Lib.hid (HB5.out.st HB6.out)
      clear HRN2 HC16 HC20
      go_upto_region 12 with (go_at_call 25;refine HSM.out.mono ?_;rintro e w7 ⟨rfl,nq,hw7⟩;(have HB7:=Lib.hid (show Below w6.heap.size w6 w7 from hw7▸Below.of_dr w6 nq));(have x0:=cell_later HB7.out y0);(have x1:=cell_later HB7.out y1);clear hw7)
      have HC13:=Lib.hid (HC13.out.go HB7.out)
      have HB7:=Lib.hid (HB6.out.st HB7.out)
      clear HSM y0 y1
      rcases HCASE.out with ⟨ht,hL,hd,hk⟩|⟨ht,h7,hL,hd,hk⟩|⟨ht,h7,hno3,hD,hF⟩
      ·subst hL
       subst hd
       subst hk
       clear HCASE
       rcases ht with ht|⟨ht0,ht1⟩
       ·go_wp2_with (go_at_call 12;refine (HAL.out _).mono ?_;rintro e w8 ⟨rfl,hb8⟩;(have HB8:=Lib.hid (HB7.out.st hb8));clear hb8)
        go_ret
        exact ⟨rfl,HB.out.st HB8.out⟩
       ·have ht2:decide (t<0)=false:=by simpa using ht0
        go_wp2_with (go_at_call 12;refine (HAL.out _).mono ?_;rintro e w8 ⟨rfl,hb8⟩;(have HB8:=Lib.hid (HB7.out.st hb8));clear hb8)
        go_ret
        exact ⟨rfl,HB.out.st HB8.out⟩
      ·have h4:(4:Int)<(l.length:Int):=by omega
       first
        |exact absurd h4 (by omega)
        |(
          subst hL
          subst hd
          subst hk
          clear HCASE
          have ht2:decide (t<0)=false:=by simpa using ht.1
          have ht3:decide ((n:Int)≤t)=false:=by simpa using ht.2
          clear ht
          go_wp2_with (go_at_call 12;refine (HAL.out _).mono ?_;rintro e w8 ⟨rfl,hb8⟩;(have HB8:=Lib.hid (HB7.out.st hb8));clear hb8)
          go_ret
          exact ⟨rfl,HB.out.st HB8.out⟩)
      ·have hl4:l.length≤4:=by
        rcases Nat.lt_or_ge 4 l.length with hl5|hl4
        ·have:=HF61.out (by omega)
         omega
        ·exact hl4
       have HRO:=Lib.hid (refOrder34_any n es ao lo cap lc s t l w7 HGZ.out hn12 hes40 (by omega) (tails_few _ hl4) hno3 (fun u v w h=>(HAA.out u v w h).2.2.1) hD (HCS.out.1.go HB7.out) (HFT.out.go HB7.out))
       rw [foldQ_grow (by omega) hD] at HRO
       have HRO:=Lib.hid (Calls.mono HRO.out (fun e w' h9=>h9.flat))
       rw [←hF] at HRO
       unfold Flat3 at HRO
       simp only at HRO
       have ht2:decide (t<0)=false:=by simpa using ht.1
       have ht3:decide ((n:Int)≤t)=false:=by simpa using ht.2
       clear ht hD hno3 hF hl4 HCASE
       go_upto_region 17 with (go_at_call 26;refine HRO.out.mono ?_;rintro e w8 ⟨a23,c23,rfl,k1,k2⟩;(have HC23:=Lib.hid k1);(have HB8:=Lib.hid k2);clear k1 k2)
       have HSL:=Lib.hid (sameInts_any a13 a23 c13 c23 (L.map Int.ofNat) (L.map Int.ofNat) w8 (by rw [List.length_map];have:=HL7.out;omega) (by rw [List.length_map];have:=HL7.out;omega) (by rw [encN_map];exact HC13.out.go HB8.out) (by rw [encN_map];exact HC23.out))
       rw [List.length_map,decide_eq_true rfl] at HSL
       clear HRO HC13 HC23
       go_wp2_with (first
        |(go_at_call 25;refine HSL.out.mono ?_;rintro e w9 ⟨rfl,nq,hw9⟩;(have HB9:=Lib.hid (HB7.out.st (HB8.out.st (show Below w8.heap.size w8 w9 from hw9▸Below.of_dr w8 nq))));clear hw9)
        |(go_at_call 12;refine (HAL.out _).mono ?_;rintro e w10 ⟨rfl,hb10⟩;(have HB10:=Lib.hid (HB9.out.st hb10));clear hb10))
       go_ret
       exact ⟨rfl,HB.out.st HB10.out⟩
  ·refine tOrders_bad 1 g.n g.es ao cap h1 s1 ro r rc s lo l lc t w V HV.out hl hr6 hf61 hf20 (by decide) HLW.out (fun W hz=>(HBA.out W hz).mono ?_)
   intro e w2 hp2
   obtain ⟨rfl,hb2⟩:=hp2.nil e1
   refine ⟨_,_,rfl,hb2,fun W' a c hz' hc'=>?_,fun W' a c hz' hc'=>?_,fun W' a c hz' hc'=>?_⟩
   ·exact trRight_nil (s::t::l) a c W' hc' (by simp;omega)
   ·exact trRight_nil (s::l) a c W' hc' (by simp;omega)
   ·exact why34_bad _ _ _ k1 W' e1
end Go.Proofs.YteaaapdjplbljaaGreat
