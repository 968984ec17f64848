/- Walk of package heap: rising and sinking. -/
import Derived.Test.YtkdomobedfhhgaaGreatProg
import Derived.Test.YtkdomobedfhhgaaGreatQm04
set_option linter.unusedVariables false
set_option linter.unusedSimpArgs false
set_option linter.unnecessarySimpa false
namespace Go.Proofs.YtkdomobedfhhgaaGreat
open Go Go.Proofs Go.RowKit Go.Shelf Go.Proofs.YtkdomobedfhhgaaGreat.Hp
def InR (l:List IK) (n:Nat):Prop:=∀j,j<l.length→0≤(gI l j).1∧(gI l j).1.toNat<n
theorem InR.set {l:List IK} {n:Nat} (h:InR l n) {i:Nat} (hi:i<l.length) {x:IK} (hx:0≤x.1∧x.1.toNat<n):InR (l.set i x) n:=by
 intro j hj
 rw [List.length_set] at hj
 rw [gI_set hi]
 split
 ·exact hx
 ·exact h j hj
theorem hLay_at (b:Nat) (v va:Value) (l:List IK) (p:List Int) (i:Nat) (x:IK) (w:World) (h:HeapW w b v va l p) (hi:i<l.length) (hx:0≤x.1∧x.1.toNat<p.length):
  Calls Tryz.prog 201 #[.pointer (some ⟨b,0,none⟩),.int .i64 i,itemV x] w fun e w'=>e=.returned (.tuple #[])∧HeapW w' b v va (l.set i x) (p.set x.1.toNat (i:Int))∧OffX (RX v va) w w':=by
 have:=hLay_any b v va l p i x.1.toNat x.2 w h hi hx.2
 rw [Int.toNat_of_nonneg hx.1] at this
 exact this
theorem rx_lt {w:World} {b:Nat} {v va:Value} {l:List IK} {p:List Int} (h:HeapW w b v va l p):∀k,RX v va k→k<w.heap.size:=by
 rintro k (hk|hk)
 ·exact (h.ol.lt k hk).2
 ·exact (h.oa.lt k hk).2
set_option maxRecDepth 100000 in
set_option maxHeartbeats 2000000 in
theorem hRise_any (b:Nat) (v va:Value) (l:List IK) (p:List Int) (i:Nat) (x:IK) (w:World) (h:HeapW w b v va l p) (hi:i<l.length) (hx:0≤x.1∧x.1.toNat<p.length) (hr:InR l p.length) (hl:l.length≤1000000):
  Calls Tryz.prog 178 #[.pointer (some ⟨b,0,none⟩),.int .i64 i,itemV x] w fun e w'=>e=.returned (.tuple #[])∧HeapW w' b v va (riseF l p i x).1 (riseF l p i x).2∧OffX (RX v va) w w':=by
 obtain ⟨W,hW⟩:∃W,W=w.alloc (Obj.cells #[.int .i64 x.1,.int .u64 x.2] 261):=⟨_,rfl⟩
 have H:=Lib.hid (show HeapW W b v va l p by rw [hW];exact h.go (Below.of_al _ _))
 have HB:=Lib.hid (show OffX (RX v va) w W by rw [hW];exact .of_below (Below.of_al _ _))
 have c0:W.cell? ⟨w.heap.size,0,none⟩=some (.int .i64 x.1):=by rw [hW];go_simp
 have c1:W.cell? ⟨w.heap.size,1,none⟩=some (.int .u64 x.2):=by rw [hW];go_simp
 have HC:=Lib.hid (⟨c0,c1⟩:_∧_)
 have HNX:=Lib.hid (show ∀k,RX v va k→k≠w.heap.size from fun k hk=>by have:=rx_lt h k hk;omega)
 obtain ⟨r,hr0⟩:∃r,r=riseF l p i x:=⟨_,rfl⟩
 rw [←hr0]
 have HR0:=Lib.hid hr0
 have HR:=Lib.hid hr
 have HX:=Lib.hid hx
 have HL:=Lib.hid hl
 have HP:=Lib.hid (fun (l':List IK) (p':List Int) (i':Nat) (x':IK) W' h hi hx=>hLay_at b v va l' p' i' x' W' h hi hx)
 have HLS:=Lib.hid (fun a c W=>hLess_any a c W)
 clear h hr hx hr0 c0 c1 hl
 go_enter Tryz.func178,Tryz.ntmps178
 repeat go_step
 refine wp_scope_straight ?_
 go_wp2
 rw [←hW]
 clear hW
 go_step3
 go_wp2
 go_loopg [1] i (fun gg v1 wr=>∃(j:Nat) (l':List IK) (p':List Int),j≤gg∧v1=.int .i64 j∧j<l'.length∧l'.length=l.length∧p'.length=p.length∧Aside (r=riseF l' p' j x)∧Aside (HeapW wr b v va l' p')∧Aside (InR l' p.length)∧Aside (OffX (RX v va) w wr)∧Aside (wr.cell? ⟨w.heap.size,0,none⟩=some (.int .i64 x.1)∧wr.cell? ⟨w.heap.size,1,none⟩=some (.int .u64 x.2)))
 case atStart=>exact ⟨i,l,p,Nat.le_refl _,rfl,hi,rfl,rfl,HR0.out,H.out,HR.out,HB.out,HC.out⟩
 case round=>
  obtain ⟨j,l',p',hg,rfl,hj,hll,hpl,HRR,HH,HI,HO,HCC⟩:=hrel
  clear H HR HB HC HR0
  have HXX:=Lib.hid (show 0≤x.1∧x.1.toNat<p'.length by rw [hpl];exact HX.out)
  obtain ⟨g,cg,rfl⟩:=own_form HH.out.ol (by omega)
  obtain ⟨p0,-⟩:=HH.out.pb 0 _ rfl
  obtain ⟨c0,c1⟩:=HCC.out
  have hjm:l'.length≤1000000:=by rw [hll];exact HL.out
  by_cases h0:0<j
  ·have h00:(0:Int)<(j:Int):=by omega
   obtain ⟨u,hu⟩:∃u,u=(j-1) / 2:=⟨_,rfl⟩
   have hul:u<l'.length:=by omega
   have hul2:(u:Int)<(l'.length:Int):=by omega
   have hu0:(0:Int)≤(u:Int):=by omega
   have A1:IntKind.i64.wrap ((j:Int)-1)=(j:Int)-1:=IntWalk.i64_in _ (by omega)
   have A2:((j:Int)-1).tdiv 2=(u:Int):=by rw [Int.tdiv_eq_ediv_of_nonneg (by omega)];omega
   have A3:IntKind.i64.wrap (u:Int)=(u:Int):=IntWalk.i64_in _ (by omega)
   have HU:=Lib.hid hu
   obtain ⟨r0,r1⟩:=flatI_get l' u hul
   have q0:=(HH.out.ol.cellAt (u*2) (by omega)).trans r0
   have q1:=(HH.out.ol.cellAt (u*2+1) (by omega)).trans r1
   clear r0 r1 hu
   have e0:=fun p=>cell_ext p p0
   have e1:=fun p=>cell_ext p c0
   have e2:=fun p=>cell_ext p c1
   have e3:=fun p=>cell_ext p q0
   have e4:=fun p=>cell_ext p q1
   cases hls:lessI x (gI l' u) with
   |true=>
    have HLS2:=Lib.hid (fun W=>hls▸hLess_any x (gI l' u) W)
    have HST:=Lib.hid (HRR.out.trans (riseF_go h0 (by rw [←HU.out];exact hls)))
    rw [←HU.out] at HST
    have HY:=Lib.hid (show 0≤(gI l' u).1∧(gI l' u).1.toNat<p'.length by rw [hpl];exact HI.out u hul)
    have HI2:=Lib.hid (HI.out.set (i:=j) hj (by have:=HY.out;rwa [hpl] at this))
    clear hls
    go_wp2
    refine wp_region_ext (by kernel_rfl) (by kernel_rfl) ?_
    repeat (go_big_quiet_step ((go_at_call 200;exact Calls.ext_of (HLS2.out _))))
    refine wpQuiet_nil ?_
    rintro _ ⟨p4,rfl⟩
    have HB4:=Lib.hid (below_ext wr p4)
    generalize ext wr p4=w4 at HB4 ⊢
    have HH4:=Lib.hid (HH.out.go HB4.out)
    have HO4:=Lib.hid (HO.out.trans (.of_below HB4.out))
    have HC4:=Lib.hid (⟨cell_later HB4.out c0,cell_later HB4.out c1⟩:_∧_)
    have p04:=cell_later HB4.out p0
    have q04:=cell_later HB4.out q0
    have q14:=cell_later HB4.out q1
    clear e0 e1 e2 e3 e4 q0 q1 c0 c1 p0
    go_wp2_with (go_at_call 201;refine (HP.out l' p' j (gI l' u) _ HH4.out hj HY.out).mono ?_;rintro e w9 ⟨rfl,hh9,ho9⟩)
    have HH9:=Lib.hid hh9
    have HO9:=Lib.hid (HO4.out.trans ho9)
    have HC9:=Lib.hid (⟨ho9.cell HC4.out.1 (fun e=>HNX.out _ e rfl),ho9.cell HC4.out.2 (fun e=>HNX.out _ e rfl)⟩:w9.cell? ⟨w.heap.size,0,none⟩=some (.int .i64 x.1)∧w9.cell? ⟨w.heap.size,1,none⟩=some (.int .u64 x.2))
    clear hh9 ho9 p04 q04 q14
    go_roundg u
    case measure=>have:=HU.out;omega
    case rel=>exact ⟨u,l'.set j (gI l' u),p'.set (gI l' u).1.toNat (j:Int),Nat.le_refl _,rfl,by rw [List.length_set];omega,by rw [List.length_set];exact hll,by rw [List.length_set];exact hpl,HST.out,HH9.out,HI2.out,HO9.out,HC9.out⟩
   |false=>
    have HLS2:=Lib.hid (fun W=>hls▸hLess_any x (gI l' u) W)
    have HWY:=Lib.hid (show j=0∨lessI x (gI l' ((j-1) / 2))=false from .inr (by rw [←HU.out];exact hls))
    clear hls
    go_wp2
    refine wp_region_ext (by kernel_rfl) (by kernel_rfl) ?_
    repeat (go_big_quiet_step ((go_at_call 200;exact Calls.ext_of (HLS2.out _))))
    refine wpQuiet_nil ?_
    rintro _ ⟨p4,rfl⟩
    have HB4:=Lib.hid (below_ext wr p4)
    generalize ext wr p4=w4 at HB4 ⊢
    have HH4:=Lib.hid (HH.out.go HB4.out)
    have HO4:=Lib.hid (HO.out.trans (.of_below HB4.out))
    have c04:=cell_later HB4.out c0
    have c14:=cell_later HB4.out c1
    clear e0 e1 e2 e3 e4 q0 q1 c0 c1 p0
    go_wp2_with (go_at_call 201;refine (HP.out l' p' j x _ (HH4).out hj HXX.out).mono ?_;rintro e w9 ⟨rfl,hh9,ho9⟩)
    try simp only [Exit.noGoto]
    refine bodyPost_end (results_none rfl _ _ _) rfl ?_
    refine ⟨rfl,?_,(HO4).out.trans ho9⟩
    rw [HRR.out,riseF_end (HWY.out)]
    exact hh9
  ·have h00:¬(0:Int)<(j:Int):=by omega
   have HWY:=Lib.hid (show j=0∨lessI x (gI l' ((j-1) / 2))=false from .inl (by omega))
   go_wp2_with (go_at_call 201;refine (HP.out l' p' j x _ (HH).out hj HXX.out).mono ?_;rintro e w9 ⟨rfl,hh9,ho9⟩)
   try simp only [Exit.noGoto]
   refine bodyPost_end (results_none rfl _ _ _) rfl ?_
   refine ⟨rfl,?_,(HO).out.trans ho9⟩
   rw [HRR.out,riseF_end (HWY.out)]
   exact hh9
set_option maxRecDepth 100000 in
set_option maxHeartbeats 2000000 in
theorem hSink_any (b:Nat) (v va:Value) (l:List IK) (p:List Int) (i:Nat) (x:IK) (w:World) (h:HeapW w b v va l p) (hi:i<l.length) (hx:0≤x.1∧x.1.toNat<p.length) (hr:InR l p.length) (hl:l.length≤1000000):
  Calls Tryz.prog 186 #[.pointer (some ⟨b,0,none⟩),.int .i64 i,itemV x] w fun e w'=>e=.returned (.tuple #[])∧HeapW w' b v va (sinkF l p i x).1 (sinkF l p i x).2∧OffX (RX v va) w w':=by
 obtain ⟨W,hW⟩:∃W,W=w.alloc (Obj.cells #[.int .i64 x.1,.int .u64 x.2] 261):=⟨_,rfl⟩
 have H:=Lib.hid (show HeapW W b v va l p by rw [hW];exact h.go (Below.of_al _ _))
 have HB:=Lib.hid (show OffX (RX v va) w W by rw [hW];exact .of_below (Below.of_al _ _))
 have c0:W.cell? ⟨w.heap.size,0,none⟩=some (.int .i64 x.1):=by rw [hW];go_simp
 have c1:W.cell? ⟨w.heap.size,1,none⟩=some (.int .u64 x.2):=by rw [hW];go_simp
 have HC:=Lib.hid (⟨c0,c1⟩:_∧_)
 have HNX:=Lib.hid (show ∀k,RX v va k→k≠w.heap.size from fun k hk=>by have:=rx_lt h k hk;omega)
 obtain ⟨r,hr0⟩:∃r,r=sinkF l p i x:=⟨_,rfl⟩
 rw [←hr0]
 have HR0:=Lib.hid hr0
 have HR:=Lib.hid hr
 have HX:=Lib.hid hx
 have HL:=Lib.hid hl
 have HP:=Lib.hid (fun (l':List IK) (p':List Int) (i':Nat) (x':IK) W' h hi hx=>hLay_at b v va l' p' i' x' W' h hi hx)
 have HLS:=Lib.hid (fun a c W=>hLess_any a c W)
 clear h hr hx hr0 c0 c1 hl
 go_enter Tryz.func186,Tryz.ntmps186
 repeat go_step
 refine wp_scope_straight ?_
 go_wp2
 rw [←hW]
 clear hW
 go_step3
 go_wp2
 go_loopg [1] (l.length-i) (fun gg v1 wr=>∃(j:Nat) (l':List IK) (p':List Int),l.length-j≤gg∧v1=.int .i64 j∧j<l'.length∧l'.length=l.length∧p'.length=p.length∧Aside (r=sinkF l' p' j x)∧Aside (HeapW wr b v va l' p')∧Aside (InR l' p.length)∧Aside (OffX (RX v va) w wr)∧Aside (wr.cell? ⟨w.heap.size,0,none⟩=some (.int .i64 x.1)∧wr.cell? ⟨w.heap.size,1,none⟩=some (.int .u64 x.2)))
 case atStart=>exact ⟨i,l,p,Nat.le_refl _,rfl,hi,rfl,rfl,HR0.out,H.out,HR.out,HB.out,HC.out⟩
 case round=>
  obtain ⟨j,l',p',hg,rfl,hj,hll,hpl,HRR,HH,HI,HO,HCC⟩:=hrel
  clear H HR HB HC HR0
  have HXX:=Lib.hid (show 0≤x.1∧x.1.toNat<p'.length by rw [hpl];exact HX.out)
  obtain ⟨g,cg,rfl⟩:=own_form HH.out.ol (by omega)
  obtain ⟨p0,-⟩:=HH.out.pb 0 _ rfl
  obtain ⟨c0,c1⟩:=HCC.out
  have hjm:l'.length≤1000000:=by rw [hll];exact HL.out
  have hlm:l.length≤1000000:=HL.out
  obtain ⟨k,hk⟩:∃k,k=2*j+1:=⟨_,rfl⟩
  obtain ⟨k',hk'⟩:∃k',k'=k+1:=⟨_,rfl⟩
  have A1:(2*(j:Int)+1).toNat=k:=by omega
  have A2:(2*(j:Int)+1+1).toNat=k':=by omega
  have A4:(0:Int)≤2*(j:Int)+1:=by omega
  have A5:(0:Int)≤2*(j:Int)+1+1:=by omega
  subst hk'
  subst hk
  clear A1 A2
  by_cases hA:2*j+1+1<l'.length
  ·have hA2:2*(j:Int)+1+1<(l.length:Int):=by omega
   have hA3:2*(j:Int)+1<(l.length:Int):=by omega
   have hA4:decide (2*(j:Int)+1+1<(l.length:Int))=true:=decide_eq_true hA2
   obtain ⟨r0,r1⟩:=flatI_get l' (2*j+1) (by omega)
   obtain ⟨r2,r3⟩:=flatI_get l' (2*j+1+1) hA
   have q0:=(HH.out.ol.cellAt ((2*j+1)*2) (by omega)).trans r0
   have q1:=(HH.out.ol.cellAt ((2*j+1)*2+1) (by omega)).trans r1
   have q2:=(HH.out.ol.cellAt ((2*j+1+1)*2) (by omega)).trans r2
   have q3:=(HH.out.ol.cellAt ((2*j+1+1)*2+1) (by omega)).trans r3
   clear r0 r1 r2 r3
   have e0:=fun p=>cell_ext p p0
   have e3:=fun p=>cell_ext p q0
   have e4:=fun p=>cell_ext p q1
   have e5:=fun p=>cell_ext p q2
   have e6:=fun p=>cell_ext p q3
   cases hls0:lessI (gI l' (2*j+1+1)) (gI l' (2*j+1)) with
   |true=>
    have HLS0:=Lib.hid (fun W=>hls0▸hLess_any (gI l' (2*j+1+1)) (gI l' (2*j+1)) W)
    have HM:=Lib.hid (show (2*j+1+1)=lowF l' j by unfold lowF;rw [if_pos ⟨hA,hls0⟩])
    clear hls0
    go_wp2
    refine wp_region_ext (by kernel_rfl) (by kernel_rfl) ?_
    repeat (go_big_quiet_step ((go_at_call 200;exact Calls.ext_of (HLS0.out _))))
    refine wpQuiet_nil ?_
    rintro _ ⟨p4,rfl⟩
    have HB4:=Lib.hid (below_ext wr p4)
    generalize ext wr p4=w4 at HB4 ⊢
    have HH4:=Lib.hid (HH.out.go HB4.out)
    have HO4:=Lib.hid (HO.out.trans (.of_below HB4.out))
    have HC4:=Lib.hid (⟨cell_later HB4.out c0,cell_later HB4.out c1⟩:w4.cell? ⟨w.heap.size,0,none⟩=some (.int .i64 x.1)∧w4.cell? ⟨w.heap.size,1,none⟩=some (.int .u64 x.2))
    clear e0 e3 e4 e5 e6 q0 q1 q2 q3 c0 c1 p0
    obtain ⟨p04,-⟩:=HH4.out.pb 0 _ rfl
    obtain ⟨c04,c14⟩:=HC4.out
    have e0:=fun p=>cell_ext p p04
    have e1:=fun p=>cell_ext p c04
    have e2:=fun p=>cell_ext p c14
    have hml:2*j+1+1<l'.length:=hA
    have hml2:(2*(j:Int)+1+1)<(l.length:Int):=by omega
    have hml3:decide ((2*(j:Int)+1+1)≥(l.length:Int))=false:=decide_eq_false (by omega)
    obtain ⟨r0,r1⟩:=flatI_get l' (2*j+1+1) hml
    have q0:=(HH4.out.ol.cellAt ((2*j+1+1)*2) (by omega)).trans r0
    have q1:=(HH4.out.ol.cellAt ((2*j+1+1)*2+1) (by omega)).trans r1
    clear r0 r1
    have e3:=fun p=>cell_ext p q0
    have e4:=fun p=>cell_ext p q1
    cases hls:lessI (gI l' (2*j+1+1)) x with
    |true=>
     have HLS2:=Lib.hid (fun W=>hls▸hLess_any (gI l' (2*j+1+1)) x W)
     have HST:=Lib.hid (HRR.out.trans (sinkF_go (by rw [←HM.out];exact hml) (by rw [←HM.out];exact hls)))
     rw [←HM.out] at HST
     have HY:=Lib.hid (show 0≤(gI l' (2*j+1+1)).1∧(gI l' (2*j+1+1)).1.toNat<p'.length by rw [hpl];exact HI.out (2*j+1+1) hml)
     have HI2:=Lib.hid (HI.out.set (i:=j) hj (by have:=HY.out;rwa [hpl] at this))
     clear hls
     go_wp2
     refine wp_region_ext (by kernel_rfl) (by kernel_rfl) ?_
     repeat (go_big_quiet_step ((go_at_call 200;exact Calls.ext_of (HLS2.out _))))
     refine wpQuiet_nil ?_
     rintro _ ⟨p5,rfl⟩
     have HB5:=Lib.hid (below_ext w4 p5)
     generalize ext w4 p5=w5 at HB5 ⊢
     have HH5:=Lib.hid (HH4.out.go HB5.out)
     have HO5:=Lib.hid (HO4.out.trans (.of_below HB5.out))
     have HC5:=Lib.hid (⟨cell_later HB5.out c04,cell_later HB5.out c14⟩:_∧_)
     have p05:=cell_later HB5.out p04
     have q05:=cell_later HB5.out q0
     have q15:=cell_later HB5.out q1
     clear e0 e1 e2 e3 e4 q0 q1 c04 c14 p04
     go_wp2_with (go_at_call 201;refine (HP.out l' p' j (gI l' (2*j+1+1)) _ HH5.out hj HY.out).mono ?_;rintro e w9 ⟨rfl,hh9,ho9⟩)
     have HH9:=Lib.hid hh9
     have HO9:=Lib.hid (HO5.out.trans ho9)
     have HC9:=Lib.hid (⟨ho9.cell HC5.out.1 (fun e=>HNX.out _ e rfl),ho9.cell HC5.out.2 (fun e=>HNX.out _ e rfl)⟩:w9.cell? ⟨w.heap.size,0,none⟩=some (.int .i64 x.1)∧w9.cell? ⟨w.heap.size,1,none⟩=some (.int .u64 x.2))
     clear hh9 ho9 p05 q05 q15
     go_roundg (l.length-(2*j+1+1))
     case measure=>omega
     case rel=>exact ⟨(2*j+1+1),l'.set j (gI l' (2*j+1+1)),p'.set (gI l' (2*j+1+1)).1.toNat (j:Int),by omega,by go_num,by rw [List.length_set];omega,by rw [List.length_set];exact hll,by rw [List.length_set];exact hpl,HST.out,HH9.out,HI2.out,HO9.out,HC9.out⟩
    |false=>
     have HLS2:=Lib.hid (fun W=>hls▸hLess_any (gI l' (2*j+1+1)) x W)
     have HWY:=Lib.hid (show l'.length≤lowF l' j∨lessI (gI l' (lowF l' j)) x=false from .inr (by rw [←HM.out];exact hls))
     clear hls
     go_wp2
     refine wp_region_ext (by kernel_rfl) (by kernel_rfl) ?_
     repeat (go_big_quiet_step ((go_at_call 200;exact Calls.ext_of (HLS2.out _))))
     refine wpQuiet_nil ?_
     rintro _ ⟨p5,rfl⟩
     have HB5:=Lib.hid (below_ext w4 p5)
     generalize ext w4 p5=w5 at HB5 ⊢
     have HH5:=Lib.hid (HH4.out.go HB5.out)
     have HO5:=Lib.hid (HO4.out.trans (.of_below HB5.out))
     have c05:=cell_later HB5.out c04
     have c15:=cell_later HB5.out c14
     clear e0 e1 e2 e3 e4 q0 q1 c04 c14 p04
     go_wp2_with (go_at_call 201;refine (HP.out l' p' j x _ (HH5).out hj HXX.out).mono ?_;rintro e w9 ⟨rfl,hh9,ho9⟩)
     try simp only [Exit.noGoto]
     refine bodyPost_end (results_none rfl _ _ _) rfl ?_
     refine ⟨rfl,?_,(HO5).out.trans ho9⟩
     rw [HRR.out,sinkF_end (HWY.out)]
     exact hh9
   |false=>
    have HLS0:=Lib.hid (fun W=>hls0▸hLess_any (gI l' (2*j+1+1)) (gI l' (2*j+1)) W)
    have HM:=Lib.hid (show (2*j+1)=lowF l' j by unfold lowF;rw [if_neg (by rintro ⟨_,h⟩;rw [hls0] at h;cases h)])
    clear hls0
    go_wp2
    refine wp_region_ext (by kernel_rfl) (by kernel_rfl) ?_
    repeat (go_big_quiet_step ((go_at_call 200;exact Calls.ext_of (HLS0.out _))))
    refine wpQuiet_nil ?_
    rintro _ ⟨p4,rfl⟩
    have HB4:=Lib.hid (below_ext wr p4)
    generalize ext wr p4=w4 at HB4 ⊢
    have HH4:=Lib.hid (HH.out.go HB4.out)
    have HO4:=Lib.hid (HO.out.trans (.of_below HB4.out))
    have HC4:=Lib.hid (⟨cell_later HB4.out c0,cell_later HB4.out c1⟩:w4.cell? ⟨w.heap.size,0,none⟩=some (.int .i64 x.1)∧w4.cell? ⟨w.heap.size,1,none⟩=some (.int .u64 x.2))
    clear e0 e3 e4 e5 e6 q0 q1 q2 q3 c0 c1 p0
    obtain ⟨p04,-⟩:=HH4.out.pb 0 _ rfl
    obtain ⟨c04,c14⟩:=HC4.out
    have e0:=fun p=>cell_ext p p04
    have e1:=fun p=>cell_ext p c04
    have e2:=fun p=>cell_ext p c14
    have hml:2*j+1<l'.length:=by omega
    have hml2:(2*(j:Int)+1)<(l.length:Int):=by omega
    have hml3:decide ((2*(j:Int)+1)≥(l.length:Int))=false:=decide_eq_false (by omega)
    obtain ⟨r0,r1⟩:=flatI_get l' (2*j+1) hml
    have q0:=(HH4.out.ol.cellAt ((2*j+1)*2) (by omega)).trans r0
    have q1:=(HH4.out.ol.cellAt ((2*j+1)*2+1) (by omega)).trans r1
    clear r0 r1
    have e3:=fun p=>cell_ext p q0
    have e4:=fun p=>cell_ext p q1
    cases hls:lessI (gI l' (2*j+1)) x with
    |true=>
     have HLS2:=Lib.hid (fun W=>hls▸hLess_any (gI l' (2*j+1)) x W)
     have HST:=Lib.hid (HRR.out.trans (sinkF_go (by rw [←HM.out];exact hml) (by rw [←HM.out];exact hls)))
     rw [←HM.out] at HST
     have HY:=Lib.hid (show 0≤(gI l' (2*j+1)).1∧(gI l' (2*j+1)).1.toNat<p'.length by rw [hpl];exact HI.out (2*j+1) hml)
     have HI2:=Lib.hid (HI.out.set (i:=j) hj (by have:=HY.out;rwa [hpl] at this))
     clear hls
     go_wp2
     refine wp_region_ext (by kernel_rfl) (by kernel_rfl) ?_
     repeat (go_big_quiet_step ((go_at_call 200;exact Calls.ext_of (HLS2.out _))))
     refine wpQuiet_nil ?_
     rintro _ ⟨p5,rfl⟩
     have HB5:=Lib.hid (below_ext w4 p5)
     generalize ext w4 p5=w5 at HB5 ⊢
     have HH5:=Lib.hid (HH4.out.go HB5.out)
     have HO5:=Lib.hid (HO4.out.trans (.of_below HB5.out))
     have HC5:=Lib.hid (⟨cell_later HB5.out c04,cell_later HB5.out c14⟩:_∧_)
     have p05:=cell_later HB5.out p04
     have q05:=cell_later HB5.out q0
     have q15:=cell_later HB5.out q1
     clear e0 e1 e2 e3 e4 q0 q1 c04 c14 p04
     go_wp2_with (go_at_call 201;refine (HP.out l' p' j (gI l' (2*j+1)) _ HH5.out hj HY.out).mono ?_;rintro e w9 ⟨rfl,hh9,ho9⟩)
     have HH9:=Lib.hid hh9
     have HO9:=Lib.hid (HO5.out.trans ho9)
     have HC9:=Lib.hid (⟨ho9.cell HC5.out.1 (fun e=>HNX.out _ e rfl),ho9.cell HC5.out.2 (fun e=>HNX.out _ e rfl)⟩:w9.cell? ⟨w.heap.size,0,none⟩=some (.int .i64 x.1)∧w9.cell? ⟨w.heap.size,1,none⟩=some (.int .u64 x.2))
     clear hh9 ho9 p05 q05 q15
     go_roundg (l.length-(2*j+1))
     case measure=>omega
     case rel=>exact ⟨(2*j+1),l'.set j (gI l' (2*j+1)),p'.set (gI l' (2*j+1)).1.toNat (j:Int),by omega,by go_num,by rw [List.length_set];omega,by rw [List.length_set];exact hll,by rw [List.length_set];exact hpl,HST.out,HH9.out,HI2.out,HO9.out,HC9.out⟩
    |false=>
     have HLS2:=Lib.hid (fun W=>hls▸hLess_any (gI l' (2*j+1)) x W)
     have HWY:=Lib.hid (show l'.length≤lowF l' j∨lessI (gI l' (lowF l' j)) x=false from .inr (by rw [←HM.out];exact hls))
     clear hls
     go_wp2
     refine wp_region_ext (by kernel_rfl) (by kernel_rfl) ?_
     repeat (go_big_quiet_step ((go_at_call 200;exact Calls.ext_of (HLS2.out _))))
     refine wpQuiet_nil ?_
     rintro _ ⟨p5,rfl⟩
     have HB5:=Lib.hid (below_ext w4 p5)
     generalize ext w4 p5=w5 at HB5 ⊢
     have HH5:=Lib.hid (HH4.out.go HB5.out)
     have HO5:=Lib.hid (HO4.out.trans (.of_below HB5.out))
     have c05:=cell_later HB5.out c04
     have c15:=cell_later HB5.out c14
     clear e0 e1 e2 e3 e4 q0 q1 c04 c14 p04
     go_wp2_with (go_at_call 201;refine (HP.out l' p' j x _ (HH5).out hj HXX.out).mono ?_;rintro e w9 ⟨rfl,hh9,ho9⟩)
     try simp only [Exit.noGoto]
     refine bodyPost_end (results_none rfl _ _ _) rfl ?_
     refine ⟨rfl,?_,(HO5).out.trans ho9⟩
     rw [HRR.out,sinkF_end (HWY.out)]
     exact hh9
  ·have hA2:¬2*(j:Int)+1+1<(l.length:Int):=by omega
   have hA4:decide (2*(j:Int)+1+1<(l.length:Int))=false:=decide_eq_false hA2
   have e0:=fun p=>cell_ext p p0
   have HM:=Lib.hid (show (2*j+1)=lowF l' j by unfold lowF;rw [if_neg (by rintro ⟨h,_⟩;exact hA h)])
   go_wp2
   refine wp_region_ext (by kernel_rfl) (by kernel_rfl) ?_
   repeat (go_big_quiet_step (fail))
   refine wpQuiet_nil ?_
   rintro _ ⟨p4,rfl⟩
   have HB4:=Lib.hid (below_ext wr p4)
   generalize ext wr p4=w4 at HB4 ⊢
   have HH4:=Lib.hid (HH.out.go HB4.out)
   have HO4:=Lib.hid (HO.out.trans (.of_below HB4.out))
   have HC4:=Lib.hid (⟨cell_later HB4.out c0,cell_later HB4.out c1⟩:w4.cell? ⟨w.heap.size,0,none⟩=some (.int .i64 x.1)∧w4.cell? ⟨w.heap.size,1,none⟩=some (.int .u64 x.2))
   clear e0 c0 c1 p0
   obtain ⟨p04,-⟩:=HH4.out.pb 0 _ rfl
   obtain ⟨c04,c14⟩:=HC4.out
   have e0:=fun p=>cell_ext p p04
   have e1:=fun p=>cell_ext p c04
   have e2:=fun p=>cell_ext p c14
   by_cases hml:2*j+1<l'.length
   ·skip
    have hml2:(2*(j:Int)+1)<(l.length:Int):=by omega
    have hml3:decide ((2*(j:Int)+1)≥(l.length:Int))=false:=decide_eq_false (by omega)
    obtain ⟨r0,r1⟩:=flatI_get l' (2*j+1) hml
    have q0:=(HH4.out.ol.cellAt ((2*j+1)*2) (by omega)).trans r0
    have q1:=(HH4.out.ol.cellAt ((2*j+1)*2+1) (by omega)).trans r1
    clear r0 r1
    have e3:=fun p=>cell_ext p q0
    have e4:=fun p=>cell_ext p q1
    cases hls:lessI (gI l' (2*j+1)) x with
    |true=>
     have HLS2:=Lib.hid (fun W=>hls▸hLess_any (gI l' (2*j+1)) x W)
     have HST:=Lib.hid (HRR.out.trans (sinkF_go (by rw [←HM.out];exact hml) (by rw [←HM.out];exact hls)))
     rw [←HM.out] at HST
     have HY:=Lib.hid (show 0≤(gI l' (2*j+1)).1∧(gI l' (2*j+1)).1.toNat<p'.length by rw [hpl];exact HI.out (2*j+1) hml)
     have HI2:=Lib.hid (HI.out.set (i:=j) hj (by have:=HY.out;rwa [hpl] at this))
     clear hls
     go_wp2
     refine wp_region_ext (by kernel_rfl) (by kernel_rfl) ?_
     repeat (go_big_quiet_step ((go_at_call 200;exact Calls.ext_of (HLS2.out _))))
     refine wpQuiet_nil ?_
     rintro _ ⟨p5,rfl⟩
     have HB5:=Lib.hid (below_ext w4 p5)
     generalize ext w4 p5=w5 at HB5 ⊢
     have HH5:=Lib.hid (HH4.out.go HB5.out)
     have HO5:=Lib.hid (HO4.out.trans (.of_below HB5.out))
     have HC5:=Lib.hid (⟨cell_later HB5.out c04,cell_later HB5.out c14⟩:_∧_)
     have p05:=cell_later HB5.out p04
     have q05:=cell_later HB5.out q0
     have q15:=cell_later HB5.out q1
     clear e0 e1 e2 e3 e4 q0 q1 c04 c14 p04
     go_wp2_with (go_at_call 201;refine (HP.out l' p' j (gI l' (2*j+1)) _ HH5.out hj HY.out).mono ?_;rintro e w9 ⟨rfl,hh9,ho9⟩)
     have HH9:=Lib.hid hh9
     have HO9:=Lib.hid (HO5.out.trans ho9)
     have HC9:=Lib.hid (⟨ho9.cell HC5.out.1 (fun e=>HNX.out _ e rfl),ho9.cell HC5.out.2 (fun e=>HNX.out _ e rfl)⟩:w9.cell? ⟨w.heap.size,0,none⟩=some (.int .i64 x.1)∧w9.cell? ⟨w.heap.size,1,none⟩=some (.int .u64 x.2))
     clear hh9 ho9 p05 q05 q15
     go_roundg (l.length-(2*j+1))
     case measure=>omega
     case rel=>exact ⟨(2*j+1),l'.set j (gI l' (2*j+1)),p'.set (gI l' (2*j+1)).1.toNat (j:Int),by omega,by go_num,by rw [List.length_set];omega,by rw [List.length_set];exact hll,by rw [List.length_set];exact hpl,HST.out,HH9.out,HI2.out,HO9.out,HC9.out⟩
    |false=>
     have HLS2:=Lib.hid (fun W=>hls▸hLess_any (gI l' (2*j+1)) x W)
     have HWY:=Lib.hid (show l'.length≤lowF l' j∨lessI (gI l' (lowF l' j)) x=false from .inr (by rw [←HM.out];exact hls))
     clear hls
     go_wp2
     refine wp_region_ext (by kernel_rfl) (by kernel_rfl) ?_
     repeat (go_big_quiet_step ((go_at_call 200;exact Calls.ext_of (HLS2.out _))))
     refine wpQuiet_nil ?_
     rintro _ ⟨p5,rfl⟩
     have HB5:=Lib.hid (below_ext w4 p5)
     generalize ext w4 p5=w5 at HB5 ⊢
     have HH5:=Lib.hid (HH4.out.go HB5.out)
     have HO5:=Lib.hid (HO4.out.trans (.of_below HB5.out))
     have c05:=cell_later HB5.out c04
     have c15:=cell_later HB5.out c14
     clear e0 e1 e2 e3 e4 q0 q1 c04 c14 p04
     go_wp2_with (go_at_call 201;refine (HP.out l' p' j x _ (HH5).out hj HXX.out).mono ?_;rintro e w9 ⟨rfl,hh9,ho9⟩)
     try simp only [Exit.noGoto]
     refine bodyPost_end (results_none rfl _ _ _) rfl ?_
     refine ⟨rfl,?_,(HO5).out.trans ho9⟩
     rw [HRR.out,sinkF_end (HWY.out)]
     exact hh9
   ·skip
    have hml2:(l.length:Int)≤(2*(j:Int)+1):=by omega
    have HWY:=Lib.hid (show l'.length≤lowF l' j∨lessI (gI l' (lowF l' j)) x=false from .inl (by rw [←HM.out];omega))
    go_wp2
    refine wp_region_ext (by kernel_rfl) (by kernel_rfl) ?_
    repeat (go_big_quiet_step (fail))
    refine wpQuiet_nil ?_
    rintro _ ⟨p5,rfl⟩
    have HB5:=Lib.hid (below_ext w4 p5)
    generalize ext w4 p5=w5 at HB5 ⊢
    have HH5:=Lib.hid (HH4.out.go HB5.out)
    have HO5:=Lib.hid (HO4.out.trans (.of_below HB5.out))
    have c05:=cell_later HB5.out c04
    have c15:=cell_later HB5.out c14
    clear e0 e1 e2 c04 c14 p04
    go_wp2_with (go_at_call 201;refine (HP.out l' p' j x _ (HH5).out hj HXX.out).mono ?_;rintro e w9 ⟨rfl,hh9,ho9⟩)
    try simp only [Exit.noGoto]
    refine bodyPost_end (results_none rfl _ _ _) rfl ?_
    refine ⟨rfl,?_,(HO5).out.trans ho9⟩
    rw [HRR.out,sinkF_end (HWY.out)]
    exact hh9
end Go.Proofs.YtkdomobedfhhgaaGreat
