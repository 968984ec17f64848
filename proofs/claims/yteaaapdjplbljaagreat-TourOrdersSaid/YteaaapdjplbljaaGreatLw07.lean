/- Walk of package heap: a new one, what comes first, putting, taking out. -/
import Derived.Test.YteaaapdjplbljaaGreatProg
import Derived.Test.YteaaapdjplbljaaGreatLw06
import Derived.Laws.EntriesVeiled
set_option linter.unusedVariables false
set_option linter.unusedSimpArgs false
set_option linter.unnecessarySimpa false
namespace Go.Proofs.YteaaapdjplbljaaGreat
open Go Go.Proofs Go.RowKit Go.Shelf Go.Proofs.YteaaapdjplbljaaGreat.Hp
theorem hp_elemi:Elem Tryz.prog 3 (.int .i64 0) 1 8:=⟨by kernel_rfl,rfl,by decide⟩
theorem hp_elemt:Elem Tryz.prog 315 (.agg #[.int .i64 0,.int .u64 0]) 2 16:=⟨by kernel_rfl,rfl,by decide⟩
set_option maxRecDepth 100000 in
set_option maxHeartbeats 1000000 in
theorem hWhere_any (b:Nat) (v va:Value) (l:List IK) (p:List Int) (u:Nat) (w:World) (h:HeapW w b v va l p) (hu:u<p.length):
  Calls Tryz.prog 264 #[.pointer (some ⟨b,0,none⟩),.int .i64 u] w fun e w'=>e=.returned (.int .i64 (gP p u))∧w'=w:=by
 obtain ⟨a,ca,rfl⟩:=own_form h.oa (by omega)
 obtain ⟨p1,-⟩:=h.pb 1 _ rfl
 have s0:=(h.oa.cellAt u (by omega)).trans (show (p.map encI)[u]? =some (encI (gP p u)) by unfold gP;simp [hu])
 have hu1:(u:Int)<(p.length:Int):=by omega
 have hu0:(0:Int)≤(u:Int):=by omega
 generalize gP p u=r at*
 clear h
 go_enter Tryz.func264,Tryz.ntmps264
 go_wp2
 go_ret
 exact ⟨rfl,rfl⟩
set_option maxRecDepth 100000 in
set_option maxHeartbeats 1000000 in
theorem hLen_any (b:Nat) (v va:Value) (l:List IK) (p:List Int) (w:World) (h:HeapW w b v va l p):
  Calls Tryz.prog 229 #[.pointer (some ⟨b,0,none⟩)] w fun e w'=>e=.returned (.int .i64 l.length)∧w'=w:=by
 obtain ⟨p0,-⟩:=h.pb 0 _ rfl
 obtain ⟨ao,c,rfl,-⟩:=Cel.of_owns h.ol
 clear h
 go_enter Tryz.func229,Tryz.ntmps229
 go_wp2
 go_ret
 exact ⟨rfl,rfl⟩
def topF (l:List IK):Value:=match l with
 |[]=>.tuple #[.int .i64 0,.int .u64 0,.bool false]
 |x::_=>.tuple #[.int .i64 x.1,.int .u64 x.2,.bool true]
set_option maxRecDepth 100000 in
set_option maxHeartbeats 1000000 in
theorem hTop_any (b:Nat) (v va:Value) (l:List IK) (p:List Int) (w:World) (h:HeapW w b v va l p):
  Calls Tryz.prog 166 #[.pointer (some ⟨b,0,none⟩)] w fun e w'=>e=.returned (topF l)∧Below w.heap.size w w':=by
 have HL:=Lib.hid (hLen_any b v va l p w h)
 cases l with
 |nil=>
  clear h
  go_enter Tryz.func166,Tryz.ntmps166
  go_wp2_with (go_at_call 229;refine HL.out.mono ?_;rintro e w1 ⟨rfl,rfl⟩)
  refine bodyPost_ret (v:=topF []) (by simp [results,Tryz.results166,go_sem];try rfl) rfl ?_
  exact ⟨rfl,Below.refl _ _⟩
 |cons x l=>
  obtain ⟨g,cg,rfl⟩:=own_form h.ol (by simp)
  obtain ⟨p0,-⟩:=h.pb 0 _ rfl
  have q0:=(h.ol.cellAt 0 (by simp)).trans (show (flatI (x::l))[0]? =some (.int .i64 x.1) from rfl)
  have q1:=(h.ol.cellAt 1 (by simp;omega)).trans (show (flatI (x::l))[1]? =some (.int .u64 x.2) from rfl)
  have hl0:((x::l).length:Int)=(l.length:Int)+1:=by simp
  have hl1:((l.length:Int)+1==0)=false:=by rw [beq_eq_false_iff_ne];omega
  have hl2:(0:Int)<((x::l).length:Int):=by rw [hl0];omega
  have hl3:(((x::l).length:Int)==0)=false:=by rw [hl0];exact hl1
  generalize ((x::l).length)=nn at*
  have e0:=fun p=>cell_ext p p0
  have e1:=fun p=>cell_ext p q0
  have e2:=fun p=>cell_ext p q1
  clear h
  go_enter Tryz.func166,Tryz.ntmps166
  go_wp2_with (go_at_call 229;refine HL.out.mono ?_;rintro e w1 ⟨rfl,rfl⟩)
  go_quiet (fail)
  go_wp2
  refine bodyPost_ret (v:=topF (x::l)) (by simp [results,Tryz.results166,go_sem];try rfl) rfl ?_
  exact ⟨rfl,Below.of_dr _ _⟩
theorem PB.new2 (w:World) (T:TypeId) (x0 x1:Value):PB (w.alloc (.cells #[x0,x1] T)) w.heap.size [x0,x1]:=by
 intro i x hx
 match i with
 |0=>cases hx;exact ⟨by go_simp,by go_simp⟩
 |1=>cases hx;exact ⟨by go_simp,by go_simp⟩
 |i+2=>simp at hx
def newQ (n i:Nat):List Int:=List.replicate i (-1)++List.replicate (n-i) 0
theorem newQ_len {n i:Nat} (h:i≤n):(newQ n i).length=n:=by simp [newQ];omega
theorem newQ_set {n i:Nat} (h:i<n):(newQ n i).set i (-1)=newQ n (i+1):=by
 unfold newQ
 rw [List.set_append_right _ _ (by simp),show n-i=(n-(i+1))+1 by omega,List.replicate_succ]
 simp only [List.length_replicate,Nat.sub_self,List.set_cons_zero]
 rw [List.replicate_succ' (n:=i),List.append_assoc]
 rfl
theorem newQ_end (n:Nat):newQ n n=List.replicate n (-1):=by simp [newQ]
theorem HeapW.mark {w:World} {b a n i:Nat} {v:Value} {l:List IK} (h:HeapW w b v (.slice (some ⟨a,0,none⟩) n n) l (newQ n i)) (hi:i<n):
  HeapW (w.setCell ⟨a,i,none⟩ (.int .i64 (-1))) b v (.slice (some ⟨a,0,none⟩) n n) l (newQ n (i+1)):=by
 have e:(newQ n i).length=n:=newQ_len (by omega)
 have h2:HeapW w b v (.slice (some ⟨a,0,none⟩) (newQ n i).length n) l (newQ n i):=by rw [e];exact h
 have h3:=h2.place i (-1)
 rw [newQ_set hi,newQ_len (by omega)] at h3
 exact h3
set_option maxRecDepth 100000 in
set_option maxHeartbeats 1000000 in
theorem hNew_any (n:Nat) (hn:n≤65536) (w:World):
  Calls Tryz.prog 162 #[.int .i64 n] w fun e w'=>∃b a,e=.returned (.pointer (some ⟨b,0,none⟩))∧HeapW w' b (.slice none 0 0) (.slice (some ⟨a,0,none⟩) n n) [] (List.replicate n (-1))∧w.heap.size≤b∧w.heap.size≤a∧Below w.heap.size w w':=by
 have h1:¬(n:Int)<0:=by omega
 have h2:¬(65536:Int)<(n:Int):=by omega
 have h3:(0:Int)≤(n:Int):=by omega
 go_enter Tryz.func162,Tryz.ntmps162
 go_wp2_with (at_make;go_must ((with_reducible refine wpList_mk 0 3 _ 1 8 hp_elemi Tryz.underlying25 n ?_ ?_ ?_ ?_ ?_ ?_ ?_ ?_);rotate_left 4;(· rfl);(· rfl);(· exact ⟨by simp,by simp,by omega,by omega,by simp⟩);intro w1 hown hbl hsz1;(have HO1:=Lib.hid hown;have HB1:=Lib.hid hbl;clear hown hbl)))
 obtain ⟨W,hW⟩:∃W,W=w1.alloc (Obj.cells #[.slice none 0 0,.slice (some ⟨w.heap.size,0,none⟩) n n] 313):=⟨_,rfl⟩
 have HH0:=Lib.hid (show HeapW W w1.heap.size (.slice none 0 0) (.slice (some ⟨w.heap.size,0,none⟩) n n) [] (newQ n 0) by
  rw [hW]
  have ho:=HO1.out
  refine ⟨PB.new2 _ _ _ _,World.ownsRow_nil _ _ _ _,?_,by simp [Value.ownBlock],by simp [Value.ownBlock];omega,fun k hk=>by simp [Value.ownBlock] at hk⟩
  rw [Nat.mul_one,show (Value.int IntKind.i64 0).cells=#[Value.int IntKind.i64 0] from rfl,toList_madeCells_one] at ho
  have h2:=hp_owns_go ho (Below.of_al w1 (Obj.cells #[.slice none 0 0,.slice (some ⟨w.heap.size,0,none⟩) n n] 313))
  have e:(newQ n 0).map encI=List.replicate n (Value.int IntKind.i64 0):=by simp [newQ]
  rw [newQ_len (Nat.zero_le _),e]
  exact h2)
 have HBW:=Lib.hid (show Below w.heap.size w W by rw [hW];exact HB1.out.al _)
 rw [←hW]
 clear hW HO1 HB1
 have HZ:=Lib.hid (Nat.le_of_lt hsz1)
 generalize w1.heap.size=b at*
 clear hsz1
 go_loopg [20] n (fun gg v20 wr=>∃i:Nat,i≤n∧n-i≤gg∧v20=.int .i64 i∧Aside (HeapW wr b (.slice none 0 0) (.slice (some ⟨w.heap.size,0,none⟩) n n) [] (newQ n i))∧Aside (Below w.heap.size w wr))
 case atStart=>exact ⟨0,Nat.zero_le _,by omega,rfl,HH0.out,HBW.out⟩
 case round=>
  clear HH0 HBW
  obtain ⟨i,hi,hg,rfl,HH,HB⟩:=hrel
  obtain ⟨p0,-⟩:=HH.out.pb 0 _ rfl
  obtain ⟨p1,-⟩:=HH.out.pb 1 _ rfl
  by_cases hlt:i<n
  ·have hlt2:(i:Int)<(n:Int):=by omega
   have hi0:(0:Int)≤(i:Int):=by omega
   have HM:=Lib.hid (HH.out.mark hlt)
   have ho:=HH.out.oa
   rw [newQ_len hi] at ho
   have s0:=(ho.cellAt i (by omega)).trans (show ((newQ n i).map encI)[i]? =some (encI ((newQ n i)[i]'(by rw [newQ_len hi];exact hlt))) by simp [newQ_len hi,hlt])
   have z0:=ho.frozenAt i
   generalize encI _=q at s0
   clear ho
   go_wp2
   go_roundg (n-(i+1))
   case measure=>omega
   case rel=>exact ⟨i+1,by omega,Nat.le_refl _,by go_num,HM.out,HB.out.setCell (p:=⟨w.heap.size,i,none⟩) (Nat.le_refl _) _⟩
  ·obtain rfl:i=n:=by omega
   go_wp2
   go_ret
   refine ⟨b,w.heap.size,rfl,?_,HZ.out,Nat.le_refl _,HB.out⟩
   have:=HH.out
   rw [newQ_end] at this
   exact this
theorem HeapW.cut {w:World} {b g cg n:Nat} {va:Value} {l:List IK} {p:List Int} (h:HeapW w b (.slice (some ⟨g,0,none⟩) l.length cg) va l p) (hn:l.length=n+1):
  HeapW (w.setCell ⟨b,0,none⟩ (.slice (some ⟨g,0,none⟩) n cg)) b (.slice (some ⟨g,0,none⟩) n cg) va (l.take n) p:=by
 have hl:(l.take n).length=n:=by simp;omega
 have ho:=h.ol
 rw [hn] at ho
 have hsplit:flatI l=flatI (l.take n)++flatI (l.drop n):=by rw [←flatI_append,List.take_append_drop]
 rw [hsplit] at ho
 have h2:=ownsRow_pop (by rw [flatI_len,hl]) ho
 refine ⟨?_,?_,?_,h.d1,h.d2,?_⟩
 ·exact h.pb.set 0 _
 ·rw [hl]
  exact ownsRow_setCell_other (a:=⟨b,0,none⟩) h2 (by have:=h.d1;simpa [Value.ownBlock] using this) _
 ·exact ownsRow_setCell_other (a:=⟨b,0,none⟩) h.oa h.d2 _
 ·intro k hk
  exact h.d3 k hk
theorem owns_capH {w:World} {base:Nat} {e:TypeId} {size n c:Nat} {ao:Option Addr} {xs:List Value} (h:w.ownsRow base e size (.slice ao n c) n xs):n≤c:=by
 rcases h.2 with ⟨e,_⟩|⟨g,cap,cur,e,_,_,hc,_⟩
 ·cases e;exact Nat.le_refl _
 ·cases e;exact hc
theorem hx_rx {b:Nat} {v va:Value}:∀k,RX v va k→HX b v va k:=fun _ h=>.inr h
set_option maxRecDepth 100000 in
set_option maxHeartbeats 2000000 in
theorem hDrop_any (b u i:Nat) (v va:Value) (l:List IK) (p:List Int) (w:World) (h:HeapW w b v va l p) (ok:HeapOK l p) (hu:u<p.length) (hi:i<l.length) (hp:gP p u=(i:Int)) (hgi:(gI l i).1=(u:Int)) (hl:l.length≤1000000):
  Calls Tryz.prog 228 #[.pointer (some ⟨b,0,none⟩),.int .i64 u] w fun e w'=>e=.returned (.bool true)∧∃v',HeapW w' b v' va (dropF l p u i).1 (dropF l p u i).2∧OffX (HX b v va) w w'∧v'.ownBlock=v.ownBlock:=by
 have HWH:=Lib.hid (hWhere_any b v va l p u w h hu)
 rw [hp] at HWH
 obtain ⟨g,cg,rfl⟩:=own_form h.ol (by omega)
 obtain ⟨a,ca,rfl⟩:=own_form h.oa (by omega)
 obtain ⟨n,hn⟩:∃n,l.length=n+1:=⟨l.length-1,by omega⟩
 have hn1:l.length-1=n:=by omega
 obtain ⟨xa,xb,xc⟩:=ok.c.pos n (by omega)
 obtain ⟨x,hx⟩:∃x,x=gI l n:=⟨_,rfl⟩
 obtain ⟨ux,hux⟩:∃ux:Nat,x.1=(ux:Int):=⟨x.1.toNat,by rw [hx];omega⟩
 have huxl:ux<p.length:=by rw [←hx] at xb;omega
 have H1:=Lib.hid (show HeapW (w.setCell ⟨a,u,none⟩ (.int .i64 (-1))) b (.slice (some ⟨g,0,none⟩) l.length cg) (.slice (some ⟨a,0,none⟩) p.length ca) l (p.set u (-1)) by
  have:=h.place u (-1)
  rw [List.length_set] at this
  exact this)
 have hag:a≠g:=by have:=h.d3 g rfl;simpa [Value.ownBlock] using this
 have hab:a≠b:=by have:=h.d2;simpa [Value.ownBlock] using this
 have hgb:g≠b:=by have:=h.d1;simpa [Value.ownBlock] using this
 obtain ⟨p0,y0⟩:=h.pb 0 _ rfl
 obtain ⟨p1,-⟩:=h.pb 1 _ rfl
 have s0:=(h.oa.cellAt u (by omega)).trans (show (p.map encI)[u]? =some (encI (p[u]'hu)) by simp [hu])
 have z0:=h.oa.frozenAt u
 obtain ⟨r0,r1⟩:=flatI_get l n (by omega)
 rw [←hx] at r0 r1
 have q0:=(h.ol.cellAt (n*2) (by omega)).trans r0
 have q1:=(h.ol.cellAt (n*2+1) (by omega)).trans r1
 have n1:(a=g)=False:=by simpa using hag
 have n2:(g=a)=False:=by simpa [eq_comm] using hag
 have n3:(a=b)=False:=by simpa using hab
 have n4:(b=a)=False:=by simpa [eq_comm] using hab
 have n5:(g=b)=False:=by simpa using hgb
 have n6:(b=g)=False:=by simpa [eq_comm] using hgb
 have hu0:(0:Int)≤(u:Int):=by omega
 have hu1:(u:Int)<(p.length:Int):=by omega
 have hnn:(l.length:Int)=(n:Int)+1:=by omega
 have hi1:((i:Int)== -1)=false:=by rw [beq_eq_false_iff_ne];omega
 have hbw:b<w.heap.size:=h.pb.lt
 have hcap:n≤cg:=by have:=owns_capH h.ol;omega
 obtain ⟨W3,hW3⟩:∃W3,W3=((w.setCell ⟨a,u,none⟩ (.int .i64 (-1))).setCell ⟨b,0,none⟩ (.slice (some ⟨g,0,none⟩) n cg)).alloc (Obj.cells #[.int .i64 x.1,.int .u64 x.2] 315):=⟨_,rfl⟩
 have H3:=Lib.hid (show HeapW W3 b (.slice (some ⟨g,0,none⟩) n cg) (.slice (some ⟨a,0,none⟩) p.length ca) (l.take n) (p.set u (-1)) by
  rw [hW3]
  exact (H1.out.cut hn).go (Below.of_al _ _))
 have hsz:((w.setCell ⟨a,u,none⟩ (.int .i64 (-1))).setCell ⟨b,0,none⟩ (.slice (some ⟨g,0,none⟩) n cg)).heap.size=w.heap.size:=by simp [World.setCell]
 have HC3:=Lib.hid (show W3.cell? ⟨w.heap.size,0,none⟩=some (.int .i64 x.1)∧W3.cell? ⟨w.heap.size,1,none⟩=some (.int .u64 x.2) by
  rw [hW3,←hsz]
  exact ⟨by go_simp,by go_simp⟩)
 have HO3:=Lib.hid (show OffX (HX b (.slice (some ⟨g,0,none⟩) l.length cg) (.slice (some ⟨a,0,none⟩) p.length ca)) w W3 by
  rw [hW3]
  exact ((OffX.set _ (.inr (.inr rfl))).trans (.set _ (.inl rfl))).trans (.of_below (Below.of_al _ _)))
 have HXX:=Lib.hid (show 0≤x.1∧x.1.toNat<p.length by rw [hux];exact ⟨by omega,by simpa using huxl⟩)
 have HNW:=Lib.hid (show a<w.heap.size∧g<w.heap.size from ⟨(h.oa.lt a rfl).2,(h.ol.lt g rfl).2⟩)
 have HLEN:=Lib.hid (show (l.take n).length=n by simp;omega)
 have HGX:=Lib.hid hx
 have HGU:=Lib.hid hgi
 have HUX:=Lib.hid hux
 have HN:=Lib.hid hn
 have HN1:=Lib.hid hn1
 clear H1 h xa xb xc r0 r1 hag hab hgb hsz hx hgi hux hn hn1
 by_cases hlast:i=n
 ·have hd:dropF l p u i=(l.take n,p.set u (-1)):=by unfold dropF;rw [if_pos (by have:=HN1.out;omega),HN1.out]
  rw [hd]
  subst hlast
  clear hd
  go_enter Tryz.func228,Tryz.ntmps228
  go_upto_region 8 with (go_at_call 264;refine HWH.out.mono ?_;rintro e w1 ⟨rfl,rfl⟩)
  rw [←hW3]
  clear hW3
  go_wp2
  go_ret
  exact ⟨rfl,_,H3.out,HO3.out,rfl⟩
 ·have hlast2:((i:Int)==(n:Int))=false:=by rw [beq_eq_false_iff_ne];omega
  have hhole:=drop_hole ok hu hi hp HGU.out (by have:=HN1.out;omega)
  rw [HN1.out,←HGX.out] at hhole
  obtain ⟨⟨k1,k2,k3,k4⟩,k5,-,-⟩:=sinkF_law _ _ _ i x rfl hhole (OrdI.hole (fun j hj h0=>by
   rw [HLEN.out] at hj
   rw [gI_take hj,gI_take (by omega)]
   exact ok.o j (by have:=HN.out;omega) h0) i)
  have hdr:dropF l p u i=if gP (sinkF (l.take n) (p.set u (-1)) i x).2 x.1.toNat=(i:Int) then riseF (sinkF (l.take n) (p.set u (-1)) i x).1 (sinkF (l.take n) (p.set u (-1)) i x).2 i x else sinkF (l.take n) (p.set u (-1)) i x:=by
   unfold dropF
   rw [if_neg (by have:=HN1.out;omega),HN1.out,←HGX.out]
  have HSK:=Lib.hid (hSink_any b _ _ (l.take n) (p.set u (-1)) i x W3 H3.out (by rw [HLEN.out];omega) (by rw [List.length_set];exact HXX.out) (by
   intro j hj
   rw [HLEN.out] at hj
   rw [gI_take hj,List.length_set]
   have:=ok.c.pos j (by have:=HN.out;omega)
   exact ⟨this.1,this.2.1⟩) (by rw [HLEN.out];omega))
  have HR:=Lib.hid (show InR (sinkF (l.take n) (p.set u (-1)) i x).1 (sinkF (l.take n) (p.set u (-1)) i x).2.length from fun j hj=>⟨(k1.pos j hj).1,(k1.pos j hj).2.1⟩)
  have HK3:=Lib.hid k3
  have HK4:=Lib.hid (k4.trans (List.length_set ..))
  have hgx:x.1.toNat=ux:=by rw [HUX.out];simp
  rw [hgx] at hdr
  rw [hdr]
  generalize sinkF (l.take n) (p.set u (-1)) i x=sk at*
  obtain ⟨l2,p2⟩:=sk
  simp only at HSK HR HK3 HK4
  clear k1 k2 k3 k4 k5 hhole hdr hgx
  go_enter Tryz.func228,Tryz.ntmps228
  go_upto_region 10 with (go_at_call 264;refine HWH.out.mono ?_;rintro e w1 ⟨rfl,rfl⟩)
  rw [←hW3]
  clear hW3
  obtain ⟨c0,c1⟩:=HC3.out
  go_wp2_with (go_at_call 265;refine HSK.out.mono ?_;rintro e w4 ⟨rfl,hh4,ho4⟩)
  have HH4:=Lib.hid hh4
  have HO4:=Lib.hid (HO3.out.trans (ho4.mono hx_rx))
  have hnx:∀k,RX (Value.slice (some ⟨g,0,none⟩) n cg) (Value.slice (some ⟨a,0,none⟩) p.length ca) k→k≠w1.heap.size:=by
   have:=HNW.out
   rintro k (hk|hk)<;>· simp [Value.ownBlock] at hk;omega
  have d0:=ho4.cell c0 (fun e=>hnx _ e rfl)
  have d1:=ho4.cell c1 (fun e=>hnx _ e rfl)
  have ho:=hh4.oa
  rw [HK4.out] at ho
  have s4:=(ho.cellAt ux (by omega)).trans (show (p2.map encI)[ux]? =some (encI (gP p2 ux)) by unfold gP;simp [HK4.out,huxl])
  obtain ⟨m0,-⟩:=hh4.pb 0 _ rfl
  obtain ⟨m1,-⟩:=hh4.pb 1 _ rfl
  have hux0:(0:Int)≤(ux:Int):=by omega
  have hux1:(ux:Int)<(p.length:Int):=by omega
  have HRS:=Lib.hid (fun W h=>hRise_any b (Value.slice (some ⟨g,0,none⟩) n cg) (Value.slice (some ⟨a,0,none⟩) p.length ca) l2 p2 i x W h (by have:=HK3.out;have:=HLEN.out;omega) (by rw [HK4.out];exact HXX.out) HR.out (by have:=HK3.out;have:=HLEN.out;omega))
  rw [HUX.out] at d0
  clear hh4 ho4 hnx ho c0 c1 p0 p1 s0 z0 q0 q1 y0
  by_cases hq:gP p2 ux=(i:Int)
  ·have hq2:(gP p2 ux==(i:Int))=true:=by simpa using hq
   have HIF:=Lib.hid hq
   clear hq
   go_quiet (fail)
   obtain ⟨w5,hw5⟩:∃w5,w5=w4.drewN nq:=⟨_,rfl⟩
   have hb5:Below w4.heap.size w4 w5:=by rw [hw5];exact Below.of_dr _ _
   rw [←hw5]
   clear hw5
   have d05:=cell_later hb5 d0
   have d15:=cell_later hb5 d1
   rw [←HUX.out] at d05
   have HH5:=Lib.hid (HH4.out.go hb5)
   have HO5:=Lib.hid (HO4.out.trans (.of_below hb5))
   clear hb5 d0 d1 s4 m0 m1
   go_wp2_with (go_at_call 226;refine (HRS.out _ HH5.out).mono ?_;rintro e w6 ⟨rfl,hh6,ho6⟩)
   go_ret
   exact ⟨rfl,.slice (some ⟨g,0,none⟩) n cg,hh6,HO5.out.trans (ho6.mono hx_rx),rfl⟩
  ·have hq2:(gP p2 ux==(i:Int))=false:=by simpa using hq
   have HIF:=Lib.hid hq
   clear hq
   go_quiet (fail)
   go_wp2
   go_ret
   exact ⟨rfl,.slice (some ⟨g,0,none⟩) n cg,HH4.out.go (Below.of_dr _ _),HO4.out.trans (.of_below (Below.of_dr _ _)),rfl⟩
end Go.Proofs.YteaaapdjplbljaaGreat
