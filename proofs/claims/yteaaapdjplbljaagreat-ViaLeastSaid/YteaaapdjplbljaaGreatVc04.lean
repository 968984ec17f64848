/- Parts; no condition. -/
import Derived.Test.YteaaapdjplbljaaGreatVc03
import Derived.Laws.EntriesVeiled
set_option linter.unusedVariables false
set_option linter.unusedSimpArgs false
set_option linter.unnecessarySimpa false
set_option maxRecDepth 100000
set_option maxHeartbeats 8000000
namespace Go.Proofs.YteaaapdjplbljaaGreat
section
open Go Go.Proofs Go.RowKit Go.Shelf Hp
theorem Dc:Gq Tryz.prog 3 (.int .i64 0) 1 8:=⟨by kernel_rfl,rfl,by decide⟩
theorem Av1:Gq Tryz.prog 315 (.agg #[.int .i64 0,.int .u64 0]) 2 16:=⟨by kernel_rfl,rfl,by decide⟩
theorem Ab2 (b:Nat) (v va:Value) (l:List IK) (p:List Int) (u:Nat) (w:World) (h:HeapW w b v va l p) (hu:u<p.length):
  Calls Tryz.prog 264 #[.pointer (some ⟨b,0,none⟩),.int .i64 u] w fun e w'=>e=.returned (.int .i64 (gP p u))/\w'=w:=by
 obtain ⟨a,ca,rfl⟩:=Ap h.oa (by omega);obtain ⟨p1,-⟩:=h.pb 1 _ rfl;have s0:=(h.oa.cellAt u (by omega)).trans (show (p.map Aj)[u]? =some (Aj (gP p u)) by unfold gP;simp [hu]);have hu1:(u:Int)<(p.length:Int):=by omega
 have hu0:(0:Int)<=(u:Int):=by omega
 generalize gP p u=r at*;clear h
 go_enter Tryz.func264,Tryz.ntmps264
 go_wp2
 go_ret
 exact ⟨rfl,rfl⟩
theorem Av4 (b:Nat) (v va:Value) (l:List IK) (p:List Int) (w:World) (h:HeapW w b v va l p):
  Calls Tryz.prog 229 #[.pointer (some ⟨b,0,none⟩)] w fun e w'=>e=.returned (.int .i64 l.length)/\w'=w:=by
 obtain ⟨p0,-⟩:=h.pb 0 _ rfl;obtain ⟨ao,c,rfl,-⟩:=Cel.of_owns h.ol;clear h
 go_enter Tryz.func229,Tryz.ntmps229
 go_wp2
 go_ret
 exact ⟨rfl,rfl⟩
def Fa (l:List IK):Value:=match l with
 |[]=>.tuple #[.int .i64 0,.int .u64 0,.bool false]
 |x::_=>.tuple #[.int .i64 x.1,.int .u64 x.2,.bool true]
theorem Ye (b:Nat) (v va:Value) (l:List IK) (p:List Int) (w:World) (h:HeapW w b v va l p):
  Calls Tryz.prog 166 #[.pointer (some ⟨b,0,none⟩)] w fun e w'=>e=.returned (Fa l)/\Below w.heap.size w w':=by
 have HL:=Bi5 (Av4 b v va l p w h)
 cases l with
 |nil=>
  clear h
  go_enter Tryz.func166,Tryz.ntmps166
  go_wp2_with (go_at_call 229;refine HL.out.mono ?_;rintro e w1 ⟨rfl,rfl⟩)
  refine bodyPost_ret (v:=Fa []) (by simp [results,Tryz.results166,go_sem];try rfl) rfl ?_;exact ⟨rfl,Below.refl _ _⟩
 |cons x l=>
  obtain ⟨g,cg,rfl⟩:=Ap h.ol (by simp);obtain ⟨p0,-⟩:=h.pb 0 _ rfl;have q0:=(h.ol.cellAt 0 (by simp)).trans (show (Aq (x::l))[0]? =some (.int .i64 x.1) from rfl);have q1:=(h.ol.cellAt 1 (by simp;omega)).trans (show (Aq (x::l))[1]? =some (.int .u64 x.2) from rfl);have hl0:((x::l).length:Int)=(l.length:Int)+1:=by simp
  have hl1:((l.length:Int)+1==0)=false:=by rw [beq_eq_false_iff_ne];omega
  have hl2:(0:Int)<((x::l).length:Int):=by rw [hl0];omega
  have hl3:(((x::l).length:Int)==0)=false:=by rw [hl0];exact hl1
  generalize ((x::l).length)=nn at*;have e0:=fun p=>Ac p p0;have e1:=fun p=>Ac p q0;have e2:=fun p=>Ac p q1;clear h
  go_enter Tryz.func166,Tryz.ntmps166
  go_wp2_with (go_at_call 229;refine HL.out.mono ?_;rintro e w1 ⟨rfl,rfl⟩)
  go_quiet (fail)
  go_wp2
  refine bodyPost_ret (v:=Fa (x::l)) (by simp [results,Tryz.results166,go_sem];try rfl) rfl ?_;exact ⟨rfl,Below.of_dr _ _⟩
theorem PB.new2 (w:World) (T:TypeId) (x0 x1:Value):PB (w.alloc (.cells #[x0,x1] T)) w.heap.size [x0,x1]:=by
 intro i x hx
 match i with
 |0=>cases hx;exact ⟨by go_simp,by go_simp⟩
 |1=>cases hx;exact ⟨by go_simp,by go_simp⟩
 |i+2=>simp at hx
def Il (n i:Nat):List Int:=List.replicate i (-1)++List.replicate (n-i) 0
theorem Gy {n i:Nat} (h:i<=n):(Il n i).length=n:=by simp [Il];omega
theorem At1 {n i:Nat} (h:i<n):(Il n i).set i (-1)=Il n (i+1):=by
 unfold Il;rw [List.set_append_right _ _ (by simp),show n-i=(n-(i+1))+1 by omega,List.replicate_succ];simp only [Bl6,Nat.sub_self,Bk8];rw [List.replicate_succ' (n:=i),Bm8];rfl
theorem At2 (n:Nat):Il n n=List.replicate n (-1):=by simp [Il]
theorem HeapW.mark {w:World} {b a n i:Nat} {v:Value} {l:List IK} (h:HeapW w b v (.slice (some ⟨a,0,none⟩) n n) l (Il n i)) (hi:i<n):
  HeapW (w.setCell ⟨a,i,none⟩ (.int .i64 (-1))) b v (.slice (some ⟨a,0,none⟩) n n) l (Il n (i+1)):=by
 have e:(Il n i).length=n:=Gy (by omega);have h2:HeapW w b v (.slice (some ⟨a,0,none⟩) (Il n i).length n) l (Il n i):=by rw [e];exact h
 have h3:=h2.place i (-1);rw [At1 hi,Gy (by omega)] at h3;exact h3
theorem Mj (n:Nat) (hn:n<=65536) (w:World):
  Calls Tryz.prog 162 #[.int .i64 n] w fun e w'=>∃b a,e=.returned (.pointer (some ⟨b,0,none⟩))/\HeapW w' b (.slice none 0 0) (.slice (some ⟨a,0,none⟩) n n) [] (List.replicate n (-1))/\w.heap.size<=b/\w.heap.size<=a/\Below w.heap.size w w':=by
 have h1:¬(n:Int)<0:=by omega
 have h2:¬(65536:Int)<(n:Int):=by omega
 have h3:(0:Int)<=(n:Int):=by omega
 go_enter Tryz.func162,Tryz.ntmps162
 go_wp2_with (at_make;go_must ((with_reducible refine Ef 0 3 _ 1 8 Dc Tryz.underlying25 n ?_ ?_ ?_ ?_ ?_ ?_ ?_ ?_);rotate_left 4;(· rfl);(· rfl);(· exact ⟨by simp,by simp,by omega,by omega,by simp⟩);intro w1 hown hbl hsz1;(have HO1:=Bi5 hown;have HB1:=Bi5 hbl;clear hown hbl)))
 obtain ⟨W,hW⟩:∃W,W=w1.alloc (Obj.cells #[.slice none 0 0,.slice (some ⟨w.heap.size,0,none⟩) n n] 313):=⟨_,rfl⟩;have HH0:=Bi5 (show HeapW W w1.heap.size (.slice none 0 0) (.slice (some ⟨w.heap.size,0,none⟩) n n) [] (Il n 0) by
  rw [hW];have ho:=HO1.out;refine ⟨PB.new2 _ _ _ _,World.ownsRow_nil _ _ _ _,?_,by simp [Value.ownBlock],by simp [Value.ownBlock];omega,fun k hk=>by simp [Value.ownBlock] at hk⟩;rw [Nat.mul_one,show (Value.int IntKind.i64 0).cells=#[Value.int IntKind.i64 0] from rfl,toList_madeCells_one] at ho;have h2:=Af ho (Below.of_al w1 (Obj.cells #[.slice none 0 0,.slice (some ⟨w.heap.size,0,none⟩) n n] 313));have e:(Il n 0).map Aj=List.replicate n (Value.int IntKind.i64 0):=by simp [Il]
  rw [Gy (Bi8 _),e];exact h2)
 have HBW:=Bi5 (show Below w.heap.size w W by rw [hW];exact HB1.out.al _);rw [<-hW];clear hW HO1 HB1;have HZ:=Bi5 (Nat.le_of_lt hsz1);generalize w1.heap.size=b at*;clear hsz1
 go_loopg [20] n (fun gg v20 wr=>∃i:Nat,i<=n/\n-i<=gg/\v20=.int .i64 i/\Aside (HeapW wr b (.slice none 0 0) (.slice (some ⟨w.heap.size,0,none⟩) n n) [] (Il n i))/\Aside (Below w.heap.size w wr))
 case atStart=>exact ⟨0,Bi8 _,by omega,rfl,HH0.out,HBW.out⟩
 case round=>
  clear HH0 HBW;obtain ⟨i,hi,hg,rfl,HH,HB⟩:=hrel;obtain ⟨p0,-⟩:=HH.out.pb 0 _ rfl;obtain ⟨p1,-⟩:=HH.out.pb 1 _ rfl
  by_cases hlt:i<n
  ·have hlt2:(i:Int)<(n:Int):=by omega
   have hi0:(0:Int)<=(i:Int):=by omega
   have HM:=Bi5 (HH.out.mark hlt);have ho:=HH.out.oa;rw [Gy hi] at ho;have s0:=(ho.cellAt i (by omega)).trans (show ((Il n i).map Aj)[i]? =some (Aj ((Il n i)[i]'(by rw [Gy hi];exact hlt))) by simp [Gy hi,hlt]);have z0:=ho.frozenAt i;generalize Aj _=q at s0;clear ho
   go_wp2
   go_roundg (n-(i+1))
   case measure=>omega
   case rel=>exact ⟨i+1,by omega,Bi7 _,by go_num,HM.out,HB.out.setCell (p:=⟨w.heap.size,i,none⟩) (Bi7 _) _⟩
  ·obtain rfl:i=n:=by omega
   go_wp2
   go_ret
   refine ⟨b,w.heap.size,rfl,?_,HZ.out,Bi7 _,HB.out⟩;have:=HH.out;rw [At2] at this;exact this
theorem HeapW.cut {w:World} {b g cg n:Nat} {va:Value} {l:List IK} {p:List Int} (h:HeapW w b (.slice (some ⟨g,0,none⟩) l.length cg) va l p) (hn:l.length=n+1):
  HeapW (w.setCell ⟨b,0,none⟩ (.slice (some ⟨g,0,none⟩) n cg)) b (.slice (some ⟨g,0,none⟩) n cg) va (l.take n) p:=by
 have hl:(l.take n).length=n:=by simp;omega
 have ho:=h.ol;rw [hn] at ho;have hsplit:Aq l=Aq (l.take n)++Aq (l.drop n):=by rw [<-Dy,List.take_append_drop]
 rw [hsplit] at ho;have h2:=ownsRow_pop (by rw [Kb,hl]) ho;refine ⟨?_,?_,?_,h.d1,h.d2,?_⟩
 ·exact h.pb.set 0 _
 ·rw [hl]
  exact ownsRow_setCell_other (a:=⟨b,0,none⟩) h2 (by have:=h.d1;simpa [Value.ownBlock] using this) _
 ·exact ownsRow_setCell_other (a:=⟨b,0,none⟩) h.oa h.d2 _
 ·intro k hk
  exact h.d3 k hk
theorem Nj {w:World} {base:Nat} {e:TypeId} {size n c:Nat} {ao:Option Addr} {xs:List Value} (h:w.ownsRow base e size (.slice ao n c) n xs):n<=c:=by
 rcases h.2 with ⟨e,_⟩|⟨g,cap,cur,e,_,_,hc,_⟩
 ·cases e;exact Bi7 _
 ·cases e;exact hc
theorem Au9 {b:Nat} {v va:Value}:∀k,RX v va k->HX b v va k:=fun _ h=>.inr h
theorem Am5 (b u i:Nat) (v va:Value) (l:List IK) (p:List Int) (w:World) (h:HeapW w b v va l p) (ok:HeapOK l p) (hu:u<p.length) (hi:i<l.length) (hp:gP p u=(i:Int)) (hgi:(gI l i).1=(u:Int)) (hl:l.length<=1000000):
  Calls Tryz.prog 228 #[.pointer (some ⟨b,0,none⟩),.int .i64 u] w fun e w'=>e=.returned (.bool true)/\∃v',HeapW w' b v' va (Az l p u i).1 (Az l p u i).2/\OffX (HX b v va) w w'/\v'.ownBlock=v.ownBlock:=by
 have HWH:=Bi5 (Ab2 b v va l p u w h hu);rw [hp] at HWH;obtain ⟨g,cg,rfl⟩:=Ap h.ol (by omega);obtain ⟨a,ca,rfl⟩:=Ap h.oa (by omega);obtain ⟨n,hn⟩:∃n,l.length=n+1:=⟨l.length-1,by omega⟩;have hn1:l.length-1=n:=by omega
 obtain ⟨xa,xb,xc⟩:=ok.c.pos n (by omega);obtain ⟨x,hx⟩:∃x,x=gI l n:=⟨_,rfl⟩;obtain ⟨ux,hux⟩:∃ux:Nat,x.1=(ux:Int):=⟨x.1.toNat,by rw [hx];omega⟩;have huxl:ux<p.length:=by rw [<-hx] at xb;omega
 have H1:=Bi5 (show HeapW (w.setCell ⟨a,u,none⟩ (.int .i64 (-1))) b (.slice (some ⟨g,0,none⟩) l.length cg) (.slice (some ⟨a,0,none⟩) p.length ca) l (p.set u (-1)) by
  have:=h.place u (-1);rw [Bj6] at this;exact this)
 have hag:a≠g:=by have:=h.d3 g rfl;simpa [Value.ownBlock] using this
 have hab:a≠b:=by have:=h.d2;simpa [Value.ownBlock] using this
 have hgb:g≠b:=by have:=h.d1;simpa [Value.ownBlock] using this
 obtain ⟨p0,y0⟩:=h.pb 0 _ rfl;obtain ⟨p1,-⟩:=h.pb 1 _ rfl;have s0:=(h.oa.cellAt u (by omega)).trans (show (p.map Aj)[u]? =some (Aj (p[u]'hu)) by simp [hu]);have z0:=h.oa.frozenAt u;obtain ⟨r0,r1⟩:=Ay l n (by omega);rw [<-hx] at r0 r1;have q0:=(h.ol.cellAt (n*2) (by omega)).trans r0;have q1:=(h.ol.cellAt (n*2+1) (by omega)).trans r1;have n1:(a=g)=False:=by simpa using hag
 have n2:(g=a)=False:=by simpa [eq_comm] using hag
 have n3:(a=b)=False:=by simpa using hab
 have n4:(b=a)=False:=by simpa [eq_comm] using hab
 have n5:(g=b)=False:=by simpa using hgb
 have n6:(b=g)=False:=by simpa [eq_comm] using hgb
 have hu0:(0:Int)<=(u:Int):=by omega
 have hu1:(u:Int)<(p.length:Int):=by omega
 have hnn:(l.length:Int)=(n:Int)+1:=by omega
 have hi1:((i:Int)== -1)=false:=by rw [beq_eq_false_iff_ne];omega
 have hbw:b<w.heap.size:=h.pb.lt;have hcap:n<=cg:=by have:=Nj h.ol;omega
 obtain ⟨W3,hW3⟩:∃W3,W3=((w.setCell ⟨a,u,none⟩ (.int .i64 (-1))).setCell ⟨b,0,none⟩ (.slice (some ⟨g,0,none⟩) n cg)).alloc (Obj.cells #[.int .i64 x.1,.int .u64 x.2] 315):=⟨_,rfl⟩;have H3:=Bi5 (show HeapW W3 b (.slice (some ⟨g,0,none⟩) n cg) (.slice (some ⟨a,0,none⟩) p.length ca) (l.take n) (p.set u (-1)) by
  rw [hW3];exact (H1.out.cut hn).go (Below.of_al _ _))
 have hsz:((w.setCell ⟨a,u,none⟩ (.int .i64 (-1))).setCell ⟨b,0,none⟩ (.slice (some ⟨g,0,none⟩) n cg)).heap.size=w.heap.size:=by simp [World.setCell]
 have HC3:=Bi5 (show W3.cell? ⟨w.heap.size,0,none⟩=some (.int .i64 x.1)/\W3.cell? ⟨w.heap.size,1,none⟩=some (.int .u64 x.2) by
  rw [hW3,<-hsz];exact ⟨by go_simp,by go_simp⟩)
 have HO3:=Bi5 (show OffX (HX b (.slice (some ⟨g,0,none⟩) l.length cg) (.slice (some ⟨a,0,none⟩) p.length ca)) w W3 by
  rw [hW3];exact ((OffX.set _ (.inr (.inr rfl))).trans (.set _ (.inl rfl))).trans (.of_below (Below.of_al _ _)))
 have HXX:=Bi5 (show 0<=x.1/\x.1.toNat<p.length by rw [hux];exact ⟨by omega,by simpa using huxl⟩);have HNW:=Bi5 (show a<w.heap.size/\g<w.heap.size from ⟨(h.oa.lt a rfl).2,(h.ol.lt g rfl).2⟩);have HLEN:=Bi5 (show (l.take n).length=n by simp;omega);have HGX:=Bi5 hx;have HGU:=Bi5 hgi;have HUX:=Bi5 hux;have HN:=Bi5 hn;have HN1:=Bi5 hn1;clear H1 h xa xb xc r0 r1 hag hab hgb hsz hx hgi hux hn hn1
 by_cases hlast:i=n
 ·have hd:Az l p u i=(l.take n,p.set u (-1)):=by unfold Az;rw [if_pos (by have:=HN1.out;omega),HN1.out]
  rw [hd];subst hlast;clear hd
  go_enter Tryz.func228,Tryz.ntmps228
  go_upto_region 8 with (go_at_call 264;refine HWH.out.mono ?_;rintro e w1 ⟨rfl,rfl⟩)
  rw [<-hW3];clear hW3
  go_wp2
  go_ret
  exact ⟨rfl,_,H3.out,HO3.out,rfl⟩
 ·have hlast2:((i:Int)==(n:Int))=false:=by rw [beq_eq_false_iff_ne];omega
  have hhole:=Ao0 ok hu hi hp HGU.out (by have:=HN1.out;omega);rw [HN1.out,<-HGX.out] at hhole;obtain ⟨⟨k1,k2,k3,k4⟩,k5,-,-⟩:=Tf _ _ _ i x rfl hhole (OrdI.hole (fun j hj h0=>by
   rw [HLEN.out] at hj;rw [Cj hj,Cj (by omega)];exact ok.o j (by have:=HN.out;omega) h0) i)
  have hdr:Az l p u i=if gP (Bj (l.take n) (p.set u (-1)) i x).2 x.1.toNat=(i:Int) then Cx (Bj (l.take n) (p.set u (-1)) i x).1 (Bj (l.take n) (p.set u (-1)) i x).2 i x else Bj (l.take n) (p.set u (-1)) i x:=by
   unfold Az;rw [if_neg (by have:=HN1.out;omega),HN1.out,<-HGX.out]
  have HSK:=Bi5 (Am4 b _ _ (l.take n) (p.set u (-1)) i x W3 H3.out (by rw [HLEN.out];omega) (by rw [Bj6];exact HXX.out) (by
   intro j hj;rw [HLEN.out] at hj;rw [Cj hj,Bj6];have:=ok.c.pos j (by have:=HN.out;omega);exact ⟨this.1,this.2.1⟩) (by rw [HLEN.out];omega))
  have HR:=Bi5 (show InR (Bj (l.take n) (p.set u (-1)) i x).1 (Bj (l.take n) (p.set u (-1)) i x).2.length from fun j hj=>⟨(k1.pos j hj).1,(k1.pos j hj).2.1⟩);have HK3:=Bi5 k3;have HK4:=Bi5 (k4.trans (Bj6 ..));have hgx:x.1.toNat=ux:=by rw [HUX.out];simp
  rw [hgx] at hdr;rw [hdr];generalize Bj (l.take n) (p.set u (-1)) i x=sk at*;obtain ⟨l2,p2⟩:=sk;simp only at HSK HR HK3 HK4;clear k1 k2 k3 k4 k5 hhole hdr hgx
  go_enter Tryz.func228,Tryz.ntmps228
  go_upto_region 10 with (go_at_call 264;refine HWH.out.mono ?_;rintro e w1 ⟨rfl,rfl⟩)
  rw [<-hW3];clear hW3;obtain ⟨c0,c1⟩:=HC3.out
  go_wp2_with (go_at_call 265;refine HSK.out.mono ?_;rintro e w4 ⟨rfl,hh4,ho4⟩)
  have HH4:=Bi5 hh4;have HO4:=Bi5 (HO3.out.trans (ho4.mono Au9));have hnx:∀k,RX (Value.slice (some ⟨g,0,none⟩) n cg) (Value.slice (some ⟨a,0,none⟩) p.length ca) k->k≠w1.heap.size:=by
   have:=HNW.out;rintro k (hk|hk)<;>· simp [Value.ownBlock] at hk;omega
  have d0:=ho4.cell c0 (fun e=>hnx _ e rfl);have d1:=ho4.cell c1 (fun e=>hnx _ e rfl);have ho:=hh4.oa;rw [HK4.out] at ho;have s4:=(ho.cellAt ux (by omega)).trans (show (p2.map Aj)[ux]? =some (Aj (gP p2 ux)) by unfold gP;simp [HK4.out,huxl]);obtain ⟨m0,-⟩:=hh4.pb 0 _ rfl;obtain ⟨m1,-⟩:=hh4.pb 1 _ rfl;have hux0:(0:Int)<=(ux:Int):=by omega
  have hux1:(ux:Int)<(p.length:Int):=by omega
  have HRS:=Bi5 (fun W h=>Nq b (Value.slice (some ⟨g,0,none⟩) n cg) (Value.slice (some ⟨a,0,none⟩) p.length ca) l2 p2 i x W h (by have:=HK3.out;have:=HLEN.out;omega) (by rw [HK4.out];exact HXX.out) HR.out (by have:=HK3.out;have:=HLEN.out;omega));rw [HUX.out] at d0;clear hh4 ho4 hnx ho c0 c1 p0 p1 s0 z0 q0 q1 y0
  by_cases hq:gP p2 ux=(i:Int)
  ·have hq2:(gP p2 ux==(i:Int))=true:=by simpa using hq
   have HIF:=Bi5 hq;clear hq
   go_quiet (fail)
   obtain ⟨w5,hw5⟩:∃w5,w5=w4.drewN nq:=⟨_,rfl⟩;have hb5:Below w4.heap.size w4 w5:=by rw [hw5];exact Below.of_dr _ _
   rw [<-hw5];clear hw5;have d05:=Bi6 hb5 d0;have d15:=Bi6 hb5 d1;rw [<-HUX.out] at d05;have HH5:=Bi5 (HH4.out.go hb5);have HO5:=Bi5 (HO4.out.trans (.of_below hb5));clear hb5 d0 d1 s4 m0 m1
   go_wp2_with (go_at_call 226;refine (HRS.out _ HH5.out).mono ?_;rintro e w6 ⟨rfl,hh6,ho6⟩)
   go_ret
   exact ⟨rfl,.slice (some ⟨g,0,none⟩) n cg,hh6,HO5.out.trans (ho6.mono Au9),rfl⟩
  ·have hq2:(gP p2 ux==(i:Int))=false:=by simpa using hq
   have HIF:=Bi5 hq;clear hq
   go_quiet (fail)
   go_wp2
   go_ret
   exact ⟨rfl,.slice (some ⟨g,0,none⟩) n cg,HH4.out.go (Below.of_dr _ _),HO4.out.trans (.of_below (Below.of_dr _ _)),rfl⟩
end
section
open Go Go.Proofs Go.RowKit Go.Shelf Hp
def Kg (w:World) (b:Nat) (v va:Value) (l:List IK) (p:List Int) (e:Ending) (w':World):Prop:=
 e=.returned (Fa l)/\((l=[]/\Below w.heap.size w w')\/(l≠[]/\∃v',HeapW w' b v' va (Az l p (gI l 0).1.toNat 0).1 (Az l p (gI l 0).1.toNat 0).2/\OffX (HX b v va) w w'/\v'.ownBlock=v.ownBlock))
theorem Mi (b:Nat) (v va:Value) (l:List IK) (p:List Int) (w:World) (h:HeapW w b v va l p) (ok:HeapOK l p) (hl:l.length<=1000000):
  Calls Tryz.prog 165 #[.pointer (some ⟨b,0,none⟩)] w (Kg w b v va l p):=by
 have HT:=Bi5 (Ye b v va l p w h);have hmf:∀(fn:Fn) (first cap:Array Value) (w:World),(Instr.makeFunc fn first cap).run Tryz.prog w=.ok (.func fn first cap) w:=fun _ _ _ _=>rfl;unfold Kg
 cases l with
 |nil=>
  clear h ok
  go_enter Tryz.func165,Tryz.ntmps165
  go_wp2_with (go_at_call 166;refine HT.out.mono ?_;unfold Fa;rintro e w1 ⟨rfl,hb1⟩)
  refine bodyPost_ret (v:=Fa []) (by simp [results,Tryz.results165,go_sem];try rfl) rfl ?_
  first|exact ⟨rfl,.inl ⟨rfl,hb1⟩⟩|exact ⟨rfl,.inl ⟨trivial,hb1⟩⟩
 |cons x r=>
  obtain ⟨k1,k2,k3⟩:=ok.c.pos 0 (by simp);have hg0:gI (x::r) 0=x:=rfl;rw [hg0] at k1 k2 k3;obtain ⟨u,hu⟩:∃u:Nat,x.1=(u:Int):=⟨x.1.toNat,by omega⟩;have hu2:x.1.toNat=u:=by omega
  rw [hu2] at k2 k3;have HD:=Bi5 (fun W hW=>Am5 b u 0 v va (x::r) p W hW ok k2 (by simp) k3 (by rw [hg0];exact hu) hl);have HH:=Bi5 h;rw [hg0,hu2];obtain ⟨x1,x2⟩:=x;simp only at hu;subst hu;clear h ok k1 k2 k3 hg0 hu2
  go_enter Tryz.func165,Tryz.ntmps165
  go_wp2_with (first
   |(go_at_call 166;refine HT.out.mono ?_;unfold Fa;rintro e w1 ⟨rfl,hb1⟩)
   |(go_at_call 228;refine (HD.out _ (HH.out.go hb1)).mono ?_;rintro e w2 ⟨rfl,v2,hh2,ho2,hv2⟩))
  refine bodyPost_ret (v:=Fa (((u:Int),x2)::r)) (by simp [results,Tryz.results165,go_sem];try rfl) rfl ?_;exact ⟨rfl,.inr ⟨by simp,v2,hh2,(OffX.of_below hb1).trans ho2,hv2⟩⟩
def Fo (w:World) (b:Nat) (v va:Value) (r:Bool×List IK×List Int) (e:Ending) (w':World):Prop:=
 e=.returned (.bool r.1)/\∃v',HeapW w' b v' va r.2.1 r.2.2/\OffX (HX b v va) w w'/\(v'.ownBlock=v.ownBlock\/∃g,v'.ownBlock=some g/\w.heap.size<=g)
theorem Nc {P:Program} {w:World} {ops:Array Oper} {o:Oper} {a:Act} {K:Act->World->Prop} {Q:Exit->Act->World->Prop} {F:Prop} (hgd:o.guard=none) (s x:Operand) (t:TypeId)
  (ho:o.op=.call { callee:=.builtin .append,args:=#[s,x],argTypes:=#[t,t] })
  (base:Nat) (E:TypeId) (z:Value) (size bytes:Nat) (hE:Gq P E z size bytes) (ht:P.underlying t=some (.slice E))
  (v:Value) (n:Nat) (xs:List Value) (ad:Addr) (m c:Nat) (news:List Value) (hs:a.eval s=v) (hx:a.eval x=.slice (some ad) m c)
  (hown:w.ownsRow base E size v n xs) (hnews:∀j u,news[j]? =some u->w.cell? (ad.add j)=some u) (h1:∀u∈news,u.oneCell'=true)
  (hl:news.length=m*size/\0<m/\n+m<=9223372036854775807/\(n+m)*bytes<=140737488355328/\base<=w.heap.size)
  (h:∀g cap w',w'.ownsRow base E size (.slice (some ⟨g,0,none⟩) (n+m) cap) (n+m) (xs++news)->w.grownBy w' v.ownBlock->Below base w w'->(v.ownBlock=some g\/g=w.heap.size)->K (a.put o.dst (.slice (some ⟨g,0,none⟩) (n+m) cap)) w'):
  if Region.wanted o (yielded ops a.tmps)=true then Oper.wp P o a w K Q else F:=by
 obtain ⟨hE,hz1,hz2⟩:=hE;obtain ⟨i,hi,hz,hsz,hby⟩:=info_parts hE;obtain ⟨l1,l2,l3,l4,l5⟩:=hl;refine step_append_lies w hgd s x t ho base E i z size bytes ht hi hz hsz hby hz1 hz2 v n xs hs hown ad m c news hx l1 hnews h1 l2 (by unfold maxLen;omega) l4 l5 _ rfl ?_;intro g cap w' ho hg hat hlt;exact h g cap w' ho hg ((Below.refl _ w).grown hg l5 (fun k hk=>(hown.lt k hk).1)) hat
theorem Ab0 (w:World) (x y:Value) (T:TypeId) {k:Nat} (hk:k=w.heap.size):∀j u,[x,y][j]? =some u->(w.alloc (.cells #[x,y] T)).cell? ((⟨k,0,none⟩:Addr).add j)=some u:=by
 intro j u hu;subst hk;rw [Addr.add_lit];have:=World.cell?_alloc_mark w #[x,y] T (0,0) (0+j);rw [this]
 simpa using hu
theorem OffX.then' {X Y:Nat->Prop} {a b c:World} (h:OffX X a b) (k:OffX Y b c) (hY:∀j,Y j->X j\/a.heap.size<=j):OffX X a c:=
 ⟨k.os.trans h.os,k.tape.trans h.tape,k.output.trans h.output,Bi9 h.size k.size,fun i hi hn=>(k.block i (by have:=h.size;omega) (fun e=>(hY i e).elim hn (fun e=>by omega))).trans (h.block i hi hn)⟩
theorem Po (a b:Int):∀u∈[Value.int .i64 a,.int .u64 b],u.oneCell'=true:=by
 intro u hu;simp at hu
 rcases hu with rfl|rfl<;>rfl
theorem HeapW.app {W W':World} {b g cap:Nat} {v va:Value} {l:List IK} {p:List Int} {x:IK} (h:HeapW W b v va l p)
  (ho:W'.ownsRow 0 315 2 (.slice (some ⟨g,0,none⟩) (l.length+1) cap) (l.length+1) (Aq l++[.int .i64 x.1,.int .u64 x.2])) (hg:W.grownBy W' v.ownBlock) (hat:v.ownBlock=some g\/g=W.heap.size):
  HeapW (W'.setCell ⟨b,0,none⟩ (.slice (some ⟨g,0,none⟩) (l.length+1) cap)) b (.slice (some ⟨g,0,none⟩) (l.length+1) cap) va (l++[x]) p:=by
 have hlt:=h.pb.lt;have hp:PB W' b [v,va]:=h.pb.eq (hg.block b hlt (fun e=>h.d1 e.symm));have hgb:g≠b:=by
  rcases hat with e|e
  ·rintro rfl;exact h.d1 e
  ·omega
 refine ⟨hp.set 0 _,?_,?_,?_,h.d2,?_⟩
 ·rw [show (l++[x]).length=l.length+1 by simp,Dy]
  exact ownsRow_setCell_other (a:=⟨b,0,none⟩) ho (by simpa [Value.ownBlock] using hgb) _
 ·refine ownsRow_setCell_other (a:=⟨b,0,none⟩) (h.oa.kept hg ?_) h.d2 _
  cases hv:va.ownBlock with
  |none=>exact .inl rfl
  |some k=>exact .inr (fun e=>h.d3 k e.symm hv)
 ·simpa [Value.ownBlock] using hgb
 ·intro k hk e
  have e2:g=k:=Bl4 hk;subst e2
  rcases hat with e3|e3
  ·exact h.d3 g e3 e
  ·have:=(h.oa.lt g e).2
   omega
theorem Av2 (b u i:Nat) (key:Int) (v va:Value) (l:List IK) (p:List Int) (w:World) (h:HeapW w b v va l p) (ok:HeapOK l p) (hu:u<p.length) (hl:l.length<1000000) (hi:i<l.length) (hp:gP p u=(i:Int)):
  Calls Tryz.prog 163 #[.pointer (some ⟨b,0,none⟩),.int .i64 u,.int .u64 key] w (Fo w b v va (Bf l p u key)):=by
 obtain ⟨g,cg,rfl⟩:=Ap h.ol (by omega);obtain ⟨a,ca,rfl⟩:=Ap h.oa (by omega);have hpf:Bf l p u key=if (gI l i).2<=key then (false,l,p) else (true,Cx l p i ((u:Int),key)):=by
  unfold Bf;rw [if_neg (by omega),hp];rfl
 obtain ⟨p0,-⟩:=h.pb 0 _ rfl;obtain ⟨p1,-⟩:=h.pb 1 _ rfl;have s0:=(h.oa.cellAt u (by omega)).trans (show (p.map Aj)[u]? =some (Value.int .i64 (i:Int)) by show _=some (Aj (i:Int));rw [<-hp];unfold gP;simp [hu]);obtain ⟨r0,r1⟩:=Ay l i hi;have q1:=(h.ol.cellAt (i*2+1) (by omega)).trans r1;have hu0:(0:Int)<=(u:Int):=by omega
 have hu1:(u:Int)<(p.length:Int):=by omega
 have hi0:(0:Int)<=(i:Int):=by omega
 have hi1:(i:Int)<(l.length:Int):=by omega
 have hi2:((i:Int)== -1)=false:=by rw [beq_eq_false_iff_ne];omega
 have f1:=fun o=>Bi6 (Below.of_al w o) p1;have f2:=fun o=>Bi6 (Below.of_al w o) s0;unfold Fo;have HH:=Bi5 h;have HRS:=Bi5 (fun W h=>Nq b (Value.slice (some ⟨g,0,none⟩) l.length cg) (Value.slice (some ⟨a,0,none⟩) p.length ca) l p i ((u:Int),key) W h hi ⟨by simp,by simpa using hu⟩ (fun j hj=>⟨(ok.c.pos j hj).1,(ok.c.pos j hj).2.1⟩) (by omega));clear h r0 r1 ok;generalize (gI l i).2=k0 at*;rw [hpf];clear hpf
 go_enter Tryz.func163,Tryz.ntmps163
 go_upto_region 3 with (fail)
 go_region
 obtain ⟨W,hW⟩:∃W,W=(w.alloc (Obj.cells #[.int .i64 (u:Int),.int .u64 key] 315)).drew:=⟨_,rfl⟩;have c0:W.cell? ⟨w.heap.size,0,none⟩=some (.int .i64 (u:Int)):=by rw [hW];show (w.alloc _).cell? _=_;go_simp
 have c1:W.cell? ⟨w.heap.size,1,none⟩=some (.int .u64 key):=by rw [hW];show (w.alloc _).cell? _=_;go_simp
 have hb:Below w.heap.size w W:=by rw [hW];exact (Below.of_al _ _).drew
 have HB:=Bi5 hb;have HHW:=Bi5 (HH.out.go hb);have p0W:=Bi6 hb p0;have q1W:=Bi6 hb q1;rw [<-hW];clear hW hb f1 f2 p0 p1 s0 q1
 by_cases hk:k0<=key
 ·have HK:=Bi5 hk
  go_wp2
  go_ret
  try rw [if_pos HK.out]
  exact ⟨rfl,_,HHW.out,.of_below HB.out,.inl rfl⟩
 ·have HK:=Bi5 hk
  go_wp2_with (go_at_call 226;refine (HRS.out _ HHW.out).mono ?_;rintro e w6 ⟨rfl,hh6,ho6⟩)
  go_ret
  try rw [if_neg (by have:=HK.out;omega)]
  exact ⟨rfl,_,hh6,(OffX.of_below HB.out).trans (ho6.mono Au9),.inl rfl⟩
theorem Av3 (b u:Nat) (key:Int) (v va:Value) (l:List IK) (p:List Int) (w:World) (h:HeapW w b v va l p) (ok:HeapOK l p) (hu:u<p.length) (hl:l.length<1000000) (hp:gP p u= -1):
  Calls Tryz.prog 163 #[.pointer (some ⟨b,0,none⟩),.int .i64 u,.int .u64 key] w (Fo w b v va (Bf l p u key)):=by
 obtain ⟨ao,cg,rfl,-⟩:=Cel.of_owns h.ol;obtain ⟨a,ca,rfl⟩:=Ap h.oa (by omega);have hpf:Bf l p u key=(true,Cx (l++[((u:Int),key)]) p l.length ((u:Int),key)):=by
  unfold Bf;rw [if_pos hp]
 obtain ⟨p0,-⟩:=h.pb 0 _ rfl;obtain ⟨p1,-⟩:=h.pb 1 _ rfl;have s0:=(h.oa.cellAt u (by omega)).trans (show (p.map Aj)[u]? =some (Value.int .i64 (-1)) by show _=some (Aj (-1));rw [<-hp];unfold gP;simp [hu]);have hu0:(0:Int)<=(u:Int):=by omega
 have hu1:(u:Int)<(p.length:Int):=by omega
 have f1:=fun o=>Bi6 (Below.of_al w o) p1;have f2:=fun o=>Bi6 (Below.of_al w o) s0;unfold Fo;have HH:=Bi5 h;have HRS:=Bi5 (fun W v h=>Nq b v (Value.slice (some ⟨a,0,none⟩) p.length ca) (l++[((u:Int),key)]) p l.length ((u:Int),key) W h (by simp) ⟨by simp,by simpa using hu⟩ (fun j hj=>by
  by_cases hjl:j<l.length
  ·rw [Bl hjl]
   exact ⟨(ok.c.pos j hjl).1,(ok.c.pos j hjl).2.1⟩
  ·obtain rfl:j=l.length:=by simp at hj;omega
   rw [show gI (l++[((u:Int),key)]) l.length=((u:Int),key) by simp [gI]];exact ⟨by simp,by simpa using hu⟩) (by simp;omega))
 clear h ok;rw [hpf];clear hpf
 go_enter Tryz.func163,Tryz.ntmps163
 go_upto_region 3 with (fail)
 go_region
 obtain ⟨W,hW⟩:∃W,W=(w.alloc (Obj.cells #[.int .i64 (u:Int),.int .u64 key] 315)).drew:=⟨_,rfl⟩;have c0:W.cell? ⟨w.heap.size,0,none⟩=some (.int .i64 (u:Int)):=by rw [hW];show (w.alloc _).cell? _=_;go_simp
 have c1:W.cell? ⟨w.heap.size,1,none⟩=some (.int .u64 key):=by rw [hW];show (w.alloc _).cell? _=_;go_simp
 have hb:Below w.heap.size w W:=by rw [hW];exact (Below.of_al _ _).drew
 have HB:=Bi5 hb;have HHW:=Bi5 (HH.out.go hb);have p0W:=Bi6 hb p0;have HNB:=Bi5 (show b≠w.heap.size/\a≠w.heap.size/\∀k,(Value.slice ao l.length cg).ownBlock=some k->k≠w.heap.size from ⟨by have:=HH.out.pb.lt;omega,by have:=(HH.out.oa.lt a rfl).2;omega,fun k hk=>by have:=(HH.out.ol.lt k hk).2;omega⟩);rw [<-hW];clear hW hb f1 f2 p0 p1 s0;have hKW:w.heap.size<W.heap.size:=Bj5 _ _ c0;have f0:=fun o=>Bi6 (Below.of_al W o) p0W;have f1:=fun o=>Bi6 (Below.of_al W o) c0;have f2:=fun o=>Bi6 (Below.of_al W o) c1;have hl2:(l.length:Int)<1000000:=by omega
 go_wp2
 go_region_law (refine Nc rfl (.tmp 41) (.tmp 43) 311 rfl 0 315 _ 2 16 Av1 Tryz.underlying311 (.slice ao l.length cg) l.length (Aq l) ⟨W.heap.size,0,none⟩ 1 1 [.int .i64 (u:Int),.int .u64 key] rfl rfl (World.ownsRow.alloc (Ly HHW.out.ol 1) _) (Ab0 _ _ _ _ rfl) (Po _ _) ⟨rfl,by decide,by omega,by omega,by simp⟩ ?_;intro g6 cap6 w6 hown hgr hbl hat;(have hU:=(Below.of_al W (Obj.cells #[.int .i64 (u:Int),.int .u64 key] 315)).drew;have HA6:=Bi5 ((HHW.out.go hU).app (x:=((u:Int),key)) hown hgr hat);have HP6:=Bi5 ((HHW.out.go hU).pb.eq (hgr.block b ((HHW.out.go hU).pb.lt) (fun e=>HHW.out.d1 e.symm)));have HO6:=Bi5 (((OffX.of_below HB.out).trans (OffX.of_below hU)).trans (⟨hgr.os,hgr.tape,hgr.output,hgr.size,fun k hk hn=>hgr.block k hk (fun e=>hn (.inr (.inl e.symm)))⟩:OffX (HX b (Value.slice ao l.length cg) (Value.slice (some ⟨a,0,none⟩) p.length ca)) _ w6));have HC6:=Bi5 (show w6.cell? ⟨w.heap.size,0,none⟩=some (.int .i64 (u:Int))/\w6.cell? ⟨w.heap.size,1,none⟩=some (.int .u64 key) from ⟨(Bl2 (hgr.block w.heap.size (by have:=hU.size;omega) (fun e=>HNB.out.2.2 w.heap.size e.symm rfl))).trans (f1 _),(Bl2 (hgr.block w.heap.size (by have:=hU.size;omega) (fun e=>HNB.out.2.2 w.heap.size e.symm rfl))).trans (f2 _)⟩);have HG6:=Bi5 (show (Value.slice ao l.length cg).ownBlock=some g6\/w.heap.size<=g6 from hat.imp id (fun e=>by have:=hU.size;have:=HB.out.size;omega));clear hown hgr hbl hat hU);obtain ⟨p6,y6⟩:=HP6.out 0 _ rfl)
 all_goals
  obtain ⟨W7,hW7⟩:∃W7,W7=w6.setCell ⟨b,0,none⟩ (.slice (some ⟨g6,0,none⟩) (l.length+1) cap6):=⟨_,rfl⟩;have HA7:=Bi5 (show HeapW W7 b (.slice (some ⟨g6,0,none⟩) (l.length+1) cap6) (.slice (some ⟨a,0,none⟩) p.length ca) (l++[((u:Int),key)]) p by rw [hW7];exact HA6.out);have HO7:=Bi5 (show OffX (HX b (Value.slice ao l.length cg) (Value.slice (some ⟨a,0,none⟩) p.length ca)) w W7 by rw [hW7];exact HO6.out.trans (.set _ (.inl rfl)));have HC7:=Bi5 (show W7.cell? ⟨w.heap.size,0,none⟩=some (.int .i64 (u:Int))/\W7.cell? ⟨w.heap.size,1,none⟩=some (.int .u64 key) by
   rw [hW7];exact ⟨by rw [Bj3 _ _ _ _ (fun e=>HNB.out.1 (congrArg Addr.block e))];exact HC6.out.1,by rw [Bj3 _ _ _ _ (fun e=>HNB.out.1 (congrArg Addr.block e))];exact HC6.out.2⟩)
  rw [<-hW7];clear hW7 p6 y6 HA6 HO6 HC6 HP6 f0 f1 f2 p0W c0 c1;obtain ⟨p7,-⟩:=HA7.out.pb 0 _ rfl;obtain ⟨c7,c8⟩:=HC7.out
  go_wp2_with (go_at_call 226;refine (HRS.out _ _ HA7.out).mono ?_;rintro e w9 ⟨rfl,hh9,ho9⟩)
  go_ret
  refine ⟨rfl,_,hh9,HO7.out.then' ho9 ?_,?_⟩
  ·rintro k (hk|hk)
   ·obtain rfl:g6=k:=Bl4 hk
    exact HG6.out.imp (fun e=>.inr (.inl e)) id
   ·exact .inl (.inr (.inr hk))
  ·rcases HG6.out with e|e
   ·exact .inl e.symm
   ·exact .inr ⟨g6,rfl,e⟩
theorem Hb (b u:Nat) (key:Int) (v va:Value) (l:List IK) (p:List Int) (w:World) (h:HeapW w b v va l p) (ok:HeapOK l p) (hu:u<p.length) (hl:l.length<1000000):
  Calls Tryz.prog 163 #[.pointer (some ⟨b,0,none⟩),.int .i64 u,.int .u64 key] w (Fo w b v va (Bf l p u key)):=by
 rcases ok.c.place hu with ⟨h1,_⟩|⟨i,hi,h1,_⟩
 ·exact Av3 b u key v va l p w h ok hu hl h1
 ·exact Av2 b u i key v va l p w h ok hu hl hi h1
end
section
open Go Go.Proofs Go.RowKit Go.Shelf
def Ig:List (Option Int)->List Value
 |[]=>[]
 |none::l=>.int .u64 0::.int .u64 0::Ig l
 |some v::l=>.int .u64 v::.int .u64 1::Ig l
def Lr (o:Option Int):Int:=o.getD 0
def timO (o:Option Int):Int:=if o.isSome then 1 else 0
theorem Ka:∀(l:List (Option Int)) (k:Nat) (h:k<l.length),(Ig l)[k*2]? =some (.int .u64 (Lr l[k]))/\(Ig l)[k*2+1]? =some (.int .u64 (timO l[k]))
 |none::l,0,_=>⟨rfl,rfl⟩
 |some v::l,0,_=>⟨rfl,rfl⟩
 |none::l,k+1,h=>by
  have:=Ka l k (by simpa using h);rw [show (k+1)*2=k*2+2 by omega];exact this
 |some v::l,k+1,h=>by
  have:=Ka l k (by simpa using h);rw [show (k+1)*2=k*2+2 by omega];exact this
theorem Nv:∀(l:List (Option Int)) (k:Nat) (v:Int),((Ig l).set (k*2) (.int .u64 v)).set (k*2+1) (.int .u64 1)=Ig (l.set k (some v))
 |[],k,y=>by simp [Ig]
 |none::l,0,y=>rfl
 |some v::l,0,y=>rfl
 |none::l,k+1,y=>by
  have:=Nv l k y;rw [show (k+1)*2=k*2+2 by omega]
  show Value.int .u64 0::Value.int .u64 0::(((Ig l).set (k*2) _).set (k*2+1) _)=_
  rw [this];rfl
 |some v::l,k+1,y=>by
  have:=Nv l k y;rw [show (k+1)*2=k*2+2 by omega]
  show Value.int .u64 v::Value.int .u64 1::(((Ig l).set (k*2) _).set (k*2+1) _)=_
  rw [this];rfl
structure StW (w:World) (b rb:Nat) (s:List (Option Int)):Prop where
 pb:∃m,PB w b [.slice (some ⟨rb,0,none⟩) s.length s.length,.int .u64 1,.int .i64 m]
 ol:w.ownsRow 0 355 2 (.slice (some ⟨rb,0,none⟩) s.length s.length) s.length (Ig s)
 d:rb≠b
def SX (b rb k:Nat):Prop:=k=b\/k=rb
theorem StW.go {w w':World} {b rb:Nat} {s:List (Option Int)} (h:StW w b rb s) (hb:Below w.heap.size w w'):StW w' b rb s:=by
 obtain ⟨m,h1⟩:=h.pb;exact ⟨⟨m,h1.go hb⟩,Af h.ol hb,h.d⟩
theorem StW.lt {w:World} {b rb:Nat} {s:List (Option Int)} (h:StW w b rb s):b<w.heap.size/\rb<w.heap.size:=by
 obtain ⟨m,h1⟩:=h.pb;exact ⟨h1.lt,(h.ol.lt rb rfl).2⟩
theorem StW.off {X:Nat->Prop} {w w':World} {b rb:Nat} {s:List (Option Int)} (h:StW w b rb s) (ho:OffX X w w') (h1:¬X b) (h2:¬X rb):StW w' b rb s:=by
 obtain ⟨m,p1⟩:=h.pb;refine ⟨⟨m,p1.eq (ho.block b h.lt.1 h1)⟩,?_,h.d⟩;refine ⟨h.ol.1,?_⟩
 rcases h.ol.2 with h2'|⟨g,cap,cur,hv,hbg,hg,r⟩
 ·exact .inl h2'
 ·cases hv
  exact .inr ⟨_,_,cur,rfl,hbg,by rw [ho.block _ h.lt.2 h2];exact hg,r⟩
theorem Ar1 (b rb:Nat) (s:List (Option Int)) (w:World) (h:StW w b rb s):
  Calls Tryz.prog 289 #[.pointer (some ⟨b,0,none⟩)] w fun e w'=>e=.returned (.int .i64 s.length)/\w'=w:=by
 obtain ⟨m,hp⟩:=h.pb;obtain ⟨p0,-⟩:=hp 0 _ rfl;clear h hp
 go_enter Tryz.func289,Tryz.ntmps289
 go_wp2
 go_ret
 exact ⟨rfl,rfl⟩
theorem Af1 (b rb i:Nat) (s:List (Option Int)) (w:World) (h:StW w b rb s) (hi:i<s.length):
  Calls Tryz.prog 277 #[.pointer (some ⟨b,0,none⟩),.int .i64 i] w fun e w'=>e=.returned (.pointer (some ⟨rb,i*2,none⟩))/\w'=w:=by
 have HL:=Bi5 (Ar1 b rb s w h);obtain ⟨m,hp⟩:=h.pb;obtain ⟨p0,-⟩:=hp 0 _ rfl;have hi0:(0:Int)<=(i:Int):=by omega
 have hi1:(i:Int)<(s.length:Int):=by omega
 clear h hp
 go_enter Tryz.func277,Tryz.ntmps277
 go_wp2_with (go_at_call 289;refine HL.out.mono ?_;rintro e w1 ⟨rfl,rfl⟩)
 go_ret
 exact ⟨rfl,rfl⟩
theorem Wq (b rb i:Nat) (s:List (Option Int)) (w:World) (h:StW w b rb s) (hi:i<s.length):
  Calls Tryz.prog 267 #[.pointer (some ⟨b,0,none⟩),.int .i64 i] w fun e w'=>e=.returned (.tuple #[.int .u64 (Lr s[i]),.bool s[i].isSome])/\Below w.heap.size w w':=by
 have HA:=Bi5 (Af1 b rb i s w h hi);obtain ⟨m,hp⟩:=h.pb;obtain ⟨p1,-⟩:=hp 1 _ rfl;obtain ⟨r0,r1⟩:=Ka s i hi;have q0:=(h.ol.cellAt (i*2) (by omega)).trans r0;have q1:=(h.ol.cellAt (i*2+1) (by omega)).trans r1;generalize s[i]=o at*;clear h hp r0 r1
 cases o with
 |none=>
  have q1:w.cell? ⟨rb,i*2+1,none⟩=some (.int .u64 0):=q1
  go_enter Tryz.func267,Tryz.ntmps267
  go_wp2_with (go_at_call 277;refine HA.out.mono ?_;rintro e w1 ⟨rfl,rfl⟩)
  go_quiet (fail)
  go_wp2
  refine bodyPost_ret (v:=.tuple #[.int .u64 0,.bool false]) (by simp [results,Tryz.results267,go_sem];try rfl) rfl ?_;exact ⟨rfl,Below.of_dr _ _⟩
 |some v=>
  have q0:w.cell? ⟨rb,i*2,none⟩=some (.int .u64 v):=q0;have q1:w.cell? ⟨rb,i*2+1,none⟩=some (.int .u64 1):=q1
  go_enter Tryz.func267,Tryz.ntmps267
  go_wp2_with (go_at_call 277;refine HA.out.mono ?_;rintro e w1 ⟨rfl,rfl⟩)
  go_quiet (fail)
  go_wp2
  refine bodyPost_ret (v:=.tuple #[.int .u64 v,.bool true]) (by simp [results,Tryz.results267,go_sem];try rfl) rfl ?_;exact ⟨rfl,Below.of_dr _ _⟩
theorem StW.many {w:World} {b rb:Nat} {s:List (Option Int)} (h:StW w b rb s) (m:Int):StW (w.setCell ⟨b,2,none⟩ (.int .i64 m)) b rb s:=by
 obtain ⟨m0,p1⟩:=h.pb;exact ⟨⟨m,p1.set 2 _⟩,ownsRow_setCell_other (a:=⟨b,2,none⟩) h.ol (by have:=h.d;simpa [Value.ownBlock] using this) _,h.d⟩
theorem StW.cell {w:World} {b rb:Nat} {s:List (Option Int)} (h:StW w b rb s) (i:Nat) (v:Int):
  StW ((w.setCell ⟨rb,i*2,none⟩ (.int .u64 v)).setCell ⟨rb,i*2+1,none⟩ (.int .u64 1)) b rb (s.set i (some v)):=by
 obtain ⟨m0,p1⟩:=h.pb;refine ⟨⟨m0,?_⟩,?_,h.d⟩
 ·rw [Bj6]
  exact (p1.setAt h.d _).setAt h.d _
 ·have h1:=(h.ol.stored (i*2) (.int .u64 v)).1
  have h2:=(h1.stored (i*2+1) (.int .u64 1)).1;rw [Nv] at h2;rw [Bj6];exact h2
theorem Wp (b rb i:Nat) (v:Int) (s:List (Option Int)) (w:World) (h:StW w b rb s) (hi:i<s.length):
  Calls Tryz.prog 266 #[.pointer (some ⟨b,0,none⟩),.int .i64 i,.int .u64 v] w fun e w'=>e=.returned (.bool true)/\StW w' b rb (s.set i (some v))/\OffX (SX b rb) w w':=by
 have HA:=Bi5 (Af1 b rb i s w h hi);have HH:=Bi5 h;obtain ⟨m,hp⟩:=h.pb;obtain ⟨p1,-⟩:=hp 1 _ rfl;obtain ⟨p2,y2⟩:=hp 2 _ rfl;obtain ⟨r0,r1⟩:=Ka s i hi;have q0:=(h.ol.cellAt (i*2) (by omega)).trans r0;have q1:=(h.ol.cellAt (i*2+1) (by omega)).trans r1;have z0:=h.ol.frozenAt (i*2);have z1:=h.ol.frozenAt (i*2+1);have n1:(rb=b)=False:=by simpa using h.d
 have n2:(b=rb)=False:=by simpa [eq_comm] using h.d
 have HX1:SX b rb rb:=.inr rfl;have HX2:SX b rb b:=.inl rfl;generalize s[i]=o at*;clear h hp r0 r1
 cases o with
 |none=>
  have q0:w.cell? ⟨rb,i*2,none⟩=some (.int .u64 0):=q0;have q1:w.cell? ⟨rb,i*2+1,none⟩=some (.int .u64 0):=q1
  go_enter Tryz.func266,Tryz.ntmps266
  go_wp2_with (go_at_call 277;refine HA.out.mono ?_;rintro e w1 ⟨rfl,rfl⟩)
  go_quiet (fail)
  go_wp2
  go_ret
  exact ⟨rfl,((HH.out.go (Below.of_dr _ nq)).many _).cell i v,(((OffX.of_below (Below.of_dr _ nq)).trans (.set _ HX2)).trans (.set _ HX1)).trans (.set _ HX1)⟩
 |some u=>
  have q0:w.cell? ⟨rb,i*2,none⟩=some (.int .u64 u):=q0;have q1:w.cell? ⟨rb,i*2+1,none⟩=some (.int .u64 1):=q1
  go_enter Tryz.func266,Tryz.ntmps266
  go_wp2_with (go_at_call 277;refine HA.out.mono ?_;rintro e w1 ⟨rfl,rfl⟩)
  go_quiet (fail)
  go_wp2
  go_ret
  exact ⟨rfl,(HH.out.go (Below.of_dr _ nq)).cell i v,((OffX.of_below (Below.of_dr _ nq)).trans (.set _ HX1)).trans (.set _ HX1)⟩
def As (s:List (Option Int)) (i:Nat) (v:Int):Bool×List (Option Int):=match s.getD i none with
 |some u=>if u<=v then (false,s) else (true,s.set i (some v))
 |none=>(true,s.set i (some v))
theorem La (b rb i:Nat) (v:Int) (s:List (Option Int)) (w:World) (h:StW w b rb s) (hi:i<s.length):
  Calls Tryz.prog 247 #[.pointer (some ⟨b,0,none⟩),.int .i64 i,.int .u64 v] w fun e w'=>e=.returned (.bool (As s i v).1)/\StW w' b rb (As s i v).2/\OffX (SX b rb) w w':=by
 have HG:=Bi5 (Wq b rb i s w h hi);have HP:=Bi5 (fun W hW=>Wp b rb i v s W hW hi);have HH:=Bi5 h;have hmf:∀(fn:Fn) (first cap:Array Value) (w:World),(Instr.makeFunc fn first cap).run Tryz.prog w=.ok (.func fn first cap) w:=fun _ _ _ _=>rfl;have hl:As s i v=match s[i] with
  |some u=>if u<=v then (false,s) else (true,s.set i (some v))
  |none=>(true,s.set i (some v)):=by
  unfold As;rw [Bj1,Bj0 hi];rfl
 rw [hl];clear h hl;generalize s[i]=o at*
 cases o with
 |none=>
  simp only [Lr,Option.isSome,Option.getD] at HG ⊢
  go_enter Tryz.func247,Tryz.ntmps247
  go_wp2_with (first
   |(go_at_call 267;refine HG.out.mono ?_;rintro e w1 ⟨rfl,hb1⟩)
   |(go_at_call 266;refine (HP.out _ (HH.out.go hb1)).mono ?_;rintro e w2 ⟨rfl,hs2,ho2⟩))
  go_ret
  exact ⟨rfl,hs2,(OffX.of_below hb1).trans ho2⟩
 |some u=>
  simp only [Lr,Option.isSome,Option.getD] at HG ⊢
  by_cases hk:u<=v
  ·rw [if_pos hk]
   go_enter Tryz.func247,Tryz.ntmps247
   go_wp2_with (go_at_call 267;refine HG.out.mono ?_;rintro e w1 ⟨rfl,hb1⟩)
   go_ret
   exact ⟨rfl,HH.out.go hb1,.of_below hb1⟩
  ·rw [if_neg hk]
   go_enter Tryz.func247,Tryz.ntmps247
   go_wp2_with (first
    |(go_at_call 267;refine HG.out.mono ?_;rintro e w1 ⟨rfl,hb1⟩)
    |(go_at_call 266;refine (HP.out _ (HH.out.go hb1)).mono ?_;rintro e w2 ⟨rfl,hs2,ho2⟩))
   go_ret
   exact ⟨rfl,hs2,(OffX.of_below hb1).trans ho2⟩
theorem PB.new3 (w:World) (T:TypeId) (x0 x1 x2:Value):PB (w.alloc (.cells #[x0,x1,x2] T)) w.heap.size [x0,x1,x2]:=by
 intro i x hx
 match i with
 |0=>cases hx;exact ⟨by go_simp,by go_simp⟩
 |1=>cases hx;exact ⟨by go_simp,by go_simp⟩
 |2=>cases hx;exact ⟨by go_simp,by go_simp⟩
 |i+3=>simp at hx
theorem Az3:Gq Tryz.prog 355 (.agg #[.int .u64 0,.int .u64 0]) 2 16:=⟨by kernel_rfl,rfl,by decide⟩
theorem Ab9 (n:Nat):Ig (List.replicate n none)=List.replicate (n*2) (.int .u64 0):=by
 induction n with
 |zero=>rfl
 |succ n ih=>
  rw [List.replicate_succ,Ig,ih,show (n+1)*2=n*2+1+1 by omega,List.replicate_succ,List.replicate_succ]
theorem At9 (n:Nat):(madeCells (Value.agg #[.int .u64 0,.int .u64 0]).cells (n*2)).toList=List.replicate (n*2) (.int .u64 0):=by
 apply List.ext_getElem?
 intro j
 by_cases hj:j<n*2
 ·simp only [madeCells,Bm5,hj]
  simp [Value.cells,hj]
  rcases Nat.mod_two_eq_zero_or_one j with e|e<;>simp [e]
 ·simp [madeCells,hj]
theorem Pz (n:Nat) (hn:n<=65536) (w:World):
  Calls Tryz.prog 181 #[.int .i64 n] w fun e w'=>∃b rb,e=.returned (.pointer (some ⟨b,0,none⟩))/\StW w' b rb (List.replicate n none)/\w.heap.size<=b/\w.heap.size<=rb/\Below w.heap.size w w':=by
 have h1:¬(n:Int)<0:=by omega
 have h2:¬(65536:Int)<(n:Int):=by omega
 have h3:(0:Int)<=(n:Int):=by omega
 go_enter Tryz.func181,Tryz.ntmps181
 go_wp2_with (at_make;go_must ((with_reducible refine Ef 0 355 _ 2 16 Az3 Tryz.underlying322 n ?_ ?_ ?_ ?_ ?_ ?_ ?_ ?_);rotate_left 4;(· rfl);(· rfl);(· exact ⟨by simp,by simp,by omega,by omega,by simp⟩);intro w1 hown hbl hsz1;(have HO1:=Bi5 hown;have HB1:=Bi5 hbl;clear hown hbl)))
 go_ret
 refine ⟨w1.heap.size,rfl,w.heap.size,⟨⟨0,?_⟩,?_,by omega⟩,by omega,Bi7 _,HB1.out.al _⟩
 ·rw [Bl6]
  exact PB.new3 _ _ _ _ _
 ·have ho:=HO1.out
  rw [At9] at ho;rw [Bl6,Ab9];exact Af ho (Below.of_al _ _)
end
end Go.Proofs.YteaaapdjplbljaaGreat
