/- Walk of package heap: popping, putting. Rows that forget at once, in memory, and the walk of package stamp. -/
import Derived.Test.YteaaapdjplbljaaGreatProg
import Derived.Test.YteaaapdjplbljaaGreatLw07
import Derived.Test.YteaaapdjplbljaaGreatLw06
import Derived.Laws.EntriesVeiled
set_option linter.unusedVariables false
set_option linter.unusedSimpArgs false
set_option linter.unnecessarySimpa false
section
namespace Go.Proofs.YteaaapdjplbljaaGreat
open Go Go.Proofs Go.RowKit Go.Shelf Go.Proofs.YteaaapdjplbljaaGreat.Hp
def PopPost (w:World) (b:Nat) (v va:Value) (l:List IK) (p:List Int) (e:Ending) (w':World):Prop:=
 e=.returned (topF l)∧((l=[]∧Below w.heap.size w w')∨(l≠[]∧∃v',HeapW w' b v' va (dropF l p (gI l 0).1.toNat 0).1 (dropF l p (gI l 0).1.toNat 0).2∧OffX (HX b v va) w w'∧v'.ownBlock=v.ownBlock))
set_option maxRecDepth 100000 in
set_option maxHeartbeats 2000000 in
theorem hPop_any (b:Nat) (v va:Value) (l:List IK) (p:List Int) (w:World) (h:HeapW w b v va l p) (ok:HeapOK l p) (hl:l.length≤1000000):
  Calls Tryz.prog 165 #[.pointer (some ⟨b,0,none⟩)] w (PopPost w b v va l p):=by
 have HT:=Lib.hid (hTop_any b v va l p w h)
 have hmf:∀(fn:Fn) (first cap:Array Value) (w:World),(Instr.makeFunc fn first cap).run Tryz.prog w=.ok (.func fn first cap) w:=fun _ _ _ _=>rfl
 unfold PopPost
 cases l with
 |nil=>
  clear h ok
  go_enter Tryz.func165,Tryz.ntmps165
  go_wp2_with (go_at_call 166;refine HT.out.mono ?_;unfold topF;rintro e w1 ⟨rfl,hb1⟩)
  refine bodyPost_ret (v:=topF []) (by simp [results,Tryz.results165,go_sem];try rfl) rfl ?_
  first|exact ⟨rfl,.inl ⟨rfl,hb1⟩⟩|exact ⟨rfl,.inl ⟨trivial,hb1⟩⟩
 |cons x r=>
  obtain ⟨k1,k2,k3⟩:=ok.c.pos 0 (by simp)
  have hg0:gI (x::r) 0=x:=rfl
  rw [hg0] at k1 k2 k3
  obtain ⟨u,hu⟩:∃u:Nat,x.1=(u:Int):=⟨x.1.toNat,by omega⟩
  have hu2:x.1.toNat=u:=by omega
  rw [hu2] at k2 k3
  have HD:=Lib.hid (fun W hW=>hDrop_any b u 0 v va (x::r) p W hW ok k2 (by simp) k3 (by rw [hg0];exact hu) hl)
  have HH:=Lib.hid h
  rw [hg0,hu2]
  obtain ⟨x1,x2⟩:=x
  simp only at hu
  subst hu
  clear h ok k1 k2 k3 hg0 hu2
  go_enter Tryz.func165,Tryz.ntmps165
  go_wp2_with (first
   |(go_at_call 166;refine HT.out.mono ?_;unfold topF;rintro e w1 ⟨rfl,hb1⟩)
   |(go_at_call 228;refine (HD.out _ (HH.out.go hb1)).mono ?_;rintro e w2 ⟨rfl,v2,hh2,ho2,hv2⟩))
  refine bodyPost_ret (v:=topF (((u:Int),x2)::r)) (by simp [results,Tryz.results165,go_sem];try rfl) rfl ?_
  exact ⟨rfl,.inr ⟨by simp,v2,hh2,(OffX.of_below hb1).trans ho2,hv2⟩⟩
def PutPost (w:World) (b:Nat) (v va:Value) (r:Bool×List IK×List Int) (e:Ending) (w':World):Prop:=
 e=.returned (.bool r.1)∧∃v',HeapW w' b v' va r.2.1 r.2.2∧OffX (HX b v va) w w'∧(v'.ownBlock=v.ownBlock∨∃g,v'.ownBlock=some g∧w.heap.size≤g)
theorem step_appC {P:Program} {w:World} {ops:Array Oper} {o:Oper} {a:Act} {K:Act→World→Prop} {Q:Exit→Act→World→Prop} {F:Prop} (hgd:o.guard=none) (s x:Operand) (t:TypeId)
  (ho:o.op=.call { callee:=.builtin .append,args:=#[s,x],argTypes:=#[t,t] })
  (base:Nat) (E:TypeId) (z:Value) (size bytes:Nat) (hE:Elem P E z size bytes) (ht:P.underlying t=some (.slice E))
  (v:Value) (n:Nat) (xs:List Value) (ad:Addr) (m c:Nat) (news:List Value) (hs:a.eval s=v) (hx:a.eval x=.slice (some ad) m c)
  (hown:w.ownsRow base E size v n xs) (hnews:∀j u,news[j]? =some u→w.cell? (ad.add j)=some u) (h1:∀u∈news,u.oneCell'=true)
  (hl:news.length=m*size∧0<m∧n+m≤9223372036854775807∧(n+m)*bytes≤140737488355328∧base≤w.heap.size)
  (h:∀g cap w',w'.ownsRow base E size (.slice (some ⟨g,0,none⟩) (n+m) cap) (n+m) (xs++news)→w.grownBy w' v.ownBlock→Below base w w'→(v.ownBlock=some g∨g=w.heap.size)→K (a.put o.dst (.slice (some ⟨g,0,none⟩) (n+m) cap)) w'):
  if Region.wanted o (yielded ops a.tmps)=true then Oper.wp P o a w K Q else F:=by
 obtain ⟨hE,hz1,hz2⟩:=hE
 obtain ⟨i,hi,hz,hsz,hby⟩:=info_parts hE
 obtain ⟨l1,l2,l3,l4,l5⟩:=hl
 refine step_append_lies w hgd s x t ho base E i z size bytes ht hi hz hsz hby hz1 hz2 v n xs hs hown ad m c news hx l1 hnews h1 l2 (by unfold maxLen;omega) l4 l5 _ rfl ?_
 intro g cap w' ho hg hat hlt
 exact h g cap w' ho hg ((Below.refl _ w).grown hg l5 (fun k hk=>(hown.lt k hk).1)) hat
theorem hp_two (w:World) (x y:Value) (T:TypeId) {k:Nat} (hk:k=w.heap.size):∀j u,[x,y][j]? =some u→(w.alloc (.cells #[x,y] T)).cell? ((⟨k,0,none⟩:Addr).add j)=some u:=by
 intro j u hu
 subst hk
 rw [Addr.add_lit]
 have:=World.cell?_alloc_mark w #[x,y] T (0,0) (0+j)
 rw [this]
 simpa using hu
theorem OffX.then' {X Y:Nat→Prop} {a b c:World} (h:OffX X a b) (k:OffX Y b c) (hY:∀j,Y j→X j∨a.heap.size≤j):OffX X a c:=
 ⟨k.os.trans h.os,k.tape.trans h.tape,k.output.trans h.output,Nat.le_trans h.size k.size,fun i hi hn=>(k.block i (by have:=h.size;omega) (fun e=>(hY i e).elim hn (fun e=>by omega))).trans (h.block i hi hn)⟩
theorem hp_onet (a b:Int):∀u∈[Value.int .i64 a,.int .u64 b],u.oneCell'=true:=by
 intro u hu
 simp at hu
 rcases hu with rfl|rfl<;>rfl
theorem HeapW.app {W W':World} {b g cap:Nat} {v va:Value} {l:List IK} {p:List Int} {x:IK} (h:HeapW W b v va l p)
  (ho:W'.ownsRow 0 315 2 (.slice (some ⟨g,0,none⟩) (l.length+1) cap) (l.length+1) (flatI l++[.int .i64 x.1,.int .u64 x.2])) (hg:W.grownBy W' v.ownBlock) (hat:v.ownBlock=some g∨g=W.heap.size):
  HeapW (W'.setCell ⟨b,0,none⟩ (.slice (some ⟨g,0,none⟩) (l.length+1) cap)) b (.slice (some ⟨g,0,none⟩) (l.length+1) cap) va (l++[x]) p:=by
 have hlt:=h.pb.lt
 have hp:PB W' b [v,va]:=h.pb.eq (hg.block b hlt (fun e=>h.d1 e.symm))
 have hgb:g≠b:=by
  rcases hat with e|e
  ·rintro rfl;exact h.d1 e
  ·omega
 refine ⟨hp.set 0 _,?_,?_,?_,h.d2,?_⟩
 ·rw [show (l++[x]).length=l.length+1 by simp,flatI_append]
  exact ownsRow_setCell_other (a:=⟨b,0,none⟩) ho (by simpa [Value.ownBlock] using hgb) _
 ·refine ownsRow_setCell_other (a:=⟨b,0,none⟩) (h.oa.kept hg ?_) h.d2 _
  cases hv:va.ownBlock with
  |none=>exact .inl rfl
  |some k=>exact .inr (fun e=>h.d3 k e.symm hv)
 ·simpa [Value.ownBlock] using hgb
 ·intro k hk e
  have e2:g=k:=Option.some.inj hk
  subst e2
  rcases hat with e3|e3
  ·exact h.d3 g e3 e
  ·have:=(h.oa.lt g e).2
   omega
set_option maxRecDepth 100000 in
set_option maxHeartbeats 2000000 in
theorem hPut_old (b u i:Nat) (key:Int) (v va:Value) (l:List IK) (p:List Int) (w:World) (h:HeapW w b v va l p) (ok:HeapOK l p) (hu:u<p.length) (hl:l.length<1000000) (hi:i<l.length) (hp:gP p u=(i:Int)):
  Calls Tryz.prog 163 #[.pointer (some ⟨b,0,none⟩),.int .i64 u,.int .u64 key] w (PutPost w b v va (putF l p u key)):=by
 obtain ⟨g,cg,rfl⟩:=own_form h.ol (by omega)
 obtain ⟨a,ca,rfl⟩:=own_form h.oa (by omega)
 have hpf:putF l p u key=if (gI l i).2≤key then (false,l,p) else (true,riseF l p i ((u:Int),key)):=by
  unfold putF
  rw [if_neg (by omega),hp]
  rfl
 obtain ⟨p0,-⟩:=h.pb 0 _ rfl
 obtain ⟨p1,-⟩:=h.pb 1 _ rfl
 have s0:=(h.oa.cellAt u (by omega)).trans (show (p.map encI)[u]? =some (Value.int .i64 (i:Int)) by show _=some (encI (i:Int));rw [←hp];unfold gP;simp [hu])
 obtain ⟨r0,r1⟩:=flatI_get l i hi
 have q1:=(h.ol.cellAt (i*2+1) (by omega)).trans r1
 have hu0:(0:Int)≤(u:Int):=by omega
 have hu1:(u:Int)<(p.length:Int):=by omega
 have hi0:(0:Int)≤(i:Int):=by omega
 have hi1:(i:Int)<(l.length:Int):=by omega
 have hi2:((i:Int)== -1)=false:=by rw [beq_eq_false_iff_ne];omega
 have f1:=fun o=>cell_later (Below.of_al w o) p1
 have f2:=fun o=>cell_later (Below.of_al w o) s0
 unfold PutPost
 have HH:=Lib.hid h
 have HRS:=Lib.hid (fun W h=>hRise_any b (Value.slice (some ⟨g,0,none⟩) l.length cg) (Value.slice (some ⟨a,0,none⟩) p.length ca) l p i ((u:Int),key) W h hi ⟨by simp,by simpa using hu⟩ (fun j hj=>⟨(ok.c.pos j hj).1,(ok.c.pos j hj).2.1⟩) (by omega))
 clear h r0 r1 ok
 generalize (gI l i).2=k0 at*
 rw [hpf]
 clear hpf
 go_enter Tryz.func163,Tryz.ntmps163
 go_upto_region 3 with (fail)
 go_region
 obtain ⟨W,hW⟩:∃W,W=(w.alloc (Obj.cells #[.int .i64 (u:Int),.int .u64 key] 315)).drew:=⟨_,rfl⟩
 have c0:W.cell? ⟨w.heap.size,0,none⟩=some (.int .i64 (u:Int)):=by rw [hW];show (w.alloc _).cell? _=_;go_simp
 have c1:W.cell? ⟨w.heap.size,1,none⟩=some (.int .u64 key):=by rw [hW];show (w.alloc _).cell? _=_;go_simp
 have hb:Below w.heap.size w W:=by rw [hW];exact (Below.of_al _ _).drew
 have HB:=Lib.hid hb
 have HHW:=Lib.hid (HH.out.go hb)
 have p0W:=cell_later hb p0
 have q1W:=cell_later hb q1
 rw [←hW]
 clear hW hb f1 f2 p0 p1 s0 q1
 by_cases hk:k0≤key
 ·have HK:=Lib.hid hk
  go_wp2
  go_ret
  try rw [if_pos HK.out]
  exact ⟨rfl,_,HHW.out,.of_below HB.out,.inl rfl⟩
 ·have HK:=Lib.hid hk
  go_wp2_with (go_at_call 226;refine (HRS.out _ HHW.out).mono ?_;rintro e w6 ⟨rfl,hh6,ho6⟩)
  go_ret
  try rw [if_neg (by have:=HK.out;omega)]
  exact ⟨rfl,_,hh6,(OffX.of_below HB.out).trans (ho6.mono hx_rx),.inl rfl⟩
set_option maxRecDepth 100000 in
set_option maxHeartbeats 2000000 in
theorem hPut_new (b u:Nat) (key:Int) (v va:Value) (l:List IK) (p:List Int) (w:World) (h:HeapW w b v va l p) (ok:HeapOK l p) (hu:u<p.length) (hl:l.length<1000000) (hp:gP p u= -1):
  Calls Tryz.prog 163 #[.pointer (some ⟨b,0,none⟩),.int .i64 u,.int .u64 key] w (PutPost w b v va (putF l p u key)):=by
 obtain ⟨ao,cg,rfl,-⟩:=Cel.of_owns h.ol
 obtain ⟨a,ca,rfl⟩:=own_form h.oa (by omega)
 have hpf:putF l p u key=(true,riseF (l++[((u:Int),key)]) p l.length ((u:Int),key)):=by
  unfold putF
  rw [if_pos hp]
 obtain ⟨p0,-⟩:=h.pb 0 _ rfl
 obtain ⟨p1,-⟩:=h.pb 1 _ rfl
 have s0:=(h.oa.cellAt u (by omega)).trans (show (p.map encI)[u]? =some (Value.int .i64 (-1)) by show _=some (encI (-1));rw [←hp];unfold gP;simp [hu])
 have hu0:(0:Int)≤(u:Int):=by omega
 have hu1:(u:Int)<(p.length:Int):=by omega
 have f1:=fun o=>cell_later (Below.of_al w o) p1
 have f2:=fun o=>cell_later (Below.of_al w o) s0
 unfold PutPost
 have HH:=Lib.hid h
 have HRS:=Lib.hid (fun W v h=>hRise_any b v (Value.slice (some ⟨a,0,none⟩) p.length ca) (l++[((u:Int),key)]) p l.length ((u:Int),key) W h (by simp) ⟨by simp,by simpa using hu⟩ (fun j hj=>by
  by_cases hjl:j<l.length
  ·rw [gI_append_left hjl]
   exact ⟨(ok.c.pos j hjl).1,(ok.c.pos j hjl).2.1⟩
  ·obtain rfl:j=l.length:=by simp at hj;omega
   rw [show gI (l++[((u:Int),key)]) l.length=((u:Int),key) by simp [gI]]
   exact ⟨by simp,by simpa using hu⟩) (by simp;omega))
 clear h ok
 rw [hpf]
 clear hpf
 go_enter Tryz.func163,Tryz.ntmps163
 go_upto_region 3 with (fail)
 go_region
 obtain ⟨W,hW⟩:∃W,W=(w.alloc (Obj.cells #[.int .i64 (u:Int),.int .u64 key] 315)).drew:=⟨_,rfl⟩
 have c0:W.cell? ⟨w.heap.size,0,none⟩=some (.int .i64 (u:Int)):=by rw [hW];show (w.alloc _).cell? _=_;go_simp
 have c1:W.cell? ⟨w.heap.size,1,none⟩=some (.int .u64 key):=by rw [hW];show (w.alloc _).cell? _=_;go_simp
 have hb:Below w.heap.size w W:=by rw [hW];exact (Below.of_al _ _).drew
 have HB:=Lib.hid hb
 have HHW:=Lib.hid (HH.out.go hb)
 have p0W:=cell_later hb p0
 have HNB:=Lib.hid (show b≠w.heap.size∧a≠w.heap.size∧∀k,(Value.slice ao l.length cg).ownBlock=some k→k≠w.heap.size from ⟨by have:=HH.out.pb.lt;omega,by have:=(HH.out.oa.lt a rfl).2;omega,fun k hk=>by have:=(HH.out.ol.lt k hk).2;omega⟩)
 rw [←hW]
 clear hW hb f1 f2 p0 p1 s0
 have hKW:w.heap.size<W.heap.size:=World.block_lt_of_cell? _ _ c0
 have f0:=fun o=>cell_later (Below.of_al W o) p0W
 have f1:=fun o=>cell_later (Below.of_al W o) c0
 have f2:=fun o=>cell_later (Below.of_al W o) c1
 have hl2:(l.length:Int)<1000000:=by omega
 go_wp2
 go_region_law (refine step_appC rfl (.tmp 41) (.tmp 43) 311 rfl 0 315 _ 2 16 hp_elemt Tryz.underlying311 (.slice ao l.length cg) l.length (flatI l) ⟨W.heap.size,0,none⟩ 1 1 [.int .i64 (u:Int),.int .u64 key] rfl rfl (World.ownsRow.alloc (owns_dr HHW.out.ol 1) _) (hp_two _ _ _ _ rfl) (hp_onet _ _) ⟨rfl,by decide,by omega,by omega,by simp⟩ ?_;intro g6 cap6 w6 hown hgr hbl hat;(have hU:=(Below.of_al W (Obj.cells #[.int .i64 (u:Int),.int .u64 key] 315)).drew;have HA6:=Lib.hid ((HHW.out.go hU).app (x:=((u:Int),key)) hown hgr hat);have HP6:=Lib.hid ((HHW.out.go hU).pb.eq (hgr.block b ((HHW.out.go hU).pb.lt) (fun e=>HHW.out.d1 e.symm)));have HO6:=Lib.hid (((OffX.of_below HB.out).trans (OffX.of_below hU)).trans (⟨hgr.os,hgr.tape,hgr.output,hgr.size,fun k hk hn=>hgr.block k hk (fun e=>hn (.inr (.inl e.symm)))⟩:OffX (HX b (Value.slice ao l.length cg) (Value.slice (some ⟨a,0,none⟩) p.length ca)) _ w6));have HC6:=Lib.hid (show w6.cell? ⟨w.heap.size,0,none⟩=some (.int .i64 (u:Int))∧w6.cell? ⟨w.heap.size,1,none⟩=some (.int .u64 key) from ⟨(World.cell?_of_block (hgr.block w.heap.size (by have:=hU.size;omega) (fun e=>HNB.out.2.2 w.heap.size e.symm rfl))).trans (f1 _),(World.cell?_of_block (hgr.block w.heap.size (by have:=hU.size;omega) (fun e=>HNB.out.2.2 w.heap.size e.symm rfl))).trans (f2 _)⟩);have HG6:=Lib.hid (show (Value.slice ao l.length cg).ownBlock=some g6∨w.heap.size≤g6 from hat.imp id (fun e=>by have:=hU.size;have:=HB.out.size;omega));clear hown hgr hbl hat hU);obtain ⟨p6,y6⟩:=HP6.out 0 _ rfl)
 all_goals
  obtain ⟨W7,hW7⟩:∃W7,W7=w6.setCell ⟨b,0,none⟩ (.slice (some ⟨g6,0,none⟩) (l.length+1) cap6):=⟨_,rfl⟩
  have HA7:=Lib.hid (show HeapW W7 b (.slice (some ⟨g6,0,none⟩) (l.length+1) cap6) (.slice (some ⟨a,0,none⟩) p.length ca) (l++[((u:Int),key)]) p by rw [hW7];exact HA6.out)
  have HO7:=Lib.hid (show OffX (HX b (Value.slice ao l.length cg) (Value.slice (some ⟨a,0,none⟩) p.length ca)) w W7 by rw [hW7];exact HO6.out.trans (.set _ (.inl rfl)))
  have HC7:=Lib.hid (show W7.cell? ⟨w.heap.size,0,none⟩=some (.int .i64 (u:Int))∧W7.cell? ⟨w.heap.size,1,none⟩=some (.int .u64 key) by
   rw [hW7]
   exact ⟨by rw [World.cell?_setCell_other _ _ _ _ (fun e=>HNB.out.1 (congrArg Addr.block e))];exact HC6.out.1,by rw [World.cell?_setCell_other _ _ _ _ (fun e=>HNB.out.1 (congrArg Addr.block e))];exact HC6.out.2⟩)
  rw [←hW7]
  clear hW7 p6 y6 HA6 HO6 HC6 HP6 f0 f1 f2 p0W c0 c1
  obtain ⟨p7,-⟩:=HA7.out.pb 0 _ rfl
  obtain ⟨c7,c8⟩:=HC7.out
  go_wp2_with (go_at_call 226;refine (HRS.out _ _ HA7.out).mono ?_;rintro e w9 ⟨rfl,hh9,ho9⟩)
  go_ret
  refine ⟨rfl,_,hh9,HO7.out.then' ho9 ?_,?_⟩
  ·rintro k (hk|hk)
   ·obtain rfl:g6=k:=Option.some.inj hk
    exact HG6.out.imp (fun e=>.inr (.inl e)) id
   ·exact .inl (.inr (.inr hk))
  ·rcases HG6.out with e|e
   ·exact .inl e.symm
   ·exact .inr ⟨g6,rfl,e⟩
theorem hPut_any (b u:Nat) (key:Int) (v va:Value) (l:List IK) (p:List Int) (w:World) (h:HeapW w b v va l p) (ok:HeapOK l p) (hu:u<p.length) (hl:l.length<1000000):
  Calls Tryz.prog 163 #[.pointer (some ⟨b,0,none⟩),.int .i64 u,.int .u64 key] w (PutPost w b v va (putF l p u key)):=by
 rcases ok.c.place hu with ⟨h1,_⟩|⟨i,hi,h1,_⟩
 ·exact hPut_new b u key v va l p w h ok hu hl h1
 ·exact hPut_old b u i key v va l p w h ok hu hl hi h1
end Go.Proofs.YteaaapdjplbljaaGreat
end
section
namespace Go.Proofs.YteaaapdjplbljaaGreat
open Go Go.Proofs Go.RowKit Go.Shelf
def flatO:List (Option Int)→List Value
 |[]=>[]
 |none::l=>.int .u64 0::.int .u64 0::flatO l
 |some v::l=>.int .u64 v::.int .u64 1::flatO l
def valO (o:Option Int):Int:=o.getD 0
def timO (o:Option Int):Int:=if o.isSome then 1 else 0
theorem flatO_get:∀(l:List (Option Int)) (k:Nat) (h:k<l.length),(flatO l)[k*2]? =some (.int .u64 (valO l[k]))∧(flatO l)[k*2+1]? =some (.int .u64 (timO l[k]))
 |none::l,0,_=>⟨rfl,rfl⟩
 |some v::l,0,_=>⟨rfl,rfl⟩
 |none::l,k+1,h=>by
  have:=flatO_get l k (by simpa using h)
  rw [show (k+1)*2=k*2+2 by omega]
  exact this
 |some v::l,k+1,h=>by
  have:=flatO_get l k (by simpa using h)
  rw [show (k+1)*2=k*2+2 by omega]
  exact this
theorem flatO_set:∀(l:List (Option Int)) (k:Nat) (v:Int),((flatO l).set (k*2) (.int .u64 v)).set (k*2+1) (.int .u64 1)=flatO (l.set k (some v))
 |[],k,y=>by simp [flatO]
 |none::l,0,y=>rfl
 |some v::l,0,y=>rfl
 |none::l,k+1,y=>by
  have:=flatO_set l k y
  rw [show (k+1)*2=k*2+2 by omega]
  show Value.int .u64 0::Value.int .u64 0::(((flatO l).set (k*2) _).set (k*2+1) _)=_
  rw [this]
  rfl
 |some v::l,k+1,y=>by
  have:=flatO_set l k y
  rw [show (k+1)*2=k*2+2 by omega]
  show Value.int .u64 v::Value.int .u64 1::(((flatO l).set (k*2) _).set (k*2+1) _)=_
  rw [this]
  rfl
structure StW (w:World) (b rb:Nat) (s:List (Option Int)):Prop where
 pb:∃m,PB w b [.slice (some ⟨rb,0,none⟩) s.length s.length,.int .u64 1,.int .i64 m]
 ol:w.ownsRow 0 355 2 (.slice (some ⟨rb,0,none⟩) s.length s.length) s.length (flatO s)
 d:rb≠b
def SX (b rb k:Nat):Prop:=k=b∨k=rb
theorem StW.go {w w':World} {b rb:Nat} {s:List (Option Int)} (h:StW w b rb s) (hb:Below w.heap.size w w'):StW w' b rb s:=by
 obtain ⟨m,h1⟩:=h.pb
 exact ⟨⟨m,h1.go hb⟩,hp_owns_go h.ol hb,h.d⟩
theorem StW.lt {w:World} {b rb:Nat} {s:List (Option Int)} (h:StW w b rb s):b<w.heap.size∧rb<w.heap.size:=by
 obtain ⟨m,h1⟩:=h.pb
 exact ⟨h1.lt,(h.ol.lt rb rfl).2⟩
theorem StW.off {X:Nat→Prop} {w w':World} {b rb:Nat} {s:List (Option Int)} (h:StW w b rb s) (ho:OffX X w w') (h1:¬X b) (h2:¬X rb):StW w' b rb s:=by
 obtain ⟨m,p1⟩:=h.pb
 refine ⟨⟨m,p1.eq (ho.block b h.lt.1 h1)⟩,?_,h.d⟩
 refine ⟨h.ol.1,?_⟩
 rcases h.ol.2 with h2'|⟨g,cap,cur,hv,hbg,hg,r⟩
 ·exact .inl h2'
 ·cases hv
  exact .inr ⟨_,_,cur,rfl,hbg,by rw [ho.block _ h.lt.2 h2];exact hg,r⟩
set_option maxRecDepth 100000 in
set_option maxHeartbeats 1000000 in
theorem sLen_any (b rb:Nat) (s:List (Option Int)) (w:World) (h:StW w b rb s):
  Calls Tryz.prog 289 #[.pointer (some ⟨b,0,none⟩)] w fun e w'=>e=.returned (.int .i64 s.length)∧w'=w:=by
 obtain ⟨m,hp⟩:=h.pb
 obtain ⟨p0,-⟩:=hp 0 _ rfl
 clear h hp
 go_enter Tryz.func289,Tryz.ntmps289
 go_wp2
 go_ret
 exact ⟨rfl,rfl⟩
set_option maxRecDepth 100000 in
set_option maxHeartbeats 1000000 in
theorem sAt_any (b rb i:Nat) (s:List (Option Int)) (w:World) (h:StW w b rb s) (hi:i<s.length):
  Calls Tryz.prog 277 #[.pointer (some ⟨b,0,none⟩),.int .i64 i] w fun e w'=>e=.returned (.pointer (some ⟨rb,i*2,none⟩))∧w'=w:=by
 have HL:=Lib.hid (sLen_any b rb s w h)
 obtain ⟨m,hp⟩:=h.pb
 obtain ⟨p0,-⟩:=hp 0 _ rfl
 have hi0:(0:Int)≤(i:Int):=by omega
 have hi1:(i:Int)<(s.length:Int):=by omega
 clear h hp
 go_enter Tryz.func277,Tryz.ntmps277
 go_wp2_with (go_at_call 289;refine HL.out.mono ?_;rintro e w1 ⟨rfl,rfl⟩)
 go_ret
 exact ⟨rfl,rfl⟩
set_option maxRecDepth 100000 in
set_option maxHeartbeats 1000000 in
theorem sGet_any (b rb i:Nat) (s:List (Option Int)) (w:World) (h:StW w b rb s) (hi:i<s.length):
  Calls Tryz.prog 267 #[.pointer (some ⟨b,0,none⟩),.int .i64 i] w fun e w'=>e=.returned (.tuple #[.int .u64 (valO s[i]),.bool s[i].isSome])∧Below w.heap.size w w':=by
 have HA:=Lib.hid (sAt_any b rb i s w h hi)
 obtain ⟨m,hp⟩:=h.pb
 obtain ⟨p1,-⟩:=hp 1 _ rfl
 obtain ⟨r0,r1⟩:=flatO_get s i hi
 have q0:=(h.ol.cellAt (i*2) (by omega)).trans r0
 have q1:=(h.ol.cellAt (i*2+1) (by omega)).trans r1
 generalize s[i]=o at*
 clear h hp r0 r1
 cases o with
 |none=>
  have q1:w.cell? ⟨rb,i*2+1,none⟩=some (.int .u64 0):=q1
  go_enter Tryz.func267,Tryz.ntmps267
  go_wp2_with (go_at_call 277;refine HA.out.mono ?_;rintro e w1 ⟨rfl,rfl⟩)
  go_quiet (fail)
  go_wp2
  refine bodyPost_ret (v:=.tuple #[.int .u64 0,.bool false]) (by simp [results,Tryz.results267,go_sem];try rfl) rfl ?_
  exact ⟨rfl,Below.of_dr _ _⟩
 |some v=>
  have q0:w.cell? ⟨rb,i*2,none⟩=some (.int .u64 v):=q0
  have q1:w.cell? ⟨rb,i*2+1,none⟩=some (.int .u64 1):=q1
  go_enter Tryz.func267,Tryz.ntmps267
  go_wp2_with (go_at_call 277;refine HA.out.mono ?_;rintro e w1 ⟨rfl,rfl⟩)
  go_quiet (fail)
  go_wp2
  refine bodyPost_ret (v:=.tuple #[.int .u64 v,.bool true]) (by simp [results,Tryz.results267,go_sem];try rfl) rfl ?_
  exact ⟨rfl,Below.of_dr _ _⟩
theorem StW.many {w:World} {b rb:Nat} {s:List (Option Int)} (h:StW w b rb s) (m:Int):StW (w.setCell ⟨b,2,none⟩ (.int .i64 m)) b rb s:=by
 obtain ⟨m0,p1⟩:=h.pb
 exact ⟨⟨m,p1.set 2 _⟩,ownsRow_setCell_other (a:=⟨b,2,none⟩) h.ol (by have:=h.d;simpa [Value.ownBlock] using this) _,h.d⟩
theorem StW.cell {w:World} {b rb:Nat} {s:List (Option Int)} (h:StW w b rb s) (i:Nat) (v:Int):
  StW ((w.setCell ⟨rb,i*2,none⟩ (.int .u64 v)).setCell ⟨rb,i*2+1,none⟩ (.int .u64 1)) b rb (s.set i (some v)):=by
 obtain ⟨m0,p1⟩:=h.pb
 refine ⟨⟨m0,?_⟩,?_,h.d⟩
 ·rw [List.length_set]
  exact (p1.setAt h.d _).setAt h.d _
 ·have h1:=(h.ol.stored (i*2) (.int .u64 v)).1
  have h2:=(h1.stored (i*2+1) (.int .u64 1)).1
  rw [flatO_set] at h2
  rw [List.length_set]
  exact h2
set_option maxRecDepth 100000 in
set_option maxHeartbeats 1000000 in
theorem sPut_any (b rb i:Nat) (v:Int) (s:List (Option Int)) (w:World) (h:StW w b rb s) (hi:i<s.length):
  Calls Tryz.prog 266 #[.pointer (some ⟨b,0,none⟩),.int .i64 i,.int .u64 v] w fun e w'=>e=.returned (.bool true)∧StW w' b rb (s.set i (some v))∧OffX (SX b rb) w w':=by
 have HA:=Lib.hid (sAt_any b rb i s w h hi)
 have HH:=Lib.hid h
 obtain ⟨m,hp⟩:=h.pb
 obtain ⟨p1,-⟩:=hp 1 _ rfl
 obtain ⟨p2,y2⟩:=hp 2 _ rfl
 obtain ⟨r0,r1⟩:=flatO_get s i hi
 have q0:=(h.ol.cellAt (i*2) (by omega)).trans r0
 have q1:=(h.ol.cellAt (i*2+1) (by omega)).trans r1
 have z0:=h.ol.frozenAt (i*2)
 have z1:=h.ol.frozenAt (i*2+1)
 have n1:(rb=b)=False:=by simpa using h.d
 have n2:(b=rb)=False:=by simpa [eq_comm] using h.d
 have HX1:SX b rb rb:=.inr rfl
 have HX2:SX b rb b:=.inl rfl
 generalize s[i]=o at*
 clear h hp r0 r1
 cases o with
 |none=>
  have q0:w.cell? ⟨rb,i*2,none⟩=some (.int .u64 0):=q0
  have q1:w.cell? ⟨rb,i*2+1,none⟩=some (.int .u64 0):=q1
  go_enter Tryz.func266,Tryz.ntmps266
  go_wp2_with (go_at_call 277;refine HA.out.mono ?_;rintro e w1 ⟨rfl,rfl⟩)
  go_quiet (fail)
  go_wp2
  go_ret
  exact ⟨rfl,((HH.out.go (Below.of_dr _ nq)).many _).cell i v,(((OffX.of_below (Below.of_dr _ nq)).trans (.set _ HX2)).trans (.set _ HX1)).trans (.set _ HX1)⟩
 |some u=>
  have q0:w.cell? ⟨rb,i*2,none⟩=some (.int .u64 u):=q0
  have q1:w.cell? ⟨rb,i*2+1,none⟩=some (.int .u64 1):=q1
  go_enter Tryz.func266,Tryz.ntmps266
  go_wp2_with (go_at_call 277;refine HA.out.mono ?_;rintro e w1 ⟨rfl,rfl⟩)
  go_quiet (fail)
  go_wp2
  go_ret
  exact ⟨rfl,(HH.out.go (Below.of_dr _ nq)).cell i v,((OffX.of_below (Below.of_dr _ nq)).trans (.set _ HX1)).trans (.set _ HX1)⟩
def leastF (s:List (Option Int)) (i:Nat) (v:Int):Bool×List (Option Int):=match s.getD i none with
 |some u=>if u≤v then (false,s) else (true,s.set i (some v))
 |none=>(true,s.set i (some v))
set_option maxRecDepth 100000 in
set_option maxHeartbeats 1000000 in
theorem sLeast_any (b rb i:Nat) (v:Int) (s:List (Option Int)) (w:World) (h:StW w b rb s) (hi:i<s.length):
  Calls Tryz.prog 247 #[.pointer (some ⟨b,0,none⟩),.int .i64 i,.int .u64 v] w fun e w'=>e=.returned (.bool (leastF s i v).1)∧StW w' b rb (leastF s i v).2∧OffX (SX b rb) w w':=by
 have HG:=Lib.hid (sGet_any b rb i s w h hi)
 have HP:=Lib.hid (fun W hW=>sPut_any b rb i v s W hW hi)
 have HH:=Lib.hid h
 have hmf:∀(fn:Fn) (first cap:Array Value) (w:World),(Instr.makeFunc fn first cap).run Tryz.prog w=.ok (.func fn first cap) w:=fun _ _ _ _=>rfl
 have hl:leastF s i v=match s[i] with
  |some u=>if u≤v then (false,s) else (true,s.set i (some v))
  |none=>(true,s.set i (some v)):=by
  unfold leastF
  rw [List.getD_eq_getElem?_getD,List.getElem?_eq_getElem hi]
  rfl
 rw [hl]
 clear h hl
 generalize s[i]=o at*
 cases o with
 |none=>
  simp only [valO,Option.isSome,Option.getD] at HG ⊢
  go_enter Tryz.func247,Tryz.ntmps247
  go_wp2_with (first
   |(go_at_call 267;refine HG.out.mono ?_;rintro e w1 ⟨rfl,hb1⟩)
   |(go_at_call 266;refine (HP.out _ (HH.out.go hb1)).mono ?_;rintro e w2 ⟨rfl,hs2,ho2⟩))
  go_ret
  exact ⟨rfl,hs2,(OffX.of_below hb1).trans ho2⟩
 |some u=>
  simp only [valO,Option.isSome,Option.getD] at HG ⊢
  by_cases hk:u≤v
  ·rw [if_pos hk]
   go_enter Tryz.func247,Tryz.ntmps247
   go_wp2_with (go_at_call 267;refine HG.out.mono ?_;rintro e w1 ⟨rfl,hb1⟩)
   go_ret
   exact ⟨rfl,HH.out.go hb1,.of_below hb1⟩
  ·rw [if_neg hk]
   go_enter Tryz.func247,Tryz.ntmps247
   go_wp2_with (first
    |(go_at_call 267;refine HG.out.mono ?_;rintro e w1 ⟨rfl,hb1⟩)
    |(go_at_call 266;refine (HP.out _ (HH.out.go hb1)).mono ?_;rintro e w2 ⟨rfl,hs2,ho2⟩))
   go_ret
   exact ⟨rfl,hs2,(OffX.of_below hb1).trans ho2⟩
theorem PB.new3 (w:World) (T:TypeId) (x0 x1 x2:Value):PB (w.alloc (.cells #[x0,x1,x2] T)) w.heap.size [x0,x1,x2]:=by
 intro i x hx
 match i with
 |0=>cases hx;exact ⟨by go_simp,by go_simp⟩
 |1=>cases hx;exact ⟨by go_simp,by go_simp⟩
 |2=>cases hx;exact ⟨by go_simp,by go_simp⟩
 |i+3=>simp at hx
theorem st_elem:Elem Tryz.prog 355 (.agg #[.int .u64 0,.int .u64 0]) 2 16:=⟨by kernel_rfl,rfl,by decide⟩
theorem flatO_none (n:Nat):flatO (List.replicate n none)=List.replicate (n*2) (.int .u64 0):=by
 induction n with
 |zero=>rfl
 |succ n ih=>
  rw [List.replicate_succ,flatO,ih,show (n+1)*2=n*2+1+1 by omega,List.replicate_succ,List.replicate_succ]
theorem made_two (n:Nat):(madeCells (Value.agg #[.int .u64 0,.int .u64 0]).cells (n*2)).toList=List.replicate (n*2) (.int .u64 0):=by
 apply List.ext_getElem?
 intro j
 by_cases hj:j<n*2
 ·simp only [madeCells,List.getElem?_replicate,hj]
  simp [Value.cells,hj]
  rcases Nat.mod_two_eq_zero_or_one j with e|e<;>simp [e]
 ·simp [madeCells,hj]
set_option maxRecDepth 100000 in
set_option maxHeartbeats 1000000 in
theorem sNew_any (n:Nat) (hn:n≤65536) (w:World):
  Calls Tryz.prog 181 #[.int .i64 n] w fun e w'=>∃b rb,e=.returned (.pointer (some ⟨b,0,none⟩))∧StW w' b rb (List.replicate n none)∧w.heap.size≤b∧w.heap.size≤rb∧Below w.heap.size w w':=by
 have h1:¬(n:Int)<0:=by omega
 have h2:¬(65536:Int)<(n:Int):=by omega
 have h3:(0:Int)≤(n:Int):=by omega
 go_enter Tryz.func181,Tryz.ntmps181
 go_wp2_with (at_make;go_must ((with_reducible refine wpList_mk 0 355 _ 2 16 st_elem Tryz.underlying322 n ?_ ?_ ?_ ?_ ?_ ?_ ?_ ?_);rotate_left 4;(· rfl);(· rfl);(· exact ⟨by simp,by simp,by omega,by omega,by simp⟩);intro w1 hown hbl hsz1;(have HO1:=Lib.hid hown;have HB1:=Lib.hid hbl;clear hown hbl)))
 go_ret
 refine ⟨w1.heap.size,rfl,w.heap.size,⟨⟨0,?_⟩,?_,by omega⟩,by omega,Nat.le_refl _,HB1.out.al _⟩
 ·rw [List.length_replicate]
  exact PB.new3 _ _ _ _ _
 ·have ho:=HO1.out
  rw [made_two] at ho
  rw [List.length_replicate,flatO_none]
  exact hp_owns_go ho (Below.of_al _ _)
end Go.Proofs.YteaaapdjplbljaaGreat
end
