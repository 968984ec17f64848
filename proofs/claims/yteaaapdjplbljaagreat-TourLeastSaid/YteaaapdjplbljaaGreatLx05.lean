/- The law TourLeast. -/
import Derived.Test.YteaaapdjplbljaaGreatLxS
import Derived.Test.YteaaapdjplbljaaGreatProg
import Derived.Test.YteaaapdjplbljaaGreatLx04
import Derived.Test.YteaaapdjplbljaaGreatLw47
import Derived.Test.YteaaapdjplbljaaGreatLw41
import Derived.Test.YteaaapdjplbljaaGreatLw48
import Derived.Test.YteaaapdjplbljaaGreatLw38
import Derived.Test.YteaaapdjplbljaaGreatLx02
set_option linter.unusedVariables false
set_option linter.unusedSimpArgs false
set_option linter.unnecessarySimpa false
namespace Go.Proofs.YteaaapdjplbljaaGreat
open Go Go.Proofs Go.RowKit Go.Shelf Go.Proofs.YteaaapdjplbljaaGreat.Hp Go.Proofs.YteaaapdjplbljaaGreat.Ch Go.Proofs.YteaaapdjplbljaaGreat.To
def BoxI (x:Int) (v:Value) (W:World):Prop:=∃b,v=.slice (some ⟨b,0,none⟩) 1 1∧W.cell? ⟨b,0,none⟩=some (.int .i64 x)
theorem BoxI.go {x:Int} {v:Value} {W W':World} (h:BoxI x v W) (hb:Below W.heap.size W W'):BoxI x v W':=let ⟨b,h1,h2⟩:=h;⟨b,h1,cell_later hb h2⟩
theorem BoxI.cel {x:Int} {v:Value} {W:World} (h:BoxI x v W):∃a,v=.slice a ([x]:List Int).length 1∧Cel W a (([x]:List Int).map encI):=by
 obtain ⟨b,rfl,h2⟩:=h
 refine ⟨_,rfl,fun i u hu=>?_⟩
 match i with
 |0=>cases hu;exact ⟨b,0,rfl,h2⟩
 |i+1=>simp at hu
def ListI (n:Nat) (l:List Int) (v:Value) (W:World):Prop:=∃a c,v=.slice a n c∧Cel W a (l.map encI)
theorem ListI.go {n:Nat} {l:List Int} {v:Value} {W W':World} (h:ListI n l v W) (hb:Below W.heap.size W W'):ListI n l v W':=let ⟨a,c,h1,h2⟩:=h;⟨a,c,h1,h2.go hb⟩
def lsR (G S L T:Value) (s t gv:Int) (gb:Bool) (l:List Int):Nat→Value→World→Prop
 |0,v,_=>v=G
 |1,v,_=>v=S
 |2,v,W=>BoxI s v W
 |3,v,_=>v=L
 |4,v,W=>ListI (l.length+1) ([s]++l) v W
 |5,v,_=>v=T
 |6,v,W=>BoxI t v W
 |7,v,W=>ListI (l.length+2) (([s]++l)++[t]) v W
 |8,v,_|9,v,_=>v=.tuple #[.int .u64 gv,.bool gb]
 |10,v,_|12,v,_=>v=.int .u64 gv
 |_,v,_=>v=.bool gb
theorem lsR_go {G S L T:Value} {s t gv:Int} {gb:Bool} {l:List Int} (i:Nat) (v:Value) (w w':World) (hb:Below w.heap.size w w') (h:lsR G S L T s t gv gb l i v w):lsR G S L T s t gv gb l i v w':=by
 unfold lsR at h ⊢
 split at h
 case h_3=>exact h.go hb
 case h_5=>exact h.go hb
 case h_7=>exact h.go hb
 case h_8=>exact h.go hb
 all_goals exact h
def ltR (G V T:Value) (t gv:Int) (gb:Bool) (B n:Nat) (xs:List Value) (L:List Int):Nat→Value→World→Prop
 |0,v,_=>v=G
 |1,v,_=>v=V
 |2,v,_=>v=T
 |3,v,W=>∃b,v=.slice (some ⟨b,0,none⟩) 1 1∧W.cell? ⟨b,0,none⟩=some (.int .i64 t)∧V.ownBlock≠some b
 |4,v,W=>ListI n L v W
 |5,v,_|6,v,_=>v=.tuple #[.int .u64 gv,.bool gb]
 |7,v,_|9,v,_=>v=.int .u64 gv
 |_,v,_=>v=.bool gb
theorem ltR_go {G V T:Value} {t gv:Int} {gb:Bool} {B n:Nat} {xs:List Value} {L:List Int} (i:Nat) (v:Value) (w w':World) (hb:Below w.heap.size w w') (h:ltR G V T t gv gb B n xs L i v w):ltR G V T t gv gb B n xs L i v w':=by
 unfold ltR at h ⊢
 split at h
 case h_4=>obtain ⟨b,h1,h2,h3⟩:=h;exact ⟨b,h1,cell_later hb h2,h3⟩
 case h_5=>exact h.go hb
 all_goals exact h
theorem ltR_off {G V T:Value} {t gv:Int} {gb:Bool} {B n:Nat} {xs:List Value} {L:List Int} (i:Nat) (v:Value) (w w':World) (hi:i≠4) (ho:OffX (fun k=>V.ownBlock=some k) w w') (h:ltR G V T t gv gb B n xs L i v w):ltR G V T t gv gb B n xs L i v w':=by
 unfold ltR at h ⊢
 split at h
 case h_4=>obtain ⟨b,h1,h2,h3⟩:=h;exact ⟨b,h1,ho.cell h2 h3,h3⟩
 case h_5=>exact absurd rfl hi
 all_goals exact h
def byL (s:Int) (l:List Int) (q:List Nat):List Int:=s::q.map (fun i=>l.getD i 0)
theorem byL_ord (s t:Int) (l:List Int) (q:List Nat):byL s l q++[t]=ordL (s::t::l) 0 q:=by
 show s::(q.map (fun i=>l.getD i 0)++[t])=_
 rfl
theorem TrOrdPost.shape {es:List EdgeD} {s t:Int} {l:List Int} {w w':World} {e:Ending} (h:TrOrdPost es (s::t::l) l.length w e w') (hl:l.length≤7):
  ∃(v:Value) (d k:Int),e=.returned (.tuple #[v,.int .u64 d,.int .i64 k])∧(∀x∈s::t::l,∀y∈s::t::l,DistT es x y)∧Below w.heap.size w w'∧
  ((∃(q:List Nat) (a:Option Addr) (c:Nat),OrdQ l.length q∧tailB (cmat es (s::t::l)) 0 q=true∧(∀p,OrdQ l.length p→tailB (cmat es (s::t::l)) 0 p=true→tailC (cmat es (s::t::l)) 0 q≤tailC (cmat es (s::t::l)) 0 p)∧
    v=.slice a l.length c∧d=tailC (cmat es (s::t::l)) 0 q∧k=0∧Cel w' a (q.map encN))∨
   ((∀p,OrdQ l.length p→tailB (cmat es (s::t::l)) 0 p=false)∧v=.slice none 0 0∧d=0∧k=9)):=by
 obtain ⟨h1,h2,⟨q,a,c,h3,h4,h5,h6,h7⟩|⟨h3,h4⟩⟩:=h.split hl
 ·exact ⟨_,_,_,h6,h1,h2,.inl ⟨q,a,c,h3,h4,h5,rfl,rfl,rfl,h7⟩⟩
 ·exact ⟨_,_,_,h4,h1,h2,.inr ⟨h3,rfl,rfl,rfl⟩⟩
theorem ord_in {s t:Int} {l:List Int} {x:Int} (h:x∈([s]++l)++[t]):x∈s::t::l:=by
 simp only [List.mem_append,List.mem_singleton,List.mem_cons,List.not_mem_nil,or_false] at h ⊢
 rcases h with (h|h)|h
 ·exact .inl h
 ·exact .inr (.inr h)
 ·exact .inr (.inl h)
theorem ord_given' (s t:Int) (l:List Int):ordL (s::t::l) 0 (List.range l.length)=([s]++l)++[t]:=by
 rw [ord_given]
 rfl
theorem join1 (a lo:Option Addr) (lc:Nat) (s:Int) (l:List Int) (W:World) (hl:l.length≤1000) (h:Cel W a (([s]:List Int).map encI)) (h2:Cel W lo (l.map encI)):
  Calls Tryz.prog 23 #[.slice a 1 1,.slice lo l.length lc] W fun e w'=>∃ao' cap',e=.returned (.slice ao' (l.length+1) cap')∧Cel w' ao' (([s]++l).map encI)∧Below W.heap.size W w':=
 refJoin_any a lo 1 lc [s] l W (by simp) (by omega) h h2
theorem join2 (a b:Option Addr) (c:Nat) (s t:Int) (l:List Int) (W:World) (hl:l.length≤1000) (h:Cel W a (([s]++l).map encI)) (h2:Cel W b (([t]:List Int).map encI)):
  Calls Tryz.prog 23 #[.slice a (l.length+1) c,.slice b 1 1] W fun e w'=>∃ao' cap',e=.returned (.slice ao' (l.length+2) cap')∧Cel w' ao' ((([s]++l)++[t]).map encI)∧Below W.heap.size W w':=by
 have h3:=refJoin_any a b c 1 ([s]++l) [t] W (by simp;omega) (by simp) h h2
 rw [show (([s]++l)++[t]).length=l.length+2 by simp] at h3
 exact h3
theorem near_in {s t:Int} {l:List Int} {v:Int} (h:v∈s::l):v∈s::t::l:=by
 rcases List.mem_cons.1 h with rfl|h
 ·exact List.mem_cons_self ..
 ·exact List.mem_cons_of_mem _ (List.mem_cons_of_mem _ h)
theorem last_at {s x:Int} {l:List Int} {p:List Nat} (hp:OrdQ l.length p) (hl:0<l.length) (hx:x=lastN s l p):∃j,p[l.length-1]? =some j∧∃h:j<l.length,l[j]=x:=by
 have h1:p.length=l.length:=hp.1
 have h2:l.length-1<p.length:=by omega
 have h3:p.getLast? =some p[l.length-1]:=by
  rw [List.getLast?_eq_getElem?,h1,List.getElem?_eq_getElem h2]
 have h4:=hp.2.1 _ (List.getElem_mem h2)
 refine ⟨p[l.length-1],List.getElem?_eq_getElem h2,h4,?_⟩
 rw [hx]
 unfold lastN
 rw [h3]
 simp [List.getD_eq_getElem?_getD,List.getElem?_eq_getElem h4]
theorem last_none {s x:Int} {l:List Int} {p:List Nat} (hp:OrdQ l.length p) (hl:l.length=0) (hx:x=lastN s l p):x=s:=by
 have h1:p.length=l.length:=hp.1
 have h2:p=[]:=List.length_eq_zero_iff.1 (by omega)
 rw [hx,h2]
 rfl
theorem lastN_in {s t:Int} {l:List Int} {p:List Nat} (hp:OrdQ l.length p):lastN s l p∈s::t::l:=by
 rcases Nat.eq_zero_or_pos l.length with h|h
 ·rw [last_none hp h rfl]
  exact List.mem_cons_self ..
 ·obtain ⟨j,-,h2,h3⟩:=last_at hp h rfl
  rw [←h3]
  exact List.mem_cons_of_mem _ (List.mem_cons_of_mem _ (List.getElem_mem h2))
theorem box_cel (W:World) (T:TypeId) (x:Int):Cel (W.alloc (Obj.cells #[.int .i64 x] T)) (some ⟨W.heap.size,0,none⟩) (([x]:List Int).map encI):=by
 intro j u hj
 exact ⟨_,_,rfl,(World.cell?_alloc_mark W #[.int .i64 x] T (0,0) (0+j)).trans (by simpa [encI] using hj)⟩
theorem row_one {n z:Nat} {es:List EdgeD} {x t:Int} {ao lo:Option Addr} {cap:Nat} {W:World} (hz:x=(z:Int)) (hg:rightG ⟨(n:Int),es⟩=0) (hn:n≤12) (hes:es.length≤40) (hs:nodeN n x) (hc:Cel W ao (flat es)) (hlc:Cel W lo (([t]:List Int).map encI)) (ht:nodeN n t) (hA:∀u v w,arcG es u v w→1≤w):
  Calls Tryz.prog 30 #[.agg #[.int .i64 (n:Int),.slice ao es.length cap],.int .i64 x,.slice lo 1 1] W fun e w'=>∃(b o c:Nat),e=.returned (.slice (some ⟨b,o,none⟩) 1 c)∧w'.cell? ⟨b,o,none⟩=some (.int .u64 (distV es x t))∧Below W.heap.size W w':=by
 have h:=refRow_any n z es ao cap lo 1 [t] W hg hn hes (by have:=hs.2;omega) hc hlc (by simp) (by intro v hv;obtain rfl:=List.mem_singleton.1 hv;exact ht) hA
 rw [←hz] at h
 refine Calls.mono h ?_
 rintro e w' ⟨a,c,rfl,h1,-,h2⟩
 obtain ⟨b,o,rfl,h3⟩:=h1 0 (.int .u64 (distV es x t)) rfl
 exact ⟨b,o,c,rfl,h3,h2⟩
set_option maxRecDepth 100000 in
set_option maxHeartbeats 8000000 in
theorem TourLeast_any (g:GD) (ao:Option Addr) (cap:Nat) (h1 s1:Int) (ro:Option Addr) (r:List Int) (rc:Nat) (s:Int) (lo:Option Addr) (l:List Int) (lc:Nat) (t:Int) (w:World) (hc:Cel w ao (flat g.es)) (hr:Cel w ro (r.map encI)) (hlc:Cel w lo (l.map encI)):
  Calls Tryz.prog 5 #[.agg #[.int .i64 g.n,.slice ao g.es.length cap],.agg #[.int .i64 h1,.int .i64 s1,.slice ro r.length rc],.int .i64 s,.slice lo l.length lc,.int .i64 t] w fun e w'=>e=.returned (.bool true)∧Below w.heap.size w w':=by
 obtain ⟨V,hV⟩:∃V,V=(w.alloc (Obj.cells #[.int .i64 g.n,.slice ao g.es.length cap] 24)).alloc (Obj.cells #[.int .i64 h1,.int .i64 s1,.slice ro r.length rc] 27):=⟨_,rfl⟩
 have hbV:Below w.heap.size w V:=by rw [hV];exact (Below.of_al _ _).al _
 have HQ:=Lib.hid (show QB1 V w.heap.size g ao cap h1 s1 ro r rc by rw [hV];constructor<;>go_simp)
 have HAL:=Lib.hid alive34_any
 have HLI:=Lib.hid (light20_any g.n g.es ao cap V)
 have HB:=Lib.hid hbV
 have HV:=Lib.hid hV
 obtain ⟨p0,p1,p2,p3,p4⟩:=HQ.out
 have HCS:=Lib.hid (And.intro (hc.go hbV) (hr.go hbV))
 have HFT:=Lib.hid (hlc.go hbV)
 clear hbV hV hc hr hlc
 cases hl:light20 g.n g.es with
 |false=>
  rw [hl] at HLI
  clear hl
  go_enter Tryz.func5,Tryz.ntmps5
  go_upto_region 1 with (fail)
  rw [←HV.out]
  go_wp2_with (first
   |(go_at_call 11;refine HLI.out.mono ?_;rintro e w1 ⟨rfl,hb1⟩;(have HB1:=Lib.hid (HB.out.st hb1));clear hb1)
   |(go_at_call 12;refine (HAL.out _).mono ?_;rintro e w2 ⟨rfl,hb2⟩;(have HB2:=Lib.hid (HB1.out.st hb2));clear hb2))
  go_ret
  exact ⟨rfl,HB2.out⟩
 |true=>
  obtain ⟨hg,hes⟩:=light20_small hl
  have HG:=Lib.hid hg
  rw [hl] at HLI
  clear hg
  by_cases hr6:(60:Int)<(r.length:Int)
  ·go_enter Tryz.func5,Tryz.ntmps5
   go_upto_region 1 with (fail)
   rw [←HV.out]
   go_wp2_with (first
    |(go_at_call 11;refine HLI.out.mono ?_;rintro e w1 ⟨rfl,hb1⟩;(have HB1:=Lib.hid (HB.out.st hb1));(have k4:=cell_later hb1 p4);clear hb1)
    |(go_at_call 12;refine (HAL.out _).mono ?_;rintro e w2 ⟨rfl,hb2⟩;(have HB2:=Lib.hid (HB1.out.st hb2));clear hb2))
   go_ret
   exact ⟨rfl,HB2.out⟩
  by_cases hf6:(5:Int)<(l.length:Int)
  ·go_enter Tryz.func5,Tryz.ntmps5
   go_upto_region 1 with (fail)
   rw [←HV.out]
   go_wp2_with (first
    |(go_at_call 11;refine HLI.out.mono ?_;rintro e w1 ⟨rfl,hb1⟩;(have HB1:=Lib.hid (HB.out.st hb1));(have k4:=cell_later hb1 p4);clear hb1)
    |(go_at_call 12;refine (HAL.out _).mono ?_;rintro e w2 ⟨rfl,hb2⟩;(have HB2:=Lib.hid (HB1.out.st hb2));clear hb2))
   go_ret
   exact ⟨rfl,HB2.out⟩
  have HBA:=Lib.hid (fun W (hz:Below V.heap.size V W)=>built_any g ao ro cap rc h1 s1 r W (HCS.out.1.go hz) (HCS.out.2.go hz) (fun k=>by have:=HG.out k;omega) (by omega) (by omega))
  have HZ:=Lib.hid (fun k:buildB g h1 s1 r=0=>build_right k)
  have hl5:l.length≤5:=by omega
  generalize buildB g h1 s1 r=k1 at*
  by_cases e1:k1=0
  ·subst e1
   have hgz:=HZ.out rfl
   have hn:=HG.out hgz
   have hgn:=right_n hgz
   obtain ⟨n,hnn⟩:∃n:Nat,g.n=(n:Int):=⟨g.n.toNat,by omega⟩
   obtain ⟨gn,es⟩:=g
   simp only at hnn hn hes
   subst hnn
   have hn12:n≤12:=by omega
   have hes40:es.length≤40:=by omega
   have HGZ:=Lib.hid hgz
   have HND:=Lib.hid (refNodes_any n (.slice ao es.length cap) lo lc l)
   clear hgz HZ hl
   go_enter Tryz.func5,Tryz.ntmps5
   go_upto_region 1 with (fail)
   rw [←HV.out]
   go_upto_region 4 with (first
    |(go_at_call 11;refine HLI.out.mono ?_;rintro e w1 ⟨rfl,hb1⟩;(have HB1:=Lib.hid hb1);(obtain ⟨x0,x1,x2,x3,x4⟩:=HQ.out.go hb1);clear hb1)
    |(go_at_call 13;refine (HBA.out _ HB1.out).mono ?_;rintro e w2 hp2;(obtain ⟨hb,R,S,po,rfl,hbh,hb2⟩:=hp2.good rfl HGZ.out hn);(have HH:=Lib.hid (show BH w2 hb n es R S po from hbh));(have HB2:=Lib.hid (HB1.out.st hb2));(have z0:=cell_later hb2 x0);(have z1:=cell_later hb2 x1);clear hb2 hp2 hbh))
   have HL:=Lib.hid hl5
   clear x0 x1 x2 x3 x4 p0 p1 p2 p3 p4 HBA HQ HLI hl5
   by_cases hs0:s<0
   ·go_wp2_with (go_at_call 12;refine (HAL.out _).mono ?_;rintro e w7 ⟨rfl,hb7⟩;(have HB7:=Lib.hid (HB2.out.st hb7));clear hb7)
    go_ret
    exact ⟨rfl,HB.out.st HB7.out⟩
   by_cases hs1:(n:Int)≤s
   ·go_wp2_with (go_at_call 12;refine (HAL.out _).mono ?_;rintro e w7 ⟨rfl,hb7⟩;(have HB7:=Lib.hid (HB2.out.st hb7));clear hb7)
    go_ret
    exact ⟨rfl,HB.out.st HB7.out⟩
   by_cases ht0:t<0
   ·go_wp2_with (go_at_call 12;refine (HAL.out _).mono ?_;rintro e w7 ⟨rfl,hb7⟩;(have HB7:=Lib.hid (HB2.out.st hb7));clear hb7)
    go_ret
    exact ⟨rfl,HB.out.st HB7.out⟩
   by_cases ht1:(n:Int)≤t
   ·go_wp2_with (go_at_call 12;refine (HAL.out _).mono ?_;rintro e w7 ⟨rfl,hb7⟩;(have HB7:=Lib.hid (HB2.out.st hb7));clear hb7)
    go_ret
    exact ⟨rfl,HB.out.st HB7.out⟩
   have HNW:=Lib.hid (HND.out w2 (HFT.out.go HB2.out) (by omega))
   clear HND
   cases hno:l.any (outB n) with
   |true=>
    rw [hno,Bool.not_true] at HNW
    clear hno
    go_wp2_with (first
     |(go_at_call 27;refine HNW.out.mono ?_;rintro e w3 ⟨rfl,hb3⟩;(have HB3:=Lib.hid (HB2.out.st hb3));clear hb3)
     |(go_at_call 12;refine (HAL.out _).mono ?_;rintro e w7 ⟨rfl,hb7⟩;(have HB7:=Lib.hid (HB3.out.st hb7));clear hb7))
    go_ret
    exact ⟨rfl,HB.out.st HB7.out⟩
   |false=>
    rw [hno,Bool.not_false] at HNW
    have hnod:=outB_no.1 hno
    clear hno
    go_upto_region 6 with (go_at_call 27;refine HNW.out.mono ?_;rintro e w3 ⟨rfl,hb3⟩;(have HB3:=Lib.hid (HB2.out.st hb3));(have HH:=Lib.hid (HH.out.go hb3));(have y0:=cell_later hb3 z0);(have y1:=cell_later hb3 z1);clear hb3)
    clear z0 z1 HNW
    have HNO:=Lib.hid (show ∀v∈s::t::l,nodeN n v from fun v hv=>by
     rcases List.mem_cons.1 hv with rfl|hv
     ·exact ⟨by omega,by omega⟩
     rcases List.mem_cons.1 hv with rfl|hv
     ·exact ⟨by omega,by omega⟩
     exact hnod v hv)
    have HA1:=Lib.hid (show ∀u v w,arcG es u v w→1≤w from (HH.out.ok.hierB false).pos)
    have HOR:=Lib.hid (trOrder_any hb n es R S po s t l lo lc w3 HH.out (HFT.out.go HB3.out) (by have:=HL.out;omega) HNO.out)
    clear hnod
    go_wp2_with fail
    refine HOR.out.mono ?_
    intro e w4 hp4
    obtain ⟨v13,d13,k13,rfl,hD,hb4,halt⟩:=TrOrdPost.shape hp4 (by have:=HL.out;omega)
    have HALT:=Lib.hid halt
    have HD:=Lib.hid hD
    have HH:=Lib.hid (HH.out.go hb4)
    have HB4:=Lib.hid (HB3.out.st hb4)
    have y0:=cell_later hb4 y0
    have y1:=cell_later hb4 y1
    have HLO:=Lib.hid (HFT.out.go HB4.out)
    have x0:=y0
    have x1:=y1
    have HES:=Lib.hid (HCS.out.1.go HB4.out)
    clear hp4 hD hb4 halt HOR
    go_upto_region 7 with (fail)
    obtain ⟨gv,gb,g1,g2,hT⟩:=tour_fix (n:=n) (es:=es) (all:=s::t::l) (L:=([s]++l)++[t]) l.length (by simp) HGZ.out hn12 hes40 (by have:=HL.out;omega) (fun x hx=>HNO.out x (ord_in hx)) HA1.out HD.out (fun x hx=>ord_in hx)
    have HG1:=Lib.hid g1
    have HG2:=Lib.hid g2
    have HT7:=Lib.hid (fun (a:Option Addr) (c:Nat) (W:World) (hz:Below w4.heap.size w4 W) (h:Cel W a ((([s]++l)++[t]).map encI))=>hT ao a cap c W (HES.out.go hz) h)
    have HJ1:=Lib.hid (fun (a:Option Addr) (W:World) (hz:Below w4.heap.size w4 W) (h:Cel W a (([s]:List Int).map encI))=>join1 a lo lc s l W (by have:=HL.out;omega) h (HLO.out.go hz))
    have HJ2:=Lib.hid (fun (a:Option Addr) (c:Nat) (b:Option Addr) (W:World) (_:Below w4.heap.size w4 W) (h:Cel W a (([s]++l).map encI)) (h2:Cel W b (([t]:List Int).map encI))=>join2 a b c s t l W (by have:=HL.out;omega) h h2)
    clear g1 g2 hT
    refine wp_region_grows_g 14 rfl (lsR (.agg #[.int .i64 (n:Int),.slice ao es.length cap]) (.int .i64 s) (.slice lo l.length lc) (.int .i64 t) s t gv gb l) (by kernel_rfl) (by kernel_rfl) lsR_go ?hop7 ?hend7
    case hop7=>
     refine ⟨?_,?_,?_,?_,?_,?_,?_,?_,?_,?_,?_,?_,?_,?_,trivial⟩
     ·intro act w' hbe hd ho K hK
      have q0:act.tmps.getD 5 undef=.pointer (some ⟨w.heap.size,0,none⟩):=ho 5 (by kernel_rfl)
      have f0:=cell_later hbe y0
      have f1:=cell_later hbe y1
      refine .inl ⟨goes_free rfl,?_⟩
      simp [Oper.wp,execOp,Oper.upon,go_sem,Act.eval,q0,f0,f1]
      exact hK _ w' (Below.refl _ _) rfl
     ·intro act w' hbe hd ho K hK
      have q0:act.tmps.getD 2 undef=.int .i64 s:=ho 2 (by kernel_rfl)
      refine .inl ⟨goes_free rfl,?_⟩
      simp [Oper.wp,execOp,Oper.upon,go_sem,Act.eval,q0]
      exact hK _ w' (Below.refl _ _) rfl
     ·intro act w' hbe hd ho K hK
      have q0:act.tmps.getD 89 undef=.int .i64 s:=hd 1 (by rfl)
      have z0:=(Array.getD_eq_getD_getElem? (xs:=act.tmps) (i:=89) (d:=undef)).symm.trans q0
      refine .inl ⟨goes_free rfl,?_⟩
      simp [Oper.wp,execOp,Oper.upon,go_sem,Act.eval,q0,z0]
      exact hK _ _ (Below.of_al _ _) ⟨w'.heap.size,rfl,by go_simp⟩
     ·intro act w' hbe hd ho K hK
      have q0:act.tmps.getD 3 undef=.slice lo l.length lc:=ho 3 (by kernel_rfl)
      refine .inl ⟨goes_free rfl,?_⟩
      simp [Oper.wp,execOp,Oper.upon,go_sem,Act.eval,q0]
      exact hK _ w' (Below.refl _ _) rfl
     ·intro act w' hbe hd ho K hK
      have q0:act.tmps.getD 91 undef=.slice lo l.length lc:=hd 3 (by rfl)
      have b5:BoxI s (act.tmps.getD 90 undef) w':=hd 2 (by rfl)
      obtain ⟨a5,e5,c5⟩:=b5.cel
      refine .inl ⟨goes_free rfl,?_⟩
      simp [Oper.wp,execOp,Oper.upon,go_sem,Act.eval,q0,e5]
      refine (HJ1.out a5 w' hbe c5).mono ?_
      rintro e w8 ⟨a6,c6,rfl,k1,k2⟩
      exact hK _ w8 k2 ⟨a6,c6,rfl,k1⟩
     ·intro act w' hbe hd ho K hK
      have q0:act.tmps.getD 4 undef=.int .i64 t:=ho 4 (by kernel_rfl)
      refine .inl ⟨goes_free rfl,?_⟩
      simp [Oper.wp,execOp,Oper.upon,go_sem,Act.eval,q0]
      exact hK _ w' (Below.refl _ _) rfl
     ·intro act w' hbe hd ho K hK
      have q0:act.tmps.getD 93 undef=.int .i64 t:=hd 5 (by rfl)
      have z0:=(Array.getD_eq_getD_getElem? (xs:=act.tmps) (i:=93) (d:=undef)).symm.trans q0
      refine .inl ⟨goes_free rfl,?_⟩
      simp [Oper.wp,execOp,Oper.upon,go_sem,Act.eval,q0,z0]
      exact hK _ _ (Below.of_al _ _) ⟨w'.heap.size,rfl,by go_simp⟩
     ·intro act w' hbe hd ho K hK
      have b5:BoxI t (act.tmps.getD 94 undef) w':=hd 6 (by rfl)
      obtain ⟨a5,e5,c5⟩:=b5.cel
      obtain ⟨a6,c6,e6,h6⟩:ListI (l.length+1) ([s]++l) (act.tmps.getD 92 undef) w':=hd 4 (by rfl)
      refine .inl ⟨goes_free rfl,?_⟩
      simp [Oper.wp,execOp,Oper.upon,go_sem,Act.eval,e5,e6]
      refine (HJ2.out a6 c6 a5 w' hbe h6 c5).mono ?_
      rintro e w8 ⟨a7,c7,rfl,k1,k2⟩
      exact hK _ w8 k2 ⟨a7,c7,rfl,k1⟩
     ·intro act w' hbe hd ho K hK
      have q0:act.tmps.getD 88 undef=.agg #[.int .i64 (n:Int),.slice ao es.length cap]:=hd 0 (by rfl)
      obtain ⟨a6,c6,e6,h6⟩:ListI (l.length+2) (([s]++l)++[t]) (act.tmps.getD 95 undef) w':=hd 7 (by rfl)
      refine .inl ⟨goes_free rfl,?_⟩
      simp [Oper.wp,execOp,Oper.upon,go_sem,Act.eval,q0,e6]
      refine (HT7.out a6 c6 w' hbe h6).mono ?_
      rintro e w8 ⟨rfl,k2⟩
      exact hK _ w8 k2 rfl
     ·intro act w' hbe hd ho K hK
      have q0:act.tmps.getD 96 undef=.tuple #[.int .u64 gv,.bool gb]:=hd 8 (by rfl)
      refine .inl ⟨goes_free rfl,?_⟩
      simp [Oper.wp,execOp,Oper.upon,go_sem,Act.eval,q0]
      exact hK _ w' (Below.refl _ _) rfl
     ·intro act w' hbe hd ho K hK
      have q0:act.tmps.getD 87 undef=.tuple #[.int .u64 gv,.bool gb]:=hd 9 (by rfl)
      refine .inl ⟨goes_free rfl,?_⟩
      simp [Oper.wp,execOp,Oper.upon,go_sem,Act.eval,q0]
      exact hK _ w' (Below.refl _ _) rfl
     ·intro act w' hbe hd ho K hK
      have q0:act.tmps.getD 87 undef=.tuple #[.int .u64 gv,.bool gb]:=hd 9 (by rfl)
      refine .inl ⟨goes_free rfl,?_⟩
      simp [Oper.wp,execOp,Oper.upon,go_sem,Act.eval,q0]
      exact hK _ w' (Below.refl _ _) rfl
     ·intro act w' hbe hd ho K hK
      have q0:act.tmps.getD 97 undef=.int .u64 gv:=hd 10 (by rfl)
      refine .inl ⟨goes_free rfl,?_⟩
      simp [Oper.wp,execOp,Oper.upon,go_sem,Act.eval,q0]
      exact hK _ w' (Below.refl _ _) rfl
     ·intro act w' hbe hd ho K hK
      have q0:act.tmps.getD 98 undef=.bool gb:=hd 11 (by rfl)
      refine .inl ⟨goes_free rfl,?_⟩
      simp [Oper.wp,execOp,Oper.upon,go_sem,Act.eval,q0]
      exact hK _ w' (Below.refl _ _) rfl
    case hend7=>
     intro vs w5 hb5 hR
     have e12:vs 12=.int .u64 gv:=hR 12 (by decide)
     have e13:vs 13=.bool gb:=hR 13 (by decide)
     simp only [puts,dstAt,List.getElem?_cons_zero,List.getElem?_cons_succ,Option.bind_some,Option.getD_some,Act.put,List.length_cons,List.length_nil,Nat.reduceAdd,List.setIfInBounds_toArray,List.set_cons_zero,List.set_cons_succ,e12,e13]
     have HB5:=Lib.hid hb5
     clear hR e12 e13 hb5 HT7 HJ1 HJ2
     generalize vs 0=a0
     generalize vs 1=a1
     generalize vs 2=a2
     generalize vs 3=a3
     generalize vs 4=a4
     generalize vs 5=a5
     generalize vs 6=a6
     generalize vs 7=a7
     generalize vs 8=a8
     generalize vs 9=a9
     generalize vs 10=a10
     generalize vs 11=a11
     rcases HALT.out with ⟨q,a,c,q1,q2,q3,rfl,rfl,rfl,q4⟩|⟨q1,rfl,rfl,rfl⟩
     ·obtain ⟨d,hd⟩:∃d,d=tailC (cmat es (s::t::l)) 0 q:=⟨_,rfl⟩
      have hdb:=tail_bnd HD.out q1 q2
      rw [←hd] at q3 hdb ⊢
      have HQ:=Lib.hid (And.intro q1 (And.intro q2 q3))
      have hgv:gb=true→d≤gv:=fun hh=>by
       obtain ⟨h8,h9⟩:=HG1.out hh
       rw [←ord_given' s t l] at h8 h9
       have h10:=(ord_ok (es:=es) (all:=s::t::l) (List.range l.length) 0).1 (by rw [List.length_range];exact h8)
       have h11:=ord_sum (es:=es) (all:=s::t::l) (List.range l.length) 0
       rw [List.length_range] at h11
       rw [h9,h11]
       exact q3 _ (range_ord l.length) h10
      have HQC:=Lib.hid q4
      have HDE:=Lib.hid hd
      clear HALT HG1 HG2 q1 q2 q3 q4 hd
      have hl5:(l.length:Int)≤5:=by have:=HL.out;omega
      have HW6:=Lib.hid (Below.of_al w5 (Obj.cells #[.int .i64 s] 3))
      have HCT:=Lib.hid (fun (i:Nat) (hi:i<l.length)=>show Calls Tryz.prog 29 #[.slice a l.length c,.int .i64 (i:Int)] (w5.alloc (Obj.cells #[.int .i64 s] 3)) (fun e w'=>e=.returned (.int .i64 1)∧w5.alloc (Obj.cells #[.int .i64 s] 3)=w') from by
       have h9:=refCount_any (q.map Int.ofNat) (i:Int) a c (w5.alloc (Obj.cells #[.int .i64 s] 3)) (by rw [encN_map];exact HQC.out.go (HB5.out.st HW6.out)) (by rw [List.length_map,HQ.out.1.1];omega)
       rw [List.length_map,count_map,count_one HQ.out.1.1 HQ.out.1.2.1 HQ.out.1.2.2 hi,HQ.out.1.1] at h9
       exact h9)
      have HOWN:=Lib.hid (lit_own1 w5 (.int .i64 s) 3 w5.heap.size (Nat.le_refl _))
      cases gb
      all_goals
       first
        |(have hgv2:decide (gv<d)=false:=by simpa using hgv rfl)
        |skip
       clear hgv
       go_wp2
       generalize w5.alloc (Obj.cells #[.int .i64 s] 3)=W6 at*
       go_loopg [19] l.length (fun gg v19 wr=>∃i:Nat,i≤l.length∧l.length-i≤gg∧v19=.int .i64 (i:Int)∧wr=W6)
       case atStart=>exact ⟨0,Nat.zero_le _,by omega,rfl,rfl⟩
       case round=>
        obtain ⟨i,hi,hgg,rfl,rfl⟩:=hrel
        by_cases hlt:i<l.length
        ·have hlt2:(i:Int)<(l.length:Int):=by omega
         have hi0:(0:Int)≤(i:Int):=by omega
         have HC1:=Lib.hid (HCT.out i hlt)
         go_wp2_with (go_at_call 29;refine HC1.out.mono ?_;rintro e w8 ⟨rfl,hww⟩;obtain rfl:=hww.symm)
         go_roundg (l.length-(i+1))
         case measure=>omega
         case rel=>exact ⟨i+1,by omega,Nat.le_refl _,by go_num,rfl⟩
        ·obtain rfl:i=l.length:=by omega
         clear HCT
         go_wp2
         go_loopg [18,20] l.length (fun gg v18 v20 wr=>∃i:Nat,i≤l.length∧l.length-i≤gg∧v20=.int .i64 (i:Int)∧Aside (wr.ownsRow w5.heap.size 3 1 v18 (i+1) ((byL s l (q.take i)).map encI))∧Aside (Below w5.heap.size w5 wr))
         case atStart=>exact ⟨0,Nat.zero_le _,by omega,rfl,HOWN.out,HW6.out⟩
         case round=>
          obtain ⟨i,hi,hgg,rfl,h1,h2⟩:=hrel
          have HOB:=Lib.hid h1.out
          have HBR:=Lib.hid h2.out
          clear h1 h2
          by_cases hlt:i<l.length
          ·have hlt2:(i:Int)<(l.length:Int):=by omega
           have hi0:(0:Int)≤(i:Int):=by omega
           have hiq:i<q.length:=by rw [HQ.out.1.1];exact hlt
           obtain ⟨j,hj⟩:∃j,j=q[i]:=⟨_,rfl⟩
           have hjl:j<l.length:=hj▸HQ.out.1.2.1 _ (List.getElem_mem hiq)
           obtain ⟨qb,qo,qe,qc0⟩:=(HQC.out.go (HB5.out.st HBR.out)) i (encN j) (by rw [List.getElem?_map,List.getElem?_eq_getElem hiq,hj];rfl)
           have qc:wr.cell? ⟨qb,qo+i,none⟩=some (.int .i64 (j:Int)):=qc0
           clear qc0
           have hj0:(0:Int)≤(j:Int):=by omega
           have hj1:(j:Int)<(l.length:Int):=by omega
           obtain ⟨lb,lof,le,lc9⟩:=(HLO.out.go (HB5.out.st HBR.out)).at hjl
           obtain ⟨x,hx⟩:∃x,x=l[j]:=⟨_,rfl⟩
           rw [←hx] at lc9
           have HBY:=Lib.hid (show byL s l (q.take i)++[x]=byL s l (q.take (i+1)) by
            unfold byL
            rw [List.take_succ_eq_append_getElem hiq,List.map_append,hx,←hj]
            simp [List.getD_eq_getElem?_getD,List.getElem?_eq_getElem hjl])
           obtain ⟨g6,c6,w6,r6,o6,p6,g7,t6,l6⟩:=run_appK (P:=Tryz.prog) 25 25 w5.heap.size 3 _ 8 elem_int Tryz.underlying25 u18 (i+1) ((byL s l (q.take i)).map encI) (hp_owns_go HOB.out (Below.of_al wr (Obj.cells #[.int .i64 x] 3))) ⟨wr.heap.size,0,none⟩ 1 (.int .i64 x) (gr_one (by go_simp)) rfl ⟨by omega,by omega,by have:=HBR.out.size;simp;omega⟩
           have HR6:=Lib.hid r6
           have HO6:=Lib.hid o6
           have HB6:=Lib.hid (HBR.out.trans (((Below.of_al wr (Obj.cells #[.int .i64 x] 3)).mono HBR.out.size).trans ((gr_off g7).below (by have:=HBR.out.size;simp;omega) (fun k h=>(own_lt HOB.out k h).1))))
           subst qe
           subst le
           clear r6 o6 p6 g7 t6 l6 hiq hj hx HOB
           go_wp2_with (at_builtin;refine Lib.wpList_append_run _ rfl _ _ _ _ rfl _ _ rfl rfl _ _ HR6.out ?_)
           go_roundg (l.length-(i+1))
           case measure=>omega
           case rel=>exact ⟨i+1,by omega,Nat.le_refl _,by go_num,by rw [←HBY.out,List.map_append];exact HO6.out,HB6.out⟩
          ·obtain rfl:i=l.length:=by omega
           rw [show q.take l.length=q by rw [←HQ.out.1.1,List.take_length]] at HOB
           clear HOWN HW6
           generalize u18=vb at*
           have HWZ:=Lib.hid HBR.out.size
           have HZB:=Lib.hid (fun k hk=>(own_lt HOB.out k hk).2)
           have HZO:=Lib.hid (show ∀k,vb.ownBlock=some k→k≠w.heap.size from fun k hk e=>by
            have h7:=(own_lt HOB.out k hk).1
            have h8:=World.block_lt_of_cell? _ _ y0
            have h9:=HB5.out.size
            simp only at h8
            omega)
           have y0:=cell_later (HB5.out.st HBR.out) y0
           have y1:=cell_later (HB5.out.st HBR.out) y1
           go_upto_region 22 with (fail)
           obtain ⟨ov,ob,o1,o2,hT⟩:=tour_fix (n:=n) (es:=es) (all:=s::t::l) (L:=ordL (s::t::l) 0 q) l.length (by rw [ordL_length,HQ.out.1.1]) HGZ.out hn12 hes40 (by omega) (fun x hx=>HNO.out x (ord_mem (all:=s::t::l) (u:=0) (q:=q) (by simp) (by simp) (fun i hi=>by have:=HQ.out.1.2.1 i hi;simp;omega) x hx)) HA1.out HD.out (ord_mem (all:=s::t::l) (u:=0) (q:=q) (by simp) (by simp) (fun i hi=>by have:=HQ.out.1.2.1 i hi;simp;omega))
           obtain rfl:ob=true:=o2 (by have:=(ord_ok (es:=es) (all:=s::t::l) q 0).2 HQ.out.2.1;rwa [HQ.out.1.1] at this)
           obtain rfl:ov=d:=(o1 rfl).2.trans (by have:=ord_sum (es:=es) (all:=s::t::l) q 0;rw [HQ.out.1.1] at this;exact this.trans HDE.out.symm)
           have HT22:=Lib.hid (fun (a:Option Addr) (c:Nat) (W:World) (hz:OffX (fun k=>vb.ownBlock=some k) wr W) (h:Cel W a ((ordL (s::t::l) 0 q).map encI))=>hT ao a cap c W (HES.out.go (HB5.out.st (HBR.out.trans (hz.below HWZ.out (fun k hk=>(own_lt HOB.out k hk).1))))) h)
           clear o1 o2 hT
           refine wp_region_anyX 11 rfl (ltR (.agg #[.int .i64 (n:Int),.slice ao es.length cap]) vb (.int .i64 t) t ov true wr.heap.size (l.length+2) ((byL s l q).map encI) (ordL (s::t::l) 0 q)) 4 (by decide) (fun k=>vb.ownBlock=some k) (by kernel_rfl) (by kernel_rfl) ltR_go (fun i v w w' h1 _=>ltR_off i v w w' h1) ?_ ?_
           ·refine ⟨?_,?_,?_,?_,?_,?_,?_,?_,?_,?_,?_,trivial⟩
            ·intro act w' hbe hw0 hd ho KK hK
             have q0:act.tmps.getD 5 undef=.pointer (some ⟨w.heap.size,0,none⟩):=ho 5 (by kernel_rfl)
             have f0:=hbe.cell y0 (fun e=>HZO.out _ e rfl)
             have f1:=hbe.cell y1 (fun e=>HZO.out _ e rfl)
             refine .inl ⟨goes_free rfl,?_⟩
             simp [Oper.wp,execOp,Oper.upon,go_sem,Act.eval,q0,f0,f1]
             exact hK _ w' (Below.refl _ _) rfl
            ·intro act w' hbe hw0 hd ho KK hK
             have q0:act.tmps.getD 18 undef=vb:=ho 18 (by kernel_rfl)
             refine .inl ⟨goes_free rfl,?_⟩
             simp [Oper.wp,execOp,Oper.upon,go_sem,Act.eval,q0]
             exact hK _ w' (Below.refl _ _) rfl
            ·intro act w' hbe hw0 hd ho KK hK
             have q0:act.tmps.getD 4 undef=.int .i64 t:=ho 4 (by kernel_rfl)
             refine .inl ⟨goes_free rfl,?_⟩
             simp [Oper.wp,execOp,Oper.upon,go_sem,Act.eval,q0]
             exact hK _ w' (Below.refl _ _) rfl
            ·intro act w' hbe hw0 hd ho KK hK
             have q0:act.tmps.getD 154 undef=.int .i64 t:=hd 2 (by rfl)
             have z0:=(Array.getD_eq_getD_getElem? (xs:=act.tmps) (i:=154) (d:=undef)).symm.trans q0
             refine .inl ⟨goes_free rfl,?_⟩
             simp [Oper.wp,execOp,Oper.upon,go_sem,Act.eval,q0,z0]
             refine hK _ _ ?_ ?_
             ·exact Below.of_al _ _
             ·exact ⟨w'.heap.size,rfl,by go_simp,fun e=>absurd (HZB.out _ e) (by have:=hbe.size;omega)⟩
            ·intro act w' hbe hw0 hd ho KK hK
             have q0:act.tmps.getD 153 undef=vb:=hd 1 (by rfl)
             obtain ⟨b5,e5,c5,n5⟩:=(hd 3 (by rfl):ltR (.agg #[.int .i64 (n:Int),.slice ao es.length cap]) vb (.int .i64 t) t ov true wr.heap.size (l.length+2) ((byL s l q).map encI) (ordL (s::t::l) 0 q) 3 (act.tmps.getD 155 undef) w')
             have hb1:Below wr.heap.size wr w':=hw0 rfl
             obtain ⟨g6,c6,w6,r6,o6,p6,g7,t6,l6⟩:=run_appK (P:=Tryz.prog) 25 25 w5.heap.size 3 _ 8 elem_int Tryz.underlying25 vb (l.length+1) ((byL s l q).map encI) (hp_owns_go HOB.out hb1) ⟨b5,0,none⟩ 1 (.int .i64 t) (gr_one c5) rfl ⟨by omega,by omega,by have:=HWZ.out;have:=hb1.size;omega⟩
             refine .inl ⟨goes_free rfl,?_⟩
             exact Lib.wp_append_run w' (.tmp 153) (.tmp 155) 25 25 rfl _ _ q0 e5 _ w6 r6 (hK _ w6 (gr_off g7) ⟨_,c6,rfl,by have:=Cel.of_owns o6;obtain ⟨a9,c9,e9,h9⟩:=this;cases e9;rw [←byL_ord,List.map_append];exact h9⟩)
            ·intro act w' hbe hw0 hd ho KK hK
             have q0:act.tmps.getD 152 undef=.agg #[.int .i64 (n:Int),.slice ao es.length cap]:=hd 0 (by rfl)
             obtain ⟨a6,c6,e6,h6⟩:ListI (l.length+2) (ordL (s::t::l) 0 q) (act.tmps.getD 156 undef) w':=hd 4 (by rfl)
             refine .inl ⟨goes_free rfl,?_⟩
             simp [Oper.wp,execOp,Oper.upon,go_sem,Act.eval,q0,e6]
             refine (HT22.out a6 c6 w' hbe h6).mono ?_
             rintro e w8 ⟨rfl,k2⟩
             exact hK _ w8 k2 rfl
            ·intro act w' hbe hw0 hd ho KK hK
             have q0:act.tmps.getD 157 undef=.tuple #[.int .u64 ov,.bool true]:=hd 5 (by rfl)
             refine .inl ⟨goes_free rfl,?_⟩
             simp [Oper.wp,execOp,Oper.upon,go_sem,Act.eval,q0]
             exact hK _ w' (Below.refl _ _) rfl
            ·intro act w' hbe hw0 hd ho KK hK
             have q0:act.tmps.getD 151 undef=.tuple #[.int .u64 ov,.bool true]:=hd 6 (by rfl)
             refine .inl ⟨goes_free rfl,?_⟩
             simp [Oper.wp,execOp,Oper.upon,go_sem,Act.eval,q0]
             exact hK _ w' (Below.refl _ _) rfl
            ·intro act w' hbe hw0 hd ho KK hK
             have q0:act.tmps.getD 151 undef=.tuple #[.int .u64 ov,.bool true]:=hd 6 (by rfl)
             refine .inl ⟨goes_free rfl,?_⟩
             simp [Oper.wp,execOp,Oper.upon,go_sem,Act.eval,q0]
             exact hK _ w' (Below.refl _ _) rfl
            ·intro act w' hbe hw0 hd ho KK hK
             have q0:act.tmps.getD 158 undef=.int .u64 ov:=hd 7 (by rfl)
             refine .inl ⟨goes_free rfl,?_⟩
             simp [Oper.wp,execOp,Oper.upon,go_sem,Act.eval,q0]
             exact hK _ w' (Below.refl _ _) rfl
            ·intro act w' hbe hw0 hd ho KK hK
             have q0:act.tmps.getD 159 undef=.bool true:=hd 8 (by rfl)
             refine .inl ⟨goes_free rfl,?_⟩
             simp [Oper.wp,execOp,Oper.upon,go_sem,Act.eval,q0]
             exact hK _ w' (Below.refl _ _) rfl
           ·intro vs act w8 hb8 hR hon hoff hact
            have e9:vs 9=.int .u64 ov:=hR 9 (by decide)
            have e10:vs 10=.bool true:=hR 10 (by decide)
            rw [hact]
            simp only [puts,dstAt,List.getElem?_cons_zero,List.getElem?_cons_succ,Option.bind_some,Option.getD_some,Act.put,List.length_cons,List.length_nil,Nat.reduceAdd,List.setIfInBounds_toArray,List.set_cons_zero,List.set_cons_succ]
            rw [e9,e10]
            have HB8:=Lib.hid (HB5.out.st (HBR.out.trans (hb8.below HWZ.out (fun k hk=>(own_lt HOB.out k hk).1))))
            clear hR hon hoff hact hb8 e9 e10 HT22 HOB HZB HZO y0 y1
            generalize vs 0=b0
            generalize vs 1=b1
            generalize vs 2=b2
            generalize vs 3=b3
            generalize vs 4=b4
            generalize vs 5=b5
            generalize vs 6=b6
            generalize vs 7=b7
            generalize vs 8=b8
            have HNR:=Lib.hid (trNear_any hb n es R S po s l lo lc w8 (HH.out.go HB8.out) (HLO.out.go HB8.out) (by omega) (fun v hv=>HNO.out v (near_in hv)))
            go_wp2_with fail
            refine HNR.out.mono ?_
            intro e w9 hp9
            obtain ⟨hb9,hp8⟩:=TrNearPost.split t hp9
            have HB9:=Lib.hid (HB8.out.st hb9)
            have y0:=cell_later HB9.out x0
            have y1:=cell_later HB9.out x1
            clear HNR hp9 hb9
            rcases hp8 with ⟨p,a9,c9,dd,p1,rfl,p2,p3⟩|rfl
            ·have hin9:=lastN_in (t:=t) (s:=s) p1
             obtain ⟨x,hx⟩:∃x,x=lastN s l p:=⟨_,rfl⟩
             rw [←hx] at hin9 p3
             obtain ⟨z,hz⟩:∃z:Nat,x=(z:Int):=⟨x.toNat,by have:=(HNO.out _ hin9).1;omega⟩
             have HRW:=Lib.hid (fun (W:World) (b:Option Addr) (hw:Below w9.heap.size w9 W) (h:Cel W b (([t]:List Int).map encI))=>row_one (t:=t) (lo:=b) (ao:=ao) (cap:=cap) (x:=x) hz HGZ.out hn12 hes40 (HNO.out _ hin9) (HES.out.go (HB9.out.st hw)) h (HNO.out t (List.mem_cons_of_mem _ (List.mem_cons_self ..))) HA1.out)
             obtain ⟨y,hy⟩:∃y,y=distV es x t:=⟨_,rfl⟩
             rw [←hy] at HRW p3
             have hyD:=(HD.out x hin9 t (List.mem_cons_of_mem _ (List.mem_cons_self ..))).in
             rw [←hy] at hyD
             have HSM:=Lib.hid (fun hlt=>And.intro (p3 hlt).2 (And.intro (tail_bnd HD.out p1 (p3 hlt).1) (HQ.out.2.2 p p1 (p3 hlt).1)))
             have HXE:=Lib.hid hx
             have HPC:=Lib.hid p2
             have HP1:=Lib.hid p1
             clear hin9 hx hz hy p1 p2 p3
             by_cases hpos:(0:Int)<(l.length:Int)
             ·obtain ⟨j,hj,hjl,hjx⟩:=last_at HP1.out (by omega) HXE.out
              obtain ⟨k9,hk9⟩:∃k:Nat,k=l.length-1:=⟨_,rfl⟩
              rw [←hk9] at hj
              have hwk:IntKind.i64.wrap ((l.length:Int)-1)=(k9:Int):=by rw [IntKind.wrap_i64];omega
              have hk0:(0:Int)≤(k9:Int):=by omega
              have hk1:(k9:Int)<(l.length:Int):=by omega
              obtain ⟨qb,qo,qe,qc0⟩:=HPC.out k9 (encN j) (by rw [List.getElem?_map,hj];rfl)
              have qc:w9.cell? ⟨qb,qo+k9,none⟩=some (.int .i64 (j:Int)):=qc0
              have hj0:(0:Int)≤(j:Int):=by omega
              have hj1:(j:Int)<(l.length:Int):=by omega
              obtain ⟨lb,lof,le,lc8⟩:=(HLO.out.go HB9.out).at hjl
              have lc9:w9.cell? ⟨lb,lof+j,none⟩=some (.int .i64 x):=by rw [←hjx];exact lc8
              subst qe
              subst le
              clear lc8 hk9 hj hjl hjx qc0 HPC HP1 HXE
              by_cases hfar:(4611686018427387904:Int)≤y
              ·clear HSM
               go_wp2_with (first
                |(go_at_call 30;refine (HRW.out _ _ (Below.of_al _ _) (box_cel _ _ _)).mono ?_;rintro e w10 ⟨b10,o10,c10,rfl,x10,hb10⟩;(have HB10:=Lib.hid (HB9.out.st ((Below.of_al _ _).st hb10)));clear hb10)
                |(go_at_call 12;refine (HAL.out _).mono ?_;rintro e w11 ⟨rfl,hb11⟩;(have HB11:=Lib.hid (HB4.out.st (HB10.out.st hb11)));clear hb11))
               go_ret
               exact ⟨rfl,HB.out.st HB11.out⟩
              ·obtain ⟨h7,h8,h9⟩:=HSM.out (by omega)
               have hw9:IntKind.u64.wrap (dd+y)=dd+y:=by rw [IntKind.wrap_u64];omega
               have hge:ov≤dd+y:=by omega
               clear HSM h7 h8 h9
               go_wp2_with (first
                |(go_at_call 30;refine (HRW.out _ _ (Below.of_al _ _) (box_cel _ _ _)).mono ?_;rintro e w10 ⟨b10,o10,c10,rfl,x10,hb10⟩;(have HB10:=Lib.hid (HB9.out.st ((Below.of_al _ _).st hb10)));clear hb10)
                |(go_at_call 12;refine (HAL.out _).mono ?_;rintro e w11 ⟨rfl,hb11⟩;(have HB11:=Lib.hid (HB4.out.st (HB10.out.st hb11)));clear hb11))
               go_ret
               exact ⟨rfl,HB.out.st HB11.out⟩
             ·have hs:x=s:=last_none HP1.out (by omega) HXE.out
              subst hs
              clear HPC HP1 HXE
              by_cases hfar:(4611686018427387904:Int)≤y
              ·clear HSM
               go_wp2_with (first
                |(go_at_call 30;refine (HRW.out _ _ (Below.of_al _ _) (box_cel _ _ _)).mono ?_;rintro e w10 ⟨b10,o10,c10,rfl,x10,hb10⟩;(have HB10:=Lib.hid (HB9.out.st ((Below.of_al _ _).st hb10)));clear hb10)
                |(go_at_call 12;refine (HAL.out _).mono ?_;rintro e w11 ⟨rfl,hb11⟩;(have HB11:=Lib.hid (HB4.out.st (HB10.out.st hb11)));clear hb11))
               go_ret
               exact ⟨rfl,HB.out.st HB11.out⟩
              ·obtain ⟨h7,h8,h9⟩:=HSM.out (by omega)
               have hw9:IntKind.u64.wrap (dd+y)=dd+y:=by rw [IntKind.wrap_u64];omega
               have hge:ov≤dd+y:=by omega
               clear HSM h7 h8 h9
               go_wp2_with (first
                |(go_at_call 30;refine (HRW.out _ _ (Below.of_al _ _) (box_cel _ _ _)).mono ?_;rintro e w10 ⟨b10,o10,c10,rfl,x10,hb10⟩;(have HB10:=Lib.hid (HB9.out.st ((Below.of_al _ _).st hb10)));clear hb10)
                |(go_at_call 12;refine (HAL.out _).mono ?_;rintro e w11 ⟨rfl,hb11⟩;(have HB11:=Lib.hid (HB4.out.st (HB10.out.st hb11)));clear hb11))
               go_ret
               exact ⟨rfl,HB.out.st HB11.out⟩
            ·go_wp2_with (go_at_call 12;refine (HAL.out _).mono ?_;rintro e w10 ⟨rfl,hb10⟩;(have HB10:=Lib.hid (HB4.out.st (HB9.out.st hb10)));clear hb10)
             go_ret
             exact ⟨rfl,HB.out.st HB10.out⟩
     ·have hgb:gb=false:=by
       cases hh:gb with
       |false=>rfl
       |true=>
        have h9:=(HG1.out hh).1
        rw [←ord_given' s t l] at h9
        have h10:=(ord_ok (es:=es) (all:=s::t::l) (List.range l.length) 0).1 (by rw [List.length_range];exact h9)
        rw [q1 _ (range_ord l.length)] at h10
        cases h10
      subst hgb
      clear q1 HG1 HG2 HALT HD
      go_wp2_with (go_at_call 12;refine (HAL.out _).mono ?_;rintro e w7 ⟨rfl,hb7⟩;(have HB7:=Lib.hid (HB4.out.st (HB5.out.st hb7)));clear hb7)
      go_ret
      exact ⟨rfl,HB.out.st HB7.out⟩
  ·have hk1:(k1 != 0)=true:=by simpa using e1
   have HE:=Lib.hid e1
   clear e1 HZ hl
   go_enter Tryz.func5,Tryz.ntmps5
   go_upto_region 1 with (fail)
   rw [←HV.out]
   go_wp2_with (first
    |(go_at_call 11;refine HLI.out.mono ?_;rintro e w1 ⟨rfl,hb1⟩;(have HB1:=Lib.hid hb1);(obtain ⟨x0,x1,x2,x3,x4⟩:=HQ.out.go hb1);clear hb1)
    |(go_at_call 13;refine (HBA.out _ HB1.out).mono ?_;rintro e w2 hp2;(obtain ⟨rfl,hb2⟩:=hp2.nil HE.out);(have HB2:=Lib.hid (HB1.out.st hb2));clear hb2 hp2)
    |(go_at_call 12;refine (HAL.out _).mono ?_;rintro e w7 ⟨rfl,hb7⟩;(have HB7:=Lib.hid (HB2.out.st hb7));clear hb7))
   go_ret
   exact ⟨rfl,HB.out.st HB7.out⟩
end Go.Proofs.YteaaapdjplbljaaGreat
